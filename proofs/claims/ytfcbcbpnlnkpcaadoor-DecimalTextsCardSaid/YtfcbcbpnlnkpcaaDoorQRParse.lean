/- scrivenerref6.Parse. -/
import Derived.Test.YtfcbcbpnlnkpcaaDoorQRPtt
import Derived.Test.YtfcbcbpnlnkpcaaDoorQRPft
import Derived.Test.YtfcbcbpnlnkpcaaDoorQRPtf
import Derived.Test.YtfcbcbpnlnkpcaaDoorQRPff
namespace Go.Proofs.YtfcbcbpnlnkpcaaDoor
set_option linter.all false
open Go.RowKit
theorem rparse6_any (s : List UInt8) (hs : s.length ≤ 140737488351232) (w : World) :
    Calls Tryd.prog 30 #[.string (str s)] w (Ret (vans (parseR s)) w) := by
  cases hn : Lib.hasPrefix s [45] with
  | true =>
    obtain ⟨t, rfl⟩ : ∃ t, s = 45 :: t := by
      cases s with
      | nil => cases hn
      | cons b t =>
        refine ⟨t, ?_⟩
        have h2 : ((45 : UInt8) == b && List.isPrefixOf [] t) = true := hn
        rw [Bool.and_eq_true] at h2
        have : (45 : UInt8) = b := by simpa using h2.1
        rw [this]
    have e : parseR (45 :: t) = parse2 true t := by
      unfold parseR
      rw [hn]
      unfold Lib.trimPrefix
      rw [hn]
      rfl
    have hl : t.length ≤ 140737488351232 := by simp at hs; omega
    rw [e, parse2_form]
    cases hd : (ctB t 46).2.2 with
    | true => exact rparse_true_true t _ _ (by have := ctB_view t; rw [hd] at this; exact this) hl w
    | false => exact rparse_true_false t _ _ (by have := ctB_view t; rw [hd] at this; exact this) hl w
  | false =>
    have e : parseR s = parse2 false s := by
      unfold parseR
      rw [hn]
      unfold Lib.trimPrefix
      rw [hn]
      rfl
    rw [e, parse2_form]
    cases hd : (ctB s 46).2.2 with
    | true => exact rparse_false_true s _ _ (by have := ctB_view s; rw [hd] at this; exact this) hn hs w
    | false => exact rparse_false_false s _ _ (by have := ctB_view s; rw [hd] at this; exact this) hn hs w
end Go.Proofs.YtfcbcbpnlnkpcaaDoor
