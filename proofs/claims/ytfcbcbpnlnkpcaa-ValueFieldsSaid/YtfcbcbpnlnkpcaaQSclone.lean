/- slices.Clone and slices.Index, of texts. -/
import Derived.Test.YtfcbcbpnlnkpcaaQMemV
import Derived.Test.YtfcbcbpnlnkpcaaQBase
import Derived.Lib.SliceRun
import Derived.LoopTactic
namespace Go.Proofs.Ytfcbcbpnlnkpcaa
set_option linter.all false
open Go.RowKit
set_option maxHeartbeats 800000 in
theorem sclone_any (A : Option Addr) (n c : Nat) (l : List (List UInt8)) (w : World) (h : Rd w w.heap.size 1 A n (l.map sv)) (hn : n ≤ 8796093021952) :
    Calls Try.prog 49 #[.slice A n c] w (RetOwn 9 1 n (l.map sv) w) := by
  have hl : l.length = n := by have := Rd.len h; simpa using this
  have he := fun (w : World) (a : Option Addr) (n c : Nat) => Lib.run_eql_slice_nil (P := Try.prog) w 22 9 a n c 0 0 Try.underlying22
  cases A with
  | none =>
    have h0 : n = 0 := by
      rcases Nat.eq_zero_or_pos n with h0 | h0
      · exact h0
      · obtain ⟨g, off, hA, _⟩ := h.2 h0
        cases hA
    subst h0
    have hnil : l = [] := List.eq_nil_of_length_eq_zero hl
    subst hnil
    go_enter Try.func49, Try.ntmps49
    go_wp2
    go_ret
    exact ⟨none, 0, rfl, World.ownsRow_nil _ _ _ _, Below.refl _ _, by omega, by omega⟩
  | some ad =>
    go_enter Try.func49, Try.ntmps49
    go_wp2_with (first
      | (at_builtin
         refine wpS_append rfl (.tmp 5) (.tmp 6) rfl w.heap.size _ 0 [] rfl (own_empty w _ _) w.heap.size (some ad) n c l rfl (Rd.alloc h (Nat.le_refl _) _) n l (by omega) rfl (by omega) (by simp) ?_
         intro A1 c1 wa oa ba hc1 hm1))
    go_ret
    exact ⟨A1, c1, rfl, oa, ((Below.refl _ _).alloc (Nat.le_refl _) _).trans ba, hc1, hm1⟩
end Go.Proofs.Ytfcbcbpnlnkpcaa
