/- strings.Cut at one byte. -/
import Derived.Test.YtfcbcbpnlnkpcaaDoorQLayd2
import Derived.Test.YtfcbcbpnlnkpcaaDoorQDigits
import Derived.Lib.IndexLaws
import Derived.Deep.Cut
import Derived.Deep.QuietTactic
import Derived.BigQuiet
import Derived.IntWalk
namespace Go.Proofs.YtfcbcbpnlnkpcaaDoor
set_option linter.all false
open Go.RowKit
def ctB (l : List UInt8) (c : UInt8) : List UInt8 × List UInt8 × Bool := if 0 ≤ Lib.indexByte l c then (l.take (Lib.indexByte l c).toNat, l.drop ((Lib.indexByte l c).toNat + 1), true) else (l, [], false)
theorem str_ext (l : List UInt8) (a b : Nat) : (str l).extract a b = str ((l.take b).drop a) := by
  apply ByteArray.ext
  simp [str, ByteArray.data_extract, List.drop_take]
set_option maxRecDepth 100000 in
set_option maxHeartbeats 1600000 in
theorem slcut_any (l : List UInt8) (c : UInt8) (hl : l.length ≤ 140737488351232) (w : World) :
    Calls Tryd.prog 67 #[.string (str l), .string ⟨#[c]⟩] w (Ret (.tuple #[.string (str (ctB l c).1), .string (str (ctB l c).2.1), .bool (ctB l c).2.2]) w) := by
  have HI : Hid (∀ w, Calls Tryd.prog 83 #[.string (str l), .string ⟨#[c]⟩] w (RetS (.int .i64 (Lib.indexByte l c)) w)) := fun w => index_one l c w
  have hge := Lib.indexByte_ge l c
  have hsz : (str l).size = l.length := str_sz l
  by_cases h : Lib.indexByte l c = -1
  · have HV : Hid (ctB l c = (l, [], false)) := by show _ = _; unfold ctB; rw [h]; rfl
    rw [h] at HI
    generalize ctB l c = V at *
    clear h hge
    obtain rfl := HV.out
    go_enter Tryd.func67, Tryd.ntmps67
    go_wp2_with (go_at_call 83; refine (HI.out _).mono ?_; rintro e w' ⟨rfl, rfl⟩)
    exact bodyPost_ret (v := .tuple #[.string (str l), .string ⟨#[]⟩, .bool false]) (by simp [results, Tryd.results67, go_sem]) rfl ⟨rfl, Below.refl _ _⟩
  · obtain ⟨o, ho⟩ : ∃ o : Nat, Lib.indexByte l c = o := ⟨(Lib.indexByte l c).toNat, by omega⟩
    have hs := Lib.indexByte_some ho
    have hlt : o < l.length := (List.getElem?_eq_some_iff.1 hs.1).1
    have HV : Hid (ctB l c = (l.take o, l.drop (o + 1), true)) := by show _ = _; unfold ctB; rw [ho]; rfl
    rw [ho] at HI
    generalize ctB l c = V at *
    clear h hge ho hs
    obtain rfl := HV.out
    have HX : Hid ((str l).extract (o + 1) l.length = str (l.drop (o + 1)) ∧ (str l).extract 0 o = str (l.take o)) := ⟨by rw [str_ext, List.take_length], by rw [str_ext]; rfl⟩
    go_enter Tryd.func67, Tryd.ntmps67
    go_upto_region 3 with (go_at_call 83; refine (HI.out _).mono ?_; rintro e w' ⟨rfl, rfl⟩)
    go_quiet (fail)
    rw [HX.out.1, HX.out.2]
    go_wp2_with fail
    exact bodyPost_ret (v := .tuple #[.string (str (l.take o)), .string (str (l.drop (o + 1))), .bool true]) (by simp [results, Tryd.results67, go_sem]) rfl ⟨rfl, below_drewN (Below.refl _ _) _⟩
set_option maxRecDepth 100000 in
set_option maxHeartbeats 1600000 in
theorem cut_any (l : List UInt8) (c : UInt8) (hl : l.length ≤ 140737488351232) (w : World) :
    Calls Tryd.prog 49 #[.string (str l), .string ⟨#[c]⟩] w (Ret (.tuple #[.string (str (ctB l c).1), .string (str (ctB l c).2.1), .bool (ctB l c).2.2]) w) := by
  have HI : Hid (∀ w, Calls Tryd.prog 67 #[.string (str l), .string ⟨#[c]⟩] w (Ret (.tuple #[.string (str (ctB l c).1), .string (str (ctB l c).2.1), .bool (ctB l c).2.2]) w)) := fun w => slcut_any l c hl w
  generalize ctB l c = V at *
  obtain ⟨v1, v2, v3⟩ := V
  go_enter Tryd.func49, Tryd.ntmps49
  go_wp2_with fail
  refine (HI.out _).mono ?_
  rintro e w1 ⟨rfl, b1⟩
  have B1 := Lib.hid b1
  clear b1
  go_wp2_with fail
  exact bodyPost_ret (v := .tuple #[.string (str v1), .string (str v2), .bool v3]) (by simp [results, Tryd.results49, go_sem]) rfl ⟨rfl, B1.out⟩
end Go.Proofs.YtfcbcbpnlnkpcaaDoor
