/- slices.Index, of texts. -/
import Derived.Test.YtfcbcbpnlnkpcaaQSclone
import Derived.Lib.Strings
import Derived.Lib.Space
namespace Go.Proofs.Ytfcbcbpnlnkpcaa
set_option linter.all false
open Go.RowKit
/-- The first place of a text among texts; -1: it is not there. -/
def idxS (x : List UInt8) : List (List UInt8) → Nat → Int
  | [], _ => -1
  | a :: l, i => if x = a then (i : Int) else idxS x l (i + 1)
theorem idxS_drop {x a : List UInt8} {l : List (List UInt8)} {i : Nat} (h : l[i]? = some a) : idxS x (l.drop i) i = if x = a then (i : Int) else idxS x (l.drop (i + 1)) (i + 1) := by
  obtain ⟨hlt, e⟩ := List.getElem?_eq_some_iff.1 h
  rw [List.drop_eq_getElem_cons hlt, e]
  rfl
theorem str_eq {a b : List UInt8} : ((str a).toList == (str b).toList) = decide (a = b) := by
  have e : ∀ l : List UInt8, (str l).toList = l := fun l => by rw [ByteArray.toList_eq]; simp [str]
  rw [e, e]
  by_cases h : a = b <;> simp [h]
set_option maxRecDepth 100000 in
set_option maxHeartbeats 1600000 in
theorem sindex_any (A : Option Addr) (n c : Nat) (l : List (List UInt8)) (x : List UInt8) (w : World) (h : Rd w w.heap.size 1 A n (l.map sv)) (hn : n ≤ 8796093021952) :
    Calls Try.prog 32 #[.slice A n c, .string (str x)] w (RetS (.int .i64 (idxS x l 0)) w) := by
  have hl : l.length = n := by have := Rd.len h; simpa using this
  have HR : Hid (idxS x l 0 = idxS x (l.drop 0) 0) := rfl
  generalize idxS x l 0 = R at *
  go_enter Try.func32, Try.ntmps32
  go_wp2_with fail
  go_loopw [8] (fun s8 wr => ∃ j : Nat, s8 = .int .i64 (j : Int) ∧ j ≤ n ∧ Hid (R = idxS x (l.drop j) j) ∧ wr = w) (fun s8 _ => n - (intOf s8).toNat)
  case atStart => exact ⟨0, rfl, Nat.zero_le _, HR, rfl⟩
  case round =>
    obtain ⟨j, rfl, hj, HJ, rfl⟩ := hrel
    by_cases hlt : j < n
    · obtain ⟨g, off, u, rfl, hg, hu, hc⟩ := Rd.at_ h hlt
      obtain ⟨a, ha⟩ : ∃ a, l[j]? = some a := ⟨l[j]'(by omega), List.getElem?_eq_getElem (by omega)⟩
      have hua : u = .string (str a) := by
        rw [List.getElem?_map, ha] at hu
        exact (Option.some.inj hu).symm
      subst hua
      have HD : Hid (R = if x = a then (j : Int) else idxS x (l.drop (j + 1)) (j + 1)) := by show _ = _; rw [HJ.out, idxS_drop ha]
      have HE := Lib.hid (str_eq (a := x) (b := a))
      clear HJ ha hu
      by_cases hx : x = a
      · have HV : Hid (R = (j : Int)) := by show _ = _; rw [HD.out, if_pos hx]
        have q1 : ((str x).toList == (str a).toList) = true := by rw [HE.out, decide_eq_true hx]
        have q2 : (str x).toList = (str a).toList := by rw [hx]
        clear hx HD HE
        go_wp2_with fail
        go_ret
        exact ⟨by rw [HV.out]; rfl, rfl⟩
      · have HV : Hid (R = idxS x (l.drop (j + 1)) (j + 1)) := by show _ = _; rw [HD.out, if_neg hx]
        have q1 : ((str x).toList == (str a).toList) = false := by rw [HE.out, decide_eq_false hx]
        have q2 : ¬ (str x).toList = (str a).toList := by simpa using q1
        clear hx HD HE
        go_wp2_with fail
        go_roundw
        case rel => exact ⟨j + 1, by first | rfl | (congr 1), by omega, HV, by first | rfl | trivial⟩
        case measure => simp [intOf]; omega
    · have hjn : j = n := by omega
      have HV : Hid (R = -1) := by show _ = _; rw [HJ.out, List.drop_eq_nil_of_le (by omega)]; rfl
      clear HJ
      go_wp2_with fail
      go_ret
      exact ⟨by rw [HV.out]; rfl, rfl⟩
end Go.Proofs.Ytfcbcbpnlnkpcaa
