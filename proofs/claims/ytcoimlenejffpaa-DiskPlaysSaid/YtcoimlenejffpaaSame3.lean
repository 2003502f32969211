import Derived.Test.YtcoimlenejffpaaMem
import Derived.Deep.QuietTactic
import Derived.BigQuiet
import Derived.LoopTactic
namespace Go.Proofs.Ytcoimlenejffpaa
set_option linter.all false
open Go.RowKit

set_option maxHeartbeats 400000 in
theorem same3_q (A1 A2 : Option Addr) (n1 c1 n2 c2 : Nat) (l1 l2 : List UInt8) (w : World) (h1 : Bs w w.heap.size A1 n1 l1) (h2 : Bs w w.heap.size A2 n2 l2) (m1 : n1 ≤ maxLen) :
    Calls Try.prog 15 #[.slice A1 n1 c1, .slice A2 n2 c2] w (RetQ (.bool (decide (l1 = l2))) w) := by
  unfold maxLen at m1
  have e1 := h1.len
  have e2 := h2.len
  by_cases hn : n1 = n2
  · subst hn
    have hne : ((n1 : Int) != n1) = false := by simp
    go_enter Try.func15, Try.ntmps15
    go_wp2
    go_loopw [5] (fun i wr => ∃ k : Nat, k ≤ n1 ∧ i = .int .i64 k ∧ l1.take k = l2.take k ∧ Drew w wr) (fun i _ => n1 - (intOf i).toNat)
    case atStart => exact ⟨0, Nat.zero_le _, rfl, by simp, Drew.refl _⟩
    case round =>
      obtain ⟨k, hk, rfl, ht, hb⟩ := hrel
      have HT := Lib.hid ht
      clear ht
      by_cases hlt : k < n1
      · obtain ⟨g1, o1, b1, rfl, _, hb1, hc1⟩ := Bs.at_ (h1.below (hb.below _)) hlt
        obtain ⟨g2, o2, b2, rfl, _, hb2, hc2⟩ := Bs.at_ (h2.below (hb.below _)) hlt
        have H1 := Lib.hid hb1
        have H2 := Lib.hid hb2
        clear hb1 hb2
        by_cases hbb : b1 = b2
        · have hne : ((b1.toNat : Int) != b2.toNat) = false := by simp [hbb]
          have HB := Lib.hid hbb
          clear hbb
          go_wp2
          go_quiet (fail)
          go_wp2
          go_roundw
          case rel => exact ⟨k + 1, by omega, by go_num, take_same_snoc H1.out H2.out HT.out HB.out, hb.more _⟩
          case measure => simp [intOf]; omega
        · have hne : ((b1.toNat : Int) != b2.toNat) = true := by
            simp; intro h; exact hbb (UInt8.toNat_inj.1 (by omega))
          have hl : l1 ≠ l2 := by intro h; subst h; exact hbb (by have := H1.out.symm.trans H2.out; injection this)
          have HL := Lib.hid hl
          clear hl hbb
          go_wp2
          go_quiet (fail)
          go_wp2
          go_ret
          exact ⟨by simp [HL.out], hb.more _⟩
      · have hl : l1 = l2 := by
          have hk' : k = n1 := by omega
          have := HT.out
          rwa [List.take_of_length_le (by omega), List.take_of_length_le (by omega)] at this
        have HL := Lib.hid hl
        clear hl
        go_wp2
        go_ret
        exact ⟨by simp [HL.out], hb⟩
  · have hne : ((n1 : Int) != n2) = true := by simp; omega
    have hl : l1 ≠ l2 := by intro h; subst h; omega
    go_enter Try.func15, Try.ntmps15
    go_wp2
    go_ret
    exact ⟨by simp [hl], Drew.refl _⟩
theorem same3_any (A1 A2 : Option Addr) (n1 c1 n2 c2 : Nat) (l1 l2 : List UInt8) (w : World) (h1 : Bs w w.heap.size A1 n1 l1) (h2 : Bs w w.heap.size A2 n2 l2) (m1 : n1 ≤ maxLen) :
    Calls Try.prog 15 #[.slice A1 n1 c1, .slice A2 n2 c2] w (Ret (.bool (decide (l1 = l2))) w) :=
  (same3_q A1 A2 n1 c1 n2 c2 l1 l2 w h1 h2 m1).mono fun _ _ h => h.ret
theorem same3_eq (A1 A2 : Option Addr) (n1 c1 n2 c2 : Nat) (l1 l2 : List UInt8) (w : World) (h1 : Bs w w.heap.size A1 n1 l1) (h2 : Bs w w.heap.size A2 n2 l2) (m1 : n1 ≤ maxLen) (he : l1 = l2) :
    Calls Try.prog 15 #[.slice A1 n1 c1, .slice A2 n2 c2] w (Ret (.bool true) w) := by
  have := same3_any A1 A2 n1 c1 n2 c2 l1 l2 w h1 h2 m1
  rwa [show decide (l1 = l2) = true from by simp [he]] at this
end Go.Proofs.Ytcoimlenejffpaa
