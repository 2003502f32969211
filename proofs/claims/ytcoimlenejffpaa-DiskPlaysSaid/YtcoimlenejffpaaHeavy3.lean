/- heavy: how long a script's texts are. -/
import Derived.Test.YtcoimlenejffpaaOpenSt
import Derived.LoopTactic
import Derived.BigQuiet
import Derived.Deep.QuietTactic
namespace Go.Proofs.Ytcoimlenejffpaa
set_option linter.all false
open Go.RowKit
def stLen (x : St) : Nat := x.a.length + x.to.length + x.b.length
/-- What the first k steps weigh. -/
def wtT (l : List St) (k : Nat) : Nat := ((l.take k).map stLen).sum
theorem wt_succ {l : List St} {i : Nat} {x : St} (h : l[i]? = some x) : wtT l (i + 1) = wtT l i + stLen x := by
  unfold wtT
  rw [List.take_add_one, h]
  simp
def heavyB (l : List St) : Bool := (List.range (Nat.min l.length 120)).any fun i => decide (8000 < wtT l (i + 1))
theorem wt_mono {l : List St} {i j : Nat} (h : i ≤ j) : wtT l i ≤ wtT l j := by
  unfold wtT
  have e : l.take j = l.take i ++ (l.take j).drop i := by
    have := List.take_append_drop i (l.take j)
    rw [List.take_take, Nat.min_eq_left h] at this
    exact this.symm
  rw [e, List.map_append, List.sum_append]
  omega
theorem heavy_no {l : List St} (h : heavyB l = false) {i : Nat} {x : St} (hi : i < 120) (hx : l[i]? = some x) : stLen x ≤ 8000 := by
  unfold heavyB at h
  rw [List.any_eq_false] at h
  have hl : i < l.length := (List.getElem?_eq_some_iff.1 hx).1
  have h1 := h i (List.mem_range.2 (Nat.lt_min.2 ⟨hl, hi⟩))
  have h2 := wt_succ hx
  simp only [decide_eq_true_eq] at h1
  omega
set_option maxRecDepth 100000 in
set_option maxHeartbeats 1600000 in
theorem heavy_any (A : Option Addr) (c : Nat) (l : List St) (w : World) (h : Steps w w.heap.size A l) (hc : l.length ≤ c ∧ c ≤ 140737488351232) :
    Calls Try.prog 22 #[.slice A l.length c] w (fun e w' => e = .returned (.bool (heavyB l)) ∧ ∃ n, w' = w.drewN n) := by
  obtain ⟨n, hn⟩ : ∃ n, n = l.length := ⟨_, rfl⟩
  rw [← hn] at hc ⊢
  have HN := Lib.hid hn
  have H := Lib.hid h
  clear h hn
  go_enter Try.func22, Try.ntmps22
  go_wp2_with fail
  go_loopw [3, 4] (fun s3 s4 wr => ∃ (i m : Nat), i ≤ n ∧ i ≤ 120 ∧ m ≤ 8000 ∧ s3 = .int .i64 (m : Int) ∧ s4 = .int .i64 (i : Int) ∧ Hid (m = wtT l i) ∧ (∃ k, wr = w.drewN k)) (fun _ s4 _ => 121 - (intOf s4).toNat)
  case atStart => exact ⟨0, 0, by omega, by omega, by omega, rfl, rfl, rfl, 0, rfl⟩
  case round =>
    obtain ⟨i, m, h1, h2, h3, rfl, rfl, HM, k, rfl⟩ := hrel
    rcases Nat.lt_or_ge i n with hlt | hlt
    · rcases Nat.lt_or_ge i 120 with hl2 | hl2
      · have q1 : decide ((i : Int) < (n : Int)) = true := decide_eq_true (by omega)
        have q2 : decide ((i : Int) < 120) = true := decide_eq_true (by omega)
        obtain ⟨g, off, x, hA, hg, hx, hok, k0, k1, k2, k3, k4⟩ := H.out.at_ (by rw [← HN.out]; exact hlt)
        subst hA
        have ha : x.a.length ≤ 140737488351232 := hok.a
        have hto : x.to.length ≤ 140737488351232 := hok.to
        have hb : x.b.length ≤ 140737488351232 := by have := hok.c; omega
        have HX := Lib.hid hx
        have sa : (str x.a).size = x.a.length := str_sz _
        have sto : (str x.to).size = x.to.length := str_sz _
        obtain ⟨m1, hm1⟩ : ∃ m1, m1 = m + x.a.length + x.to.length + x.b.length := ⟨_, rfl⟩
        have HW : Hid (m1 = wtT l (i + 1)) := by show _ = _; rw [wt_succ hx, hm1, HM.out]; unfold stLen; omega
        clear hok hx
        go_wp2_with fail
        go_quiet (fail)
        rcases Nat.lt_or_ge 8000 m1 with hm | hm
        · have q3 : decide ((m : Int) + (x.a.length : Int) + (x.to.length : Int) + (x.b.length : Int) > 8000) = true := decide_eq_true (by omega)
          have HB : Hid (heavyB l = true) := by
            show _ = _
            unfold heavyB
            rw [List.any_eq_true]
            exact ⟨i, List.mem_range.2 (Nat.lt_min.2 ⟨by rw [← HN.out]; exact hlt, hl2⟩), by rw [decide_eq_true_eq, ← HW.out]; exact hm⟩
          go_wp2_with fail
          go_ret
          exact ⟨by rw [HB.out]; rfl, k + nq, rfl⟩
        · have q3 : decide ((m : Int) + (x.a.length : Int) + (x.to.length : Int) + (x.b.length : Int) > 8000) = false := decide_eq_false (by omega)
          go_wp2_with fail
          go_roundw
          case rel => exact ⟨i + 1, m1, by omega, by omega, by omega, congrArg (Value.int .i64) (by omega), by go_num, HW.out, k + nq, rfl⟩
          case measure => simp [intOf]; omega
      · have hi : i = 120 := by omega
        subst hi
        have q1 : decide ((120 : Int) < (n : Int)) = true := decide_eq_true (by omega)
        have HB : Hid (heavyB l = false) := by
          show _ = _
          unfold heavyB
          rw [List.any_eq_false]
          intro j hj
          have hj2 : j < Nat.min l.length 120 := List.mem_range.1 hj
          have hj3 : j < 120 := (Nat.lt_min.1 hj2).2
          have := wt_mono (l := l) (show j + 1 ≤ 120 by omega)
          rw [decide_eq_true_eq]
          have h9 := HM.out
          omega
        go_wp2_with fail
        go_ret
        exact ⟨by rw [HB.out]; rfl, k, rfl⟩
    · have hi : i = n := by omega
      have q1 : decide ((i : Int) < (n : Int)) = false := decide_eq_false (by omega)
      have HB : Hid (heavyB l = false) := by
        show _ = _
        unfold heavyB
        rw [List.any_eq_false]
        intro j hj
        have hj2 : j < Nat.min l.length 120 := List.mem_range.1 hj
        have hj3 : j < l.length := (Nat.lt_min.1 hj2).1
        have := wt_mono (l := l) (show j + 1 ≤ i by rw [hi, HN.out]; omega)
        rw [decide_eq_true_eq]
        have h9 := HM.out
        omega
      go_wp2_with fail
      go_ret
      exact ⟨by rw [HB.out]; rfl, k, rfl⟩
end Go.Proofs.Ytcoimlenejffpaa
