/- spoil: bytes of the call's own are written over, and grown: of what was there nothing else turns. -/
import Derived.Test.YtcoimlenejffpaaRow
import Derived.Test.YtcoimlenejffpaaMapp
import Derived.LoopTactic
namespace Go.Proofs.Ytcoimlenejffpaa
set_option linter.all false
open Go.RowKit
theorem Row.at_ {w : World} {A : Option Addr} {n c k : Nat} {b : List UInt8} (h : Row w (.slice A n c) b) (hk : k < b.length) :
    ∃ g u, A = some ⟨g, 0, none⟩ ∧ n = b.length ∧ b[k]? = some u ∧ w.cell? ⟨g, k, none⟩ = some (bv u) ∧ w.frozen? ⟨g, k, none⟩ = false ∧ g < w.heap.size := by
  rcases h with ⟨e, rfl⟩ | ⟨g, cap, cur, e, hb, h1, h2, h3, h4⟩
  · simp at hk
  · injection e with e1 e2 e3
    have hu := List.getElem?_eq_getElem hk
    refine ⟨g, b[k], e1, e2, hu, ?_, Blk.free hb k, Blk.lt hb⟩
    have h5 := congrArg (fun l => l[k]?) h4
    simp only [List.getElem?_take, List.getElem?_map, hk, if_true, hu, Option.map_some] at h5
    have hkc : k < cur.size := by omega
    have h6 : cur[k]? = some (bv b[k]) := by
      rw [Array.getElem?_toList] at h5
      exact h5
    exact (Blk.cell hb k).trans h6
theorem Row.set_ {w : World} {g n c k : Nat} {b : List UInt8} (h : Row w (.slice (some ⟨g, 0, none⟩) n c) b) (hk : k < b.length) (u : UInt8) : Row (w.setCell ⟨g, k, none⟩ (bv u)) (.slice (some ⟨g, 0, none⟩) n c) (b.set k u) := by
  rcases h with ⟨e, rfl⟩ | ⟨g', cap, cur, e, hb, h1, h2, h3, h4⟩
  · simp at hk
  · injection e with e1 e2 e3
    injection e1 with e1
    injection e1 with e1
    subst e1; subst e2; subst e3
    refine .inr ⟨g, c, cur.setIfInBounds k (bv u), by rw [List.length_set], Blk.set hb k _, by rw [List.length_set]; exact h1, by simpa using h2, h3, ?_⟩
    rw [List.length_set, Array.toList_setIfInBounds, List.take_set, h4, List.map_set]
set_option maxRecDepth 100000 in
set_option maxHeartbeats 1600000 in
theorem spoil3_any (A : Option Addr) (n c : Nat) (b : List UInt8) (w : World) (h : Row w (.slice A n c) b) (hn : b.length ≤ 1073741824) :
    Calls Try.prog 38 #[.slice A n c] w (fun e w' => e = .returned (.tuple #[]) ∧ w.grownBy w' (Value.slice A n c).ownBlock) := by
  obtain ⟨w0, hw0⟩ : ∃ w0, w.alloc (.cells #[.int .u8 99] 5) = w0 := ⟨_, rfl⟩
  have b0 : Below w.heap.size w w0 := by rw [← hw0]; exact (Below.refl _ _).alloc (Nat.le_refl _) _
  have h0 : Row w0 (.slice A n c) b := h.keep fun i hi => b0.block i (h.lt hi)
  have hrd : Bs w0 w0.heap.size (some ⟨w.heap.size, 0, none⟩) 1 [99] := by
    rw [← hw0]
    have := Rd.one_new w (.int .u8 99) 5
    have h9 := this.more (show w.heap.size + 1 ≤ (w.alloc (.cells #[.int .u8 99] 5)).heap.size by simp)
    exact h9
  have HA := Lib.hid (And.intro b0 (And.intro h0 hrd))
  clear b0 h0 hrd h
  go_enter Try.func38, Try.ntmps38
  go_wp2_with (first
    | (at_builtin
       try rw [hw0]
       refine wp_append_row rfl (.tmp 4) (.tmp 5) rfl (.slice A n c) b rfl HA.out.2.1 w0.heap.size (some ⟨w.heap.size, 0, none⟩) 1 1 [99] rfl HA.out.2.2 (by omega) ?_
       intro v1 w1 r1 g1 o1
       obtain ⟨A1, c1, hv1, hc1, hm1⟩ := r1.form
       subst hv1))
  have hN : (b ++ [99]).length = b.length + 1 := by simp
  obtain ⟨g, u, hA1, _, _, _, _, hgl⟩ := r1.at_ (k := 0) (by omega)
  subst hA1
  have HG : Hid (some g = (Value.slice A n c).ownBlock ∨ g = w0.heap.size) := by
    rcases o1 with o1 | o1
    · exact .inl o1
    · injection o1 with o1; exact .inr o1
  have HG1 : Hid (w.grownBy w1 (Value.slice A n c).ownBlock) := gb_trans (w1 := w0) ⟨HA.out.1.os, HA.out.1.tape, HA.out.1.output, HA.out.1.size, fun i hi _ => HA.out.1.block i hi⟩ g1
  have HR1 := Lib.hid r1
  obtain ⟨N, hN9⟩ : ∃ N, N = b.length + 1 := ⟨_, rfl⟩
  have hn1 : N ≤ 1073741825 := by omega
  rw [hN] at hc1 HR1
  have q0 : ((b.length : Int) + 1) = (N : Int) := by omega
  rw [← hN9] at hc1 HR1 ⊢
  have HN := Lib.hid (And.intro hN hN9)
  have HW0 : Hid (w.heap.size ≤ w0.heap.size) := HA.out.1.size
  clear hN g1 r1 o1 HA hN9 q0
  go_loopw [3] (fun s3 wr => ∃ (k : Nat) (m : List UInt8), k ≤ N ∧ s3 = .int .i64 k ∧ Hid (m.length = N) ∧ Row wr (.slice (some ⟨g, 0, none⟩) N c1) m ∧ Hid (w1.grownBy wr (some g))) (fun s3 _ => N - (intOf s3).toNat)
  case atStart => exact ⟨0, _, by omega, rfl, by show _ = _; rw [HN.out.1, HN.out.2], HR1.out, ⟨rfl, rfl, rfl, Nat.le_refl _, fun _ _ _ => rfl⟩⟩
  case round =>
    obtain ⟨k, m, hk, rfl, HM, ho, HB⟩ := hrel
    by_cases hlt : k < N
    · obtain ⟨g', u', hA, _, _, hcell, hfz, _⟩ := ho.at_ (show k < m.length by rw [HM.out]; exact hlt)
      injection hA with hA
      injection hA with hA
      subst hA
      have HS : Hid (Row (wr.setCell ⟨g, k, none⟩ (bv 98)) (.slice (some ⟨g, 0, none⟩) N c1) (m.set k 98)) := ho.set_ (by rw [HM.out]; exact hlt) 98
      have q1 : decide ((k : Int) < (N : Int)) = true := decide_eq_true (by omega)
      clear ho
      go_wp2_with fail
      go_roundw
      case rel => exact ⟨k + 1, m.set k 98, by omega, by go_num, by show _ = _; rw [List.length_set]; exact HM.out, HS.out, gb_trans HB.out (gb_set _ _ _ _)⟩
      case measure => simp [intOf]; omega
    · obtain rfl : k = N := by omega
      clear ho hlt hk
      go_wp2_with fail
      go_end0
      refine ⟨rfl, ?_⟩
      rcases HG.out with h9 | h9
      · rw [← h9] at HG1 ⊢
        exact gb_trans HG1.out HB.out
      · have h8 := HG1.out
        have h7 := HB.out
        have h6 := HW0.out
        exact ⟨h7.os.trans h8.os, h7.tape.trans h8.tape, h7.output.trans h8.output, Nat.le_trans h8.size h7.size, fun i hi hne => (h7.block i (Nat.lt_of_lt_of_le hi h8.size) (fun e => by injection e with e; omega)).trans (h8.block i hi hne)⟩
end Go.Proofs.Ytcoimlenejffpaa
