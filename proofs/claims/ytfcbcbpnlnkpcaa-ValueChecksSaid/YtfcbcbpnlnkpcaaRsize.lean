import Derived.Test.YtfcbcbpnlnkpcaaSize
namespace Go.Proofs.Ytfcbcbpnlnkpcaa
set_option linter.all false
open Go.RowKit
/-- What scrivenerref5.size says of a node. -/
def RSzC (n : Nd) (k : F) : Prop := ∀ (v : Value) (w : World), szF k ≤ 1000000 → Vo w (· < w.heap.size) n k v → Calls Try.prog 26 #[v] w (Ret2 (szF k + 1) (dpF k + 1) w)
set_option maxRecDepth 100000 in
set_option maxHeartbeats 1600000 in
theorem rsz_any (n : Nd) (k : F) : RSzC n k := by
  refine F.node (C := RSzC) ?_ n k
  clear n k
  intro n k ih v w hsz hv
  obtain ⟨An, cn, Ak, ck, rfl, hok, h1, h2, hn, hk⟩ := hv
  have hbx := boxw_eq w n An cn Ak k.len ck
  have hb0 := boxw_below w n An cn Ak k.len ck
  have hz0 := boxw_size w n An cn Ak k.len ck
  obtain ⟨x0, x1, x2, x3, x4, x5⟩ := boxw_six w n An cn Ak k.len ck
  generalize boxw w n An cn Ak k.len ck = Wb at *
  have IH : Hid (∀ i m j, k.get i = some (m, j) → RSzC m j) := ih
  have HZ := Lib.hid hz0
  have hdp := dpF_le k
  clear ih hz0
  obtain ⟨hk1, hk2⟩ := h2
  clear hn h1 hok
  unfold ncells
  go_enter Try.func26, Try.ntmps26
  have hs6 : Six0 Wb w.heap.size n An cn Ak k.len ck := ⟨x0, x1, x2, x3, x4, x5⟩
  have HS6 := Lib.hid hs6
  clear hs6
  go_wp2_with fail
  go_loopw [6, 4, 5, 7, 8] (fun s11 s2 s3 _ _ wr => ∃ (j p q : Nat), j ≤ k.len ∧ s11 = .int .i64 j ∧ s2 = .int .i64 ((p : Int) + 1) ∧ s3 = .int .i64 (q : Int) ∧ p ≤ szF k ∧ q ≤ dpF k ∧ Hid (szF k = p + szF (k.drop j) ∧ dpF k = max q (dpF (k.drop j))) ∧ Below (w.heap.size + 1) Wb wr) (fun s11 _ _ _ _ _ => k.len - (intOf s11).toNat)
  case atStart => exact ⟨0, 0, 0, Nat.zero_le _, rfl, rfl, rfl, by omega, by omega, ⟨by rw [F.drop0]; omega, by rw [F.drop0]; omega⟩, Below.refl _ _⟩
  case round =>
    obtain ⟨j, p, q, hj, rfl, rfl, rfl, hp, hq, HJ, hb⟩ := hrel
    obtain ⟨c0, c1, c2, c3, c4, c5⟩ := (unhide HS6).below hb (by omega)
    have hbw := hb0.trans (hb.mono (by omega))
    have hsz' : w.heap.size + 1 ≤ wr.heap.size := by have := hb.size; rw [HZ.out] at this; exact this
    by_cases hlt : j < k.len
    · obtain ⟨m, u, hg⟩ := F.get_lt k j hlt
      obtain ⟨g, off, Bn, dn, Bk, dk, rfl, hS, ⟨z0, z1, z2, z3, z4, z5⟩, hvk⟩ := (hk.keep (w' := wr) (S' := (· < wr.heap.size)) (fun b hbb => hbw.block b hbb) (fun b hbb => Nat.lt_of_lt_of_le hbb hbw.size)).at_ hg hlt
      have HI : Hid (RSzC m u) := (unhide IH) j m u hg
      have HV := Lib.hid hvk
      have hu := szF_get hg
      have hs1 := szF_drop hg
      have hs2 := dpF_drop hg
      have hs3 : szF u + 1 + p ≤ szF k := by have := HJ.out.1; omega
      have hs4 : dpF u + 1 ≤ dpF k := by have := HJ.out.2; omega
      have HN : Hid (szF k = (p + (szF u + 1)) + szF (k.drop (j + 1)) ∧ dpF k = max (max q (dpF u + 1)) (dpF (k.drop (j + 1)))) := by
        have := HJ.out.1
        have := HJ.out.2
        constructor <;> omega
      clear hvk HJ hs1 hs2
      go_wp2_with fail
      refine ((unhide HI) _ _ (by omega) HV.out).mono ?_
      rintro e w2 ⟨rfl, b2⟩
      have hb2 := hb.trans (b2.mono hsz')
      go_wp2_with fail
      exact ⟨⟨j + 1, p + (szF u + 1), max q (dpF u + 1), by omega, by go_num, congrArg (Value.int .i64) (by omega), congrArg (Value.int .i64) (by split <;> omega), by omega, by omega, HN.out, hb2⟩, by simp [intOf]; omega⟩
    · have HN : Hid (szF k = p ∧ dpF k = q) := by
        have := HJ.out
        rw [F.drop_len k j (by omega)] at this
        exact ⟨by have := this.1; simpa [szF] using this, by have := this.2; simpa [dpF] using this⟩
      go_wp2_with fail
      go_ret2
      exact ⟨tup2 (by rw [HN.out.1]; omega) (by rw [HN.out.2]; omega), hbw⟩
end Go.Proofs.Ytfcbcbpnlnkpcaa
