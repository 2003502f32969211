/- value.Size and scrivenerref5.Size: how many parts, how deep. -/
import Derived.Test.YtfcbcbpnlnkpcaaBox
import Derived.Test.YtfcbcbpnlnkpcaaSzp
import Derived.LoopTactic
namespace Go.Proofs.Ytfcbcbpnlnkpcaa
set_option linter.all false
open Go.RowKit
/-- Behind a call: two numbers. -/
def Ret2 (a b : Nat) (w : World) (e : Ending) (w' : World) : Prop := e = .returned (.tuple #[.int .i64 (a : Int), .int .i64 (b : Int)]) ∧ Below w.heap.size w w'
theorem tup2 {a b a' b' : Int} (h1 : a = a') (h2 : b = b') : Ending.returned (.tuple #[.int .i64 a, .int .i64 b]) = Ending.returned (.tuple #[.int .i64 a', .int .i64 b']) := by rw [h1, h2]
/-- What value.size says of a node. -/
def SzC (n : Nd) (k : F) : Prop := ∀ (v : Value) (w : World), szF k ≤ 1000000 → Vo w (· < w.heap.size) n k v → Calls Try.prog 25 #[v] w (Ret2 (szF k + 1) (dpF k + 1) w)
set_option maxRecDepth 100000 in
set_option maxHeartbeats 1600000 in
theorem sz_any (n : Nd) (k : F) : SzC n k := by
  refine F.node (C := SzC) ?_ n k
  clear n k
  intro n k ih v w hsz hv
  obtain ⟨An, cn, Ak, ck, rfl, hok, h1, h2, hn, hk⟩ := hv
  have hbx := boxw_eq w n An cn Ak k.len ck
  have hb0 := boxw_below w n An cn Ak k.len ck
  have hz0 := boxw_size w n An cn Ak k.len ck
  obtain ⟨x0, x1, x2, x3, x4, x5⟩ := boxw_six w n An cn Ak k.len ck
  generalize boxw w n An cn Ak k.len ck = Wb at *
  have IH : Hid (∀ i m j, k.get i = some (m, j) → SzC m j) := ih
  have HZ := Lib.hid hz0
  have hdp := dpF_le k
  clear ih hz0
  obtain ⟨hk1, hk2⟩ := h2
  clear hn h1 hok
  unfold ncells
  go_enter Try.func25, Try.ntmps25
  go_wp2_with fail
  go_loopw [11, 2, 3, 6, 7] (fun s11 s2 s3 _ _ wr => ∃ (j p q : Nat), j ≤ k.len ∧ s11 = .int .i64 j ∧ s2 = .int .i64 (p : Int) ∧ s3 = .int .i64 (q : Int) ∧ p ≤ szF k ∧ q ≤ dpF k ∧ Hid (szF k = p + szF (k.drop j) ∧ dpF k = max q (dpF (k.drop j))) ∧ Below w.heap.size w wr) (fun s11 _ _ _ _ _ => k.len - (intOf s11).toNat)
  case atStart => exact ⟨0, 0, 0, Nat.zero_le _, rfl, rfl, rfl, by omega, by omega, ⟨by rw [F.drop0]; omega, by rw [F.drop0]; omega⟩, hb0⟩
  case round =>
    obtain ⟨j, p, q, hj, rfl, rfl, rfl, hp, hq, HJ, hb⟩ := hrel
    by_cases hlt : j < k.len
    · obtain ⟨m, u, hg⟩ := F.get_lt k j hlt
      obtain ⟨g, off, Bn, dn, Bk, dk, rfl, hS, ⟨z0, z1, z2, z3, z4, z5⟩, hvk⟩ := (hk.keep (w' := wr) (S' := (· < wr.heap.size)) (fun b hbb => hb.block b hbb) (fun b hbb => Nat.lt_of_lt_of_le hbb hb.size)).at_ hg hlt
      have HI : Hid (SzC m u) := (unhide IH) j m u hg
      have hg2 := boxw_eq wr m Bn dn Bk u.len dk
      have hgb := boxw_below wr m Bn dn Bk u.len dk
      obtain ⟨y0, y1, y2, y3, y4, y5⟩ := boxw_six wr m Bn dn Bk u.len dk
      have HV := Lib.hid (hvk.upto hgb)
      have hgz := boxw_size wr m Bn dn Bk u.len dk
      have hu := szF_get hg
      have hs1 := szF_drop hg
      have hs2 := dpF_drop hg
      have hs3 : szF u + 1 + p ≤ szF k := by have := HJ.out.1; omega
      have hs4 : dpF u + 1 ≤ dpF k := by have := HJ.out.2; omega
      have HN : Hid (szF k = (p + (szF u + 1)) + szF (k.drop (j + 1)) ∧ dpF k = max (max q (dpF u + 1)) (dpF (k.drop (j + 1)))) := by
        have := HJ.out.1
        have := HJ.out.2
        constructor <;> omega
      clear hvk HJ hs1 hs2
      go_wp2_with fail
      refine ((unhide HI) _ _ (by omega) HV.out).mono ?_
      rintro e w2 ⟨rfl, b2⟩
      have hb2 := (hb.trans (hgb.mono hb.size)).trans (b2.mono (by have := hb.size; omega))
      clear hgz
      go_wp2_with fail
      have hs := HN.out
      exact ⟨⟨j + 1, p + (szF u + 1), max q (dpF u + 1), by omega, by go_num, congrArg (Value.int .i64) (by omega), congrArg (Value.int .i64) (by split <;> omega), by omega, by omega, HN.out, hb2⟩, by simp [intOf]; omega⟩
    · have HN : Hid (szF k = p ∧ dpF k = q) := by
        have := HJ.out
        rw [F.drop_len k j (by omega)] at this
        exact ⟨by have := this.1; simpa [szF] using this, by have := this.2; simpa [dpF] using this⟩
      go_wp2_with fail
      go_ret2
      exact ⟨tup2 (by rw [HN.out.1]; omega) (by rw [HN.out.2]; omega), hb⟩
end Go.Proofs.Ytfcbcbpnlnkpcaa
