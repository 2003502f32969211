/- frame.Decode and scrivenerref4.Decode: each answers 'fdec' of the bytes, the content in memory of its own. -/
import Derived.Test.YtaipanholndefaaFrame
import Derived.Test.YtaipanholndefaaClone
namespace Go.Proofs.Ytaipanholndefaa
set_option linter.all false
open Go.RowKit
/-- Behind a call: it answers bytes of its own, how many were taken, an error's number. -/
def RetD (r : List UInt8 × Nat × Nat) (w : World) (e : Ending) (w' : World) : Prop :=
  ∃ A c, e = .returned (.tuple #[.slice A r.1.length c, .int .i64 (r.2.1 : Int), .int .i64 (r.2.2 : Int)]) ∧ w'.ownsRow w.heap.size 5 1 (.slice A r.1.length c) r.1.length (r.1.map bv) ∧ Below w.heap.size w w' ∧ r.1.length ≤ c ∧ c ≤ 9223372036854775807
theorem retD_err {l : List UInt8} {a b : Nat} (hd : fdec l = ([], a, b)) {w w' : World} (hb : Below w.heap.size w w') :
    RetD (fdec l) w (.returned (.tuple #[.slice none 0 0, .int .i64 (a : Int), .int .i64 (b : Int)])) w' := by
  rw [hd]
  exact ⟨none, 0, rfl, World.ownsRow_nil _ _ _ _, hb, by simp, by omega⟩

theorem fdec_1 {l : List UInt8} (h : l.length < 8) : fdec l = ([], 0, 2) := by unfold fdec; rw [if_pos h]
theorem fdec_2 {l : List UInt8} (h : ¬ l.length < 8) (h2 : (rs (l.drop 4)).1 ≠ cn (l.take 4)) : fdec l = ([], 0, 4) := by unfold fdec; rw [if_neg h, if_pos h2]
theorem fdec_3 {l : List UInt8} (h : ¬ l.length < 8) (h2 : (rs (l.drop 4)).1 = cn (l.take 4)) (h3 : 524288 < (rs l).1) : fdec l = ([], 0, 5) := by unfold fdec; rw [if_neg h, if_neg (by simpa using h2), if_pos h3]
theorem fdec_4 {l : List UInt8} (h : ¬ l.length < 8) (h2 : (rs (l.drop 4)).1 = cn (l.take 4)) (h3 : ¬ 524288 < (rs l).1) (h4 : l.length < (rs l).1 + 12) : fdec l = ([], 0, 2) := by unfold fdec; rw [if_neg h, if_neg (by simpa using h2), if_neg h3, if_pos h4]
theorem fdec_5 {l : List UInt8} (h : ¬ l.length < 8) (h2 : (rs (l.drop 4)).1 = cn (l.take 4)) (h3 : ¬ 524288 < (rs l).1) (h4 : ¬ l.length < (rs l).1 + 12) (h5 : (rs (l.drop ((rs l).1 + 8))).1 ≠ cn (l.take ((rs l).1 + 8))) : fdec l = ([], 0, 4) := by unfold fdec; rw [if_neg h, if_neg (by simpa using h2), if_neg h3, if_neg h4, if_pos h5]
theorem fdec_6 {l : List UInt8} (h : ¬ l.length < 8) (h2 : (rs (l.drop 4)).1 = cn (l.take 4)) (h3 : ¬ 524288 < (rs l).1) (h4 : ¬ l.length < (rs l).1 + 12) (h5 : (rs (l.drop ((rs l).1 + 8))).1 = cn (l.take ((rs l).1 + 8))) : fdec l = ((l.drop 8).take (rs l).1, (rs l).1 + 12, 0) := by unfold fdec; rw [if_neg h, if_neg (by simpa using h2), if_neg h3, if_neg h4, if_neg (by simpa using h5)]
theorem ne_of_nat {a b : Nat} (h : a ≠ b) : ((a : Int) != b) = true := by simp; omega
theorem eq_of_nat {a b : Nat} (h : a = b) : ((a : Int) != b) = false := by simp; omega

set_option maxRecDepth 100000 in
set_option maxHeartbeats 1600000 in
theorem dec_any (A : Option Addr) (n c : Nat) (l : List UInt8) (w : World) (h : Bs w w.heap.size A n l) (hnc : n ≤ c) (hm : c ≤ 9223372036854775807) (hn : n ≤ 1000000) :
    Calls Try.prog 41 #[.slice A n c] w (RetD (fdec l) w) := by
  have e0 := h.len
  by_cases h8 : n < 8
  · have HR := Lib.hid (rb_short (l := l) (by omega))
    have HD := Lib.hid (fdec_1 (l := l) (by omega))
    go_enter Try.func41, Try.ntmps41
    go_wp2_with fail
    refine (orb_any A n c l _ h hnc hm).mono ?_
    rintro e w1 ⟨rfl, b1⟩
    rw [HR.out]
    go_wp2
    go_ret3
    exact retD_err HD.out b1
  · have hl8 : ¬ l.length < 8 := by omega
    obtain ⟨g, off, _, hA, _⟩ := Bs.at_ h (k := 0) (by omega)
    subst hA
    obtain ⟨V, hV⟩ : ∃ V, rb l = (V, 0) := ⟨(rb l).1, by rw [rb_long (by omega)]⟩
    have hdiv := head_div (l := l) (by omega)
    have ht := head_test (l := l) (by omega)
    have hN := rs_lt l
    rw [hV] at hdiv ht
    generalize hNN : (rs l).1 = N at *
    have HRB := Lib.hid hV
    have HDIV : Hid ((V : Int) / 4294967296 % 4294967296 = (N : Int)) := by show _ = _; simp only at hdiv; omega
    have HNN := Lib.hid hNN
    have HT := Lib.hid ht
    clear hV hdiv ht hNN
    have hd64 := hd_lt N hN
    go_enter Try.func41, Try.ntmps41
    go_wp2_with fail
    refine (orb_any (some ⟨g, off, none⟩) n c l _ h hnc hm).mono ?_
    rintro e w1 ⟨rfl, b1⟩
    rw [HRB.out]
    have h1 := (h.below b1).more b1.size
    go_wp2_with fail
    rw [HDIV.out]
    refine (headOf_any N hN _).mono ?_
    rintro e w2 ⟨rfl, b2⟩
    have h2 := h1.upto b2 b2.size
    have b02 := bseq b1 b2
    by_cases hs : (rs (l.drop 4)).1 = cn (l.take 4)
    · have HS := Lib.hid hs
      have q0 := eq_of_nat (HT.out.2 hs)
      clear hs
      by_cases h3 : 524288 < N
      · have HD : Hid (fdec l = ([], 0, 5)) := fdec_3 hl8 HS.out (by rw [HNN.out]; exact h3)
        go_wp2
        go_ret3
        exact retD_err HD.out b02
      · by_cases h4 : n < N + 12
        · have HD : Hid (fdec l = ([], 0, 2)) := fdec_4 hl8 HS.out (by rw [HNN.out]; exact h3) (by rw [HNN.out]; omega)
          go_wp2
          go_ret3
          exact retD_err HD.out b02
        · have hcut : Bs w2 w2.heap.size (some ⟨g, off + (8 + N), none⟩) (n - (8 + N)) (l.drop (8 + N)) := by
            have := Bs.cut h2 (k := 8 + N) (cap := c) (by omega) hnc
            rwa [if_neg (by omega), Option.map_some, add_mk] at this
          have htk : Bs w2 w2.heap.size (some ⟨g, off, none⟩) (8 + N) (l.take (8 + N)) := Bs.take h2 (by omega)
          go_wp2_with fail
          refine (ors_any _ _ _ _ _ hcut (by omega)).mono ?_
          rintro e w3 ⟨rfl, b3⟩
          have htk3 := htk.upto b3 b3.size
          go_wp2_with fail
          refine (sumn_any _ _ _ _ _ htk3 (by omega)).mono ?_
          rintro e w4 ⟨rfl, b4⟩
          have htk4 := htk3.upto b4 b4.size
          have b04 := bseq (bseq b02 b3) b4
          by_cases h5 : (rs (l.drop (8 + N))).1 = cn (l.take (8 + N))
          · have HD : Hid (fdec l = ((l.drop 8).take N, N + 12, 0)) := by
              have := fdec_6 hl8 HS.out (by rw [HNN.out]; exact h3) (by rw [HNN.out]; omega) (by rw [HNN.out, Nat.add_comm N 8]; exact h5)
              rwa [HNN.out] at this
            have q1 := eq_of_nat h5
            clear h5
            have hcut8 : Bs w4 w4.heap.size (some ⟨g, off + 8, none⟩) N ((l.drop 8).take N) := by
              have := Bs.cut htk4 (k := 8) (cap := c) (by omega) (by omega)
              rwa [if_neg (by omega), Option.map_some, add_mk, List.drop_take, show 8 + N - 8 = N from by omega] at this
            go_wp2_with fail
            refine (clone_any _ N (c - 8) _ _ hcut8 (by omega)).mono ?_
            rintro e w5 ⟨A5, c5, rfl, o5, b5, hc5, hm5⟩
            go_wp2
            go_ret3
            have hlen : ((l.drop 8).take N).length = N := by simp; omega
            rw [HD.out]
            refine ⟨A5, c5, ?_, ?_, bseq b04 b5, by simp only [hlen]; exact hc5, hm5⟩
            · simp only [hlen]
              show Ending.returned (.tuple #[_, .int .i64 (8 + (N : Int) + 4), _]) = _
              rw [show (8 + (N : Int) + 4) = ((N + 12 : Nat) : Int) from by omega]
              rfl
            · simp only [hlen]
              exact own_more o5 b04.size
          · have HD : Hid (fdec l = ([], 0, 4)) := fdec_5 hl8 HS.out (by rw [HNN.out]; exact h3) (by rw [HNN.out]; omega) (by rw [HNN.out, Nat.add_comm N 8]; exact h5)
            have q1 := ne_of_nat h5
            clear h5
            go_wp2
            go_ret3
            exact retD_err HD.out b04
    · have HD : Hid (fdec l = ([], 0, 4)) := fdec_2 hl8 hs
      have q0 := ne_of_nat (fun e => hs (HT.out.1 e))
      clear hs
      go_wp2
      go_ret3
      exact retD_err HD.out b02
end Go.Proofs.Ytaipanholndefaa
