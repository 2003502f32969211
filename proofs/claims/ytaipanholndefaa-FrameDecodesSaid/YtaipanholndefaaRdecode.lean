/- scrivenerref4.Decode answers 'fdec' of the bytes, the content in memory of its own. -/
import Derived.Test.YtaipanholndefaaDecode
namespace Go.Proofs.Ytaipanholndefaa
set_option linter.all false
open Go.RowKit
set_option maxRecDepth 100000 in
set_option maxHeartbeats 1600000 in
theorem rdec_any (A : Option Addr) (n c : Nat) (l : List UInt8) (w : World) (h : Bs w w.heap.size A n l) (hnc : n ≤ c) (hm : c ≤ 9223372036854775807) (hn : n ≤ 1000000) :
    Calls Try.prog 42 #[.slice A n c] w (RetD (fdec l) w) := by
  have e0 := h.len
  by_cases h8 : n < 8
  · have HD := Lib.hid (fdec_1 (l := l) (by omega))
    go_enter Try.func42, Try.ntmps42
    go_wp2
    go_ret3
    exact retD_err HD.out (Below.refl _ _)
  · have hl8 : ¬ l.length < 8 := by omega
    obtain ⟨g, off, _, hA, _⟩ := Bs.at_ h (k := 0) (by omega)
    subst hA
    have hN := rs_lt l
    generalize hNN : (rs l).1 = N at *
    have HNN := Lib.hid hNN
    clear hNN
    have hcut4 : Bs w w.heap.size (some ⟨g, off + 4, none⟩) (n - 4) (l.drop 4) := by
      have := Bs.cut h (k := 4) (cap := c) (by omega) hnc
      rwa [if_neg (by omega), Option.map_some, add_mk] at this
    have ht4 : Bs w w.heap.size (some ⟨g, off, none⟩) 4 (l.take 4) := Bs.take h (by omega)
    go_enter Try.func42, Try.ntmps42
    go_wp2_with fail
    refine (rrs_any (some ⟨g, off, none⟩) n c l _ h (by omega)).mono ?_
    rintro e w1 ⟨rfl, b1⟩
    rw [HNN.out]
    go_wp2_with fail
    refine (rrs_any _ _ _ (l.drop 4) _ (hcut4.upto b1 b1.size) (by omega)).mono ?_
    rintro e w2 ⟨rfl, b2⟩
    have b02 := bseq b1 b2
    go_wp2_with fail
    refine (rsumn_any _ _ _ (l.take 4) _ (ht4.upto b02 b02.size) (by omega)).mono ?_
    rintro e w3 ⟨rfl, b3⟩
    have b03 := bseq b02 b3
    have h2 := h.upto b03 b03.size
    by_cases hs : (rs (l.drop 4)).1 = cn (l.take 4)
    · have HS := Lib.hid hs
      have q0 := eq_of_nat hs
      clear hs
      by_cases h3 : 524288 < N
      · have HD : Hid (fdec l = ([], 0, 5)) := fdec_3 hl8 HS.out (by rw [HNN.out]; exact h3)
        go_wp2
        go_ret3
        exact retD_err HD.out b03
      · by_cases h4 : n < N + 12
        · have HD : Hid (fdec l = ([], 0, 2)) := fdec_4 hl8 HS.out (by rw [HNN.out]; exact h3) (by rw [HNN.out]; omega)
          go_wp2
          go_ret3
          exact retD_err HD.out b03
        · have hcut : Bs w3 w3.heap.size (some ⟨g, off + (8 + N), none⟩) (n - (8 + N)) (l.drop (8 + N)) := by
            have := Bs.cut h2 (k := 8 + N) (cap := c) (by omega) hnc
            rwa [if_neg (by omega), Option.map_some, add_mk] at this
          have htk : Bs w3 w3.heap.size (some ⟨g, off, none⟩) (8 + N) (l.take (8 + N)) := Bs.take h2 (by omega)
          go_wp2_with fail
          refine (rrs_any _ _ _ _ _ hcut (by omega)).mono ?_
          rintro e w4 ⟨rfl, b4⟩
          have htk4 := htk.upto b4 b4.size
          go_wp2_with fail
          refine (rsumn_any _ _ _ _ _ htk4 (by omega)).mono ?_
          rintro e w5 ⟨rfl, b5⟩
          have htk5 := htk4.upto b5 b5.size
          have b05 := bseq (bseq b03 b4) b5
          by_cases h5 : (rs (l.drop (8 + N))).1 = cn (l.take (8 + N))
          · have HD : Hid (fdec l = ((l.drop 8).take N, N + 12, 0)) := by
              have := fdec_6 hl8 HS.out (by rw [HNN.out]; exact h3) (by rw [HNN.out]; omega) (by rw [HNN.out, Nat.add_comm N 8]; exact h5)
              rwa [HNN.out] at this
            have q1 := eq_of_nat h5
            clear h5
            have hcut8 : Bs w5 w5.heap.size (some ⟨g, off + 8, none⟩) N ((l.drop 8).take N) := by
              have := Bs.cut htk5 (k := 8) (cap := c) (by omega) (by omega)
              rwa [if_neg (by omega), Option.map_some, add_mk, List.drop_take, show 8 + N - 8 = N from by omega] at this
            have hcut9 : Bs (w5.alloc (Obj.cells #[] 5)) w5.heap.size (some ⟨g, off + 8, none⟩) (8 + N - 8) ((l.drop 8).take N) := by
              rw [show 8 + N - 8 = N from by omega]
              exact hcut8.alloc (Nat.le_refl _) _
            go_wp2_with (first
              | (at_builtin
                 refine wpB_append rfl (.tmp 52) (.tmp 55) rfl w5.heap.size _ 0 [] rfl (own_empty w5 _ _) w5.heap.size (some ⟨g, off + 8, none⟩) (8 + N - 8) _ ((l.drop 8).take N) rfl hcut9 N ((l.drop 8).take N) (by omega) rfl (by omega) (by simp) ?_
                 intro A6 c6 w6 o6 b6 hc6 hm6))
            go_ret3
            have hlen : ((l.drop 8).take N).length = N := by simp; omega
            rw [HD.out]
            refine ⟨A6, c6, ?_, ?_, b05.trans ((((Below.refl _ _).alloc (Nat.le_refl _) _).trans b6).mono b05.size), by simp only [hlen]; exact hc6, hm6⟩
            · simp only [hlen]
              show Ending.returned (.tuple #[_, .int .i64 (8 + (N : Int) + 4), _]) = _
              rw [show (8 + (N : Int) + 4) = ((N + 12 : Nat) : Int) from by omega]
              rfl
            · simp only [hlen]
              exact own_more o6 b05.size
          · have HD : Hid (fdec l = ([], 0, 4)) := fdec_5 hl8 HS.out (by rw [HNN.out]; exact h3) (by rw [HNN.out]; omega) (by rw [HNN.out, Nat.add_comm N 8]; exact h5)
            have q1 := ne_of_nat h5
            clear h5
            go_wp2
            go_ret3
            exact retD_err HD.out b05
    · have HD : Hid (fdec l = ([], 0, 4)) := fdec_2 hl8 hs
      have q0 := ne_of_nat hs
      clear hs
      go_wp2
      go_ret3
      exact retD_err HD.out b03
end Go.Proofs.Ytaipanholndefaa
