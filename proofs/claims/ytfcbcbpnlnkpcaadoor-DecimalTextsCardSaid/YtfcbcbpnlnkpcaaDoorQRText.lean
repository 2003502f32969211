/- scrivenerref6.Text. (Printed by gen/drtext.py.) -/
import Derived.Test.YtfcbcbpnlnkpcaaDoorQDecText
import Derived.Test.YtfcbcbpnlnkpcaaDoorQRdecT
import Derived.Test.YtfcbcbpnlnkpcaaDoorQRFr
namespace Go.Proofs.YtfcbcbpnlnkpcaaDoor
set_option linter.all false
open Go.RowKit

set_option maxRecDepth 100000 in
set_option maxHeartbeats 12800000 in
theorem rtext6_0 (n : Nd) (k : F) (v : Value) (w : World) (hv : Vo w (· < w.heap.size) n k v) (h1 : numB n k = false) :
    Calls Tryd.prog 28 #[v] w (Ret (.tuple #[.string ⟨#[]⟩, .int .i64 11]) w) := by
  obtain ⟨An, cAn, Ak, cAk, rfl, hok0, _, _, _, _⟩ := id hv
  obtain ⟨W0, hW0⟩ : ∃ W0, (w.alloc (.cells #[.int .i64 n.kind, .int .i64 n.int, .int .i64 n.scale, .string (str n.text), .slice An n.names.length cAn, .slice Ak k.len cAk] 25)) = W0 := ⟨_, rfl⟩
  have ST0 : Hid (St w [⟨w.heap.size, n, k, An, cAn, Ak, cAk⟩] W0) := by
    have := (St.box_new (St.nil w) hv)
    show St _ _ _
    rw [← hW0]
    simpa [ncells, Nat.add_assoc] using this
  unfold ncells
  have HI0 : Hid (∀ W, Vo W (· < W.heap.size) n k (.agg #[.int .i64 n.kind, .int .i64 n.int, .int .i64 n.scale, .string (str n.text), .slice An n.names.length cAn, .slice Ak k.len cAk]) → Calls Tryd.prog 14 #[.agg #[.int .i64 n.kind, .int .i64 n.int, .int .i64 n.scale, .string (str n.text), .slice An n.names.length cAn, .slice Ak k.len cAk]] W (Ret (.bool (numB n k)) W)) := fun W h => is_any n k _ W h
  rw [h1] at HI0
  clear hv h1
  go_enter Tryd.func28, Tryd.ntmps28
  go_upto_region 1 with fail
  clear hW0
  obtain ⟨x0_0, x0_1, x0_2, x0_3, x0_4, x0_5⟩ : _ := ST0.out.six 0 rfl
  go_wp2_with fail
  refine (HI0.out _ (ST0.out.v 0 rfl)).mono ?_
  rintro e' u1 ⟨rfl, c1⟩
  have ST1 : Hid (St w [⟨w.heap.size, n, k, An, cAn, Ak, cAk⟩] u1) := ST0.out.step c1
  clear c1
  clear x0_0 x0_1 x0_2 x0_3 x0_4 x0_5
  go_wp2_with fail
  exact bodyPost_ret (v := .tuple #[.string ⟨#[]⟩, .int .i64 11]) (by simp [results, Tryd.results28, go_sem]) rfl ⟨rfl, ST1.out.1⟩
set_option maxRecDepth 100000 in
set_option maxHeartbeats 12800000 in
theorem rtext6_c (n : Nd) (k : F) (v : Value) (w : World) (hv : Vo w (· < w.heap.size) n k v) (h1 : numB n k = true) :
    Calls Tryd.prog 28 #[v] w (Ret (.tuple #[.string (str (textN n)), .int .i64 0]) w) := by
  obtain ⟨An, cAn, Ak, cAk, rfl, hok0, _, _, _, _⟩ := id hv
  obtain ⟨W0, hW0⟩ : ∃ W0, (w.alloc (.cells #[.int .i64 n.kind, .int .i64 n.int, .int .i64 n.scale, .string (str n.text), .slice An n.names.length cAn, .slice Ak k.len cAk] 25)) = W0 := ⟨_, rfl⟩
  have ST0 : Hid (St w [⟨w.heap.size, n, k, An, cAn, Ak, cAk⟩] W0) := by
    have := (St.box_new (St.nil w) hv)
    show St _ _ _
    rw [← hW0]
    simpa [ncells, Nat.add_assoc] using this
  unfold ncells
  obtain ⟨hn0, rfl⟩ := numB_num hok0 h1
  have HI0 : Hid (∀ W, Vo W (· < W.heap.size) n .nil (.agg #[.int .i64 n.kind, .int .i64 n.int, .int .i64 n.scale, .string (str n.text), .slice An n.names.length cAn, .slice Ak F.nil.len cAk]) → Calls Tryd.prog 14 #[.agg #[.int .i64 n.kind, .int .i64 n.int, .int .i64 n.scale, .string (str n.text), .slice An n.names.length cAn, .slice Ak F.nil.len cAk]] W (Ret (.bool true) W)) := fun W h => by rw [← h1]; exact is_any n .nil _ W h
  obtain ⟨V, hV⟩ : ∃ V, (Value.tuple #[.string (str (textN n)), .int .i64 0]) = V := ⟨_, rfl⟩
  rw [hV]
  have HV : Hid (V = .tuple #[.string (str (textN n)), .int .i64 0]) := hV.symm
  clear hV
  have hs := hn0.scale_le
  obtain ⟨T, hT⟩ : ∃ T : Nat, n.scale = T := ⟨n.scale.toNat, by omega⟩
  have ht : T ≤ 18 := by omega
  have HA : Hid (∀ w', Calls Tryd.prog 44 #[.int .i64 n.int] w' (Ret (.int .u64 (n.int.natAbs : Int)) w')) := fun w' => abs_ret n.int hn0.2.2.1 w'
  have HDc : Hid (∀ w', Calls Tryd.prog 48 #[.int .u64 (n.int.natAbs : Int)] w' (Ret (.string (str (Lib.decDigits n.int.natAbs))) w')) := fun w' => rdec_any n.int.natAbs (by have := hn0.2.2.1.1; have := hn0.2.2.1.2; omega) w'
  have HB : Hid (textN n = if n.int < 0 then 45 :: bodyN n.int.natAbs T else bodyN n.int.natAbs T) := by
    show _ = _
    unfold textN
    rw [hT]
    simp
  have HL : Hid (1 ≤ (Lib.decDigits n.int.natAbs).length ∧ (Lib.decDigits n.int.natAbs).length ≤ 21) := ⟨dec_pos _, by
    have h := Lib.itoa_length_le n.int hn0.2.2.1.1 hn0.2.2.1.2
    unfold Lib.itoa at h
    split at h
    · simp at h; omega
    · rename_i h0
      rw [show n.int.natAbs = n.int.toNat from by omega]
      exact h⟩
  have HBO := Lib.hid (bodyN_eq n.int.natAbs T)
  have HTs := Lib.hid hT
  clear hv h1 hok0 hn0 hs hT
  go_enter Tryd.func28, Tryd.ntmps28
  go_upto_region 1 with fail
  clear hW0
  obtain ⟨x0_0, x0_1, x0_2, x0_3, x0_4, x0_5⟩ : _ := ST0.out.six 0 rfl
  go_wp2_with fail
  refine (HI0.out _ (ST0.out.v 0 rfl)).mono ?_
  rintro e' u1 ⟨rfl, c1⟩
  have ST1 : Hid (St w [⟨w.heap.size, n, .nil, An, cAn, Ak, cAk⟩] u1) := ST0.out.step c1
  clear c1
  clear x0_0 x0_1 x0_2 x0_3 x0_4 x0_5
  obtain ⟨x0_0, x0_1, x0_2, x0_3, x0_4, x0_5⟩ : _ := ST1.out.six 0 rfl
  go_wp2_with fail
  refine (HA.out _).mono ?_
  rintro e' u2 ⟨rfl, c2⟩
  have ST2 : Hid (St w [⟨w.heap.size, n, .nil, An, cAn, Ak, cAk⟩] u2) := ST1.out.step c2
  clear c2
  clear x0_0 x0_1 x0_2 x0_3 x0_4 x0_5
  go_wp2_with fail
  refine (HDc.out _).mono ?_
  rintro e' u3 ⟨rfl, c3⟩
  have ST3 : Hid (St w [⟨w.heap.size, n, .nil, An, cAn, Ak, cAk⟩] u3) := ST2.out.step c3
  clear c3
  obtain ⟨y0, y1, y2, y3, y4, y5⟩ := ST3.out.six 0 rfl
  have BW5 : Hid (Below w.heap.size w u3) := ST3.out.1
  rw [HTs.out] at y2
  clear y0 y3 y4 y5 ST0 ST1 ST2 ST3
  generalize Lib.decDigits n.int.natAbs = D at *
  clear HTs HA HDc HI0
  rcases Nat.eq_zero_or_pos T with h0 | h0
  · have HF : Hid (bodyN n.int.natAbs T = D) := by show _ = _; rw [HBO.out, if_pos h0, padTo_stop (by have := HL.out; omega)]
    have q2 : ¬ ((0 : Int) < (T : Int)) := by omega
    have hsz : (str D).size = D.length := str_sz D
    have g1 : ¬ str D = ByteArray.empty := fun e => by
      have h : D.length = 0 := by
        have h := congrArg ByteArray.size e
        rw [str_sz] at h
        exact h
      have := HL.out; omega
    have g2 : ¬ (9223372036854775807 < 1 + (str D).size) := by have := HL.out; omega
    clear h0
    by_cases hneg : n.int < 0
    · have HG : Hid (V = .tuple #[.string (⟨#[45]⟩ ++ str D), .int .i64 0]) := by show _ = _; rw [HV.out, HB.out, if_pos hneg, HF.out, str_cons]
      go_wp2_with fail
      exact bodyPost_ret (v := .tuple #[.string (⟨#[45]⟩ ++ str D), .int .i64 0]) (by simp [results, Tryd.results28, go_sem]) rfl ⟨by rw [HG.out], BW5.out⟩
    · have HG : Hid (V = .tuple #[.string (str D), .int .i64 0]) := by show _ = _; rw [HV.out, HB.out, if_neg hneg, HF.out]
      go_wp2_with fail
      exact bodyPost_ret (v := .tuple #[.string (str D), .int .i64 0]) (by simp [results, Tryd.results28, go_sem]) rfl ⟨by rw [HG.out], BW5.out⟩
  · have q2 : (0 : Int) < (T : Int) := by omega
    go_wp2_with fail
    go_loopw [4] (fun s4 wr => ∃ l : List UInt8, s4 = .string (str l) ∧ l.length ≤ 30 ∧ Hid (padTo (T + 1) l = padTo (T + 1) D) ∧ wr = u3) (fun s4 _ => match s4 with | .string s => T + 1 - s.size | _ => 0)
    case atStart => exact ⟨D, rfl, by have := HL.out.2; omega, rfl, rfl⟩
    case round =>
      obtain ⟨l, rfl, hl, HP, rfl⟩ := hrel
      have hsz : (str l).size = l.length := str_sz l
      by_cases hle : l.length ≤ T
      · have q1 : ((l.length : Nat) : Int) ≤ (T : Int) := by omega
        have g2 : ¬ (9223372036854775807 < 1 + (str l).size) := by omega
        by_cases g1 : str l = ByteArray.empty
        · have h0 : l = [] := by
            cases l with
            | nil => rfl
            | cons a l => exact absurd (congrArg ByteArray.size g1) (by rw [str_sz]; simp)
          subst h0
          go_wp2_with fail
          go_roundw
          case rel => exact ⟨[48], rfl, by simp, by show _ = _; rw [← HP.out, padTo_step (by simp)], by first | rfl | trivial⟩
          case measure => simp [ByteArray.size, str]; try omega
        · go_wp2_with fail
          go_roundw
          case rel => exact ⟨48 :: l, by rw [str_cons], by simp; omega, by show _ = _; rw [← HP.out, padTo_step (by omega)], by first | rfl | trivial⟩
          case measure =>
            show T + 1 - ((⟨#[48]⟩ : ByteArray) ++ str l).size < T + 1 - (str l).size
            rw [ByteArray.size_append, str_sz, show (⟨#[48]⟩ : ByteArray).size = 1 from rfl]
            omega
      · have q1 : ¬ (((l.length : Nat) : Int) ≤ (T : Int)) := by omega
        have HF : Hid (bodyN n.int.natAbs T = pointAt T l) := by show _ = _; rw [HBO.out, if_neg (by omega), ← HP.out, padTo_stop (by omega)]
        have g1 : ¬ str l = ByteArray.empty := fun e => by
          have h : l.length = 0 := by
            have h := congrArg ByteArray.size e
            rw [str_sz] at h
            exact h
          omega
        have g2 : ¬ (9223372036854775807 < 1 + (str l).size) := by omega
        clear HP h0
        go_upto_region 7 with fail
        go_quiet (fail)
        rw [str_point]
        have g3 : ¬ str (pointAt T l) = ByteArray.empty := fun e => by
          have := congrArg ByteArray.size e
          rw [str_sz, pointAt_length] at this
          simp at this
        have g4 : ¬ (9223372036854775807 < 1 + (str (pointAt T l)).size) := by rw [str_sz, pointAt_length]; omega
        have BW6 : Hid (Below w.heap.size w (wr.drewN nq)) := below_drewN BW5.out _
        have y6 : (wr.drewN nq).cell? ⟨w.heap.size, 1, none⟩ = some (.int .i64 n.int) := y1
        generalize pointAt T l = P at *
        by_cases hneg : n.int < 0
        · have HG : Hid (V = .tuple #[.string (⟨#[45]⟩ ++ str P), .int .i64 0]) := by show _ = _; rw [HV.out, HB.out, if_pos hneg, HF.out, str_cons]
          go_wp2_with fail
          exact bodyPost_ret (v := .tuple #[.string (⟨#[45]⟩ ++ str P), .int .i64 0]) (by simp [results, Tryd.results28, go_sem]) rfl ⟨by rw [HG.out], BW6.out⟩
        · have HG : Hid (V = .tuple #[.string (str P), .int .i64 0]) := by show _ = _; rw [HV.out, HB.out, if_neg hneg, HF.out]
          go_wp2_with fail
          exact bodyPost_ret (v := .tuple #[.string (str P), .int .i64 0]) (by simp [results, Tryd.results28, go_sem]) rfl ⟨by rw [HG.out], BW6.out⟩
theorem rtext6_any (n : Nd) (k : F) (v : Value) (w : World) (hv : Vo w (· < w.heap.size) n k v) :
    Calls Tryd.prog 28 #[v] w (Ret (textR n k) w) := by
  unfold textR
  cases h1 : numB n k with
  | false => exact rtext6_0 n k v w hv h1
  | true => exact rtext6_c n k v w hv h1
end Go.Proofs.YtfcbcbpnlnkpcaaDoor
