/- scrivenerref6.Parse, one case. (Printed by gen/drparse.py.) -/
import Derived.Test.YtfcbcbpnlnkpcaaDoorQRPcom
namespace Go.Proofs.YtfcbcbpnlnkpcaaDoor
set_option linter.all false
open Go.RowKit
set_option maxRecDepth 100000 in
set_option maxHeartbeats 12800000 in
theorem rparse_false_true (t wh pa : List UInt8) (hv : View t wh pa true) (hm : Lib.hasPrefix t [45] = false) (hl : t.length ≤ 140737488351232) (w : World) :
    Calls Tryd.prog 30 #[.string (str t)] w (Ret (vans (if form2 false wh pa true = true then lsR (sg false (dval (wh ++ pa))) pa.length else (zN, 3))) w) := by
  have hTL : t.length = wh.length + pa.length + 1 := by
    rcases hv.1 with ⟨e, rfl, _⟩ | ⟨e, rfl⟩
    · cases e
    · simp; omega
  have HTL := Lib.hid hTL
  clear hTL
  obtain ⟨R, hR⟩ : ∃ R : Nd × Int, R = (if form2 false wh pa true = true then lsR (sg false (dval (wh ++ pa))) pa.length else (zN, 3)) := ⟨_, rfl⟩
  rw [← hR]
  have HR := Lib.hid hR
  clear hR
  have HVw := Lib.hid hv
  have HVe : Hid (form2 false wh pa true = false → vans R = .tuple #[.agg #[.int .i64 0, .int .i64 0, .int .i64 0, .string ⟨#[]⟩, .slice none 0 0, .slice none 0 0], .int .i64 3]) := fun h => by
    rw [HR.out, h]
    rfl
  have rb : Blk (w.alloc (.cells #[.int .i64 0, .int .i64 0, .int .i64 0, .string ⟨#[]⟩, .slice none 0 0, .slice none 0 0] 25)) w.heap.size #[.int .i64 0, .int .i64 0, .int .i64 0, .string ⟨#[]⟩, .slice none 0 0, .slice none 0 0] 25 := Blk.new _ _ _
  have bw := below_ra w (.cells #[.int .i64 0, .int .i64 0, .int .i64 0, .string ⟨#[]⟩, .slice none 0 0, .slice none 0 0] 25)
  generalize hW : w.alloc (.cells #[.int .i64 0, .int .i64 0, .int .i64 0, .string ⟨#[]⟩, .slice none 0 0, .slice none 0 0] 25) = W at *
  have RB := Lib.hid rb
  have BW := Lib.hid bw
  have hlt0 : w.heap.size < W.heap.size := rb.lt
  clear rb bw hv
  have hszt : (str t).size = t.length := str_sz t
  go_enter Tryd.func30, Tryd.ntmps30
  go_upto_region 2 with fail
  go_cut [5] (fun s5 wx => s5 = .bool false ∧ W = wx)
  case first =>
    cases t with
    | nil => go_wp2_with fail; go_meet; all_goals exact ⟨rfl, rfl⟩
    | cons b0 tq =>
      have h48 : ¬ b0 = 45 := by
        rintro rfl
        simp [Lib.hasPrefix] at hm
      have hix : ∀ h : 0 < (str (b0 :: tq)).size, (str (b0 :: tq))[0]'h = b0 := fun h => rfl
      have q1 : ((b0.toNat : Int) == 45) = false := by
        simp
        intro e
        exact h48 (UInt8.toNat_inj.1 (by simpa using (by omega : b0.toNat = 45)))
      have q3 : ¬ (b0.toNat : Int) = 45 := by simpa using q1
      clear h48 HVw HVe HR
      go_wp2_with fail
      go_meet
      exact ⟨rfl, rfl⟩
  case rest =>
    obtain ⟨rfl, rfl⟩ := hcut
    go_upto_region 8 with fail
    go_loopw [6, 7, 8] (fun s6 s7 s8 wr => ∃ (i n c : Nat) (A : Option Addr) (d : List UInt8) (pt : Int), s6 = .int .i64 pt ∧ s7 = .slice A n c ∧ s8 = .int .i64 (i : Int) ∧ i ≤ t.length ∧ n ≤ i ∧ Hid (L1 wh pa i d pt) ∧ Hid (d.length = n) ∧ wr.ownsRow W.heap.size 5 1 (.slice A n c) n (d.map bv) ∧ Below W.heap.size W wr) (fun _ _ s8 _ => t.length - (intOf s8).toNat)
    case atStart => exact ⟨0, 0, 0, none, [], -1, rfl, rfl, rfl, Nat.zero_le _, Nat.le_refl _, L1_start wh pa, rfl, World.ownsRow_nil _ _ _ _, Below.refl _ _⟩
    case round =>
      obtain ⟨i, n, c, A, d, pt, rfl, rfl, rfl, hi, hni, HL, HDn, ho, hb⟩ := hrel
      by_cases hlt : i < t.length
      · have hq : (i : Int) < (t.length : Int) := by omega
        obtain ⟨b, hbe⟩ : ∃ b, t[i] = b := ⟨_, rfl⟩
        have HBT : Hid (t[i]? = some b) := by show _ = _; rw [← hbe]; exact List.getElem?_eq_getElem hlt
        have hix : ∀ h : i < (str t).size, (str t)[i]'h = b := fun h => hbe
        have RR : Hid (Blk wr w.heap.size #[.int .i64 0, .int .i64 0, .int .i64 0, .string ⟨#[]⟩, .slice none 0 0, .slice none 0 0] 25) := RB.out.below hb hlt0
        have BR : Hid (Below w.heap.size w wr) := BW.out.trans (hb.mono BW.out.size)
        clear hbe
        by_cases h46 : b = 46 ∧ pt < 0
        · obtain ⟨rfl, hp⟩ := h46
          have HN := Lib.hid (L1_dot HVw.out HL.out HBT.out hp)
          clear HL HBT
          go_wp2_with fail
          go_roundw
          case rel => exact ⟨i + 1, n, c, A, d, (i : Int), rfl, rfl, by first | rfl | (congr 1), by omega, by omega, HN, HDn, ho, hb⟩
          case measure => simp [intOf]; omega
        · have g1 : ((b.toNat : Int) == 46 && decide (pt < 0)) = false := by
            rw [Bool.and_eq_false_iff]
            by_cases h : b = 46
            · right; exact decide_eq_false (fun h' => h46 ⟨h, h'⟩)
            · left
              simp
              intro e
              exact h (UInt8.toNat_inj.1 (by simpa using (by omega : b.toNat = 46)))
          have H46 := Lib.hid h46
          cases hd : isD b with
          | false =>
            have HV := Lib.hid (HVe.out (L1_bad HVw.out HL.out HBT.out hd H46.out false))
            have hd2 : ¬ (48 ≤ b.toNat ∧ b.toNat ≤ 57) := fun h => by
              unfold isD at hd
              rw [decide_eq_true h.1, decide_eq_true h.2] at hd
              cases hd
            clear HL HBT hd h46
            by_cases h1 : b = 46
            · subst h1
              have hp : ¬ pt < 0 := fun h => H46.out ⟨rfl, h⟩
              clear g1 hd2
              have p0 : wr.cell? ⟨w.heap.size, 0, none⟩ = some (.int .i64 0) := RR.out.cell 0
              have q_0 := RR.out.free 0
              have p1 : wr.cell? ⟨w.heap.size, 1, none⟩ = some (.int .i64 0) := RR.out.cell 1
              have q_1 := RR.out.free 1
              have p2 : wr.cell? ⟨w.heap.size, 2, none⟩ = some (.int .i64 0) := RR.out.cell 2
              have q_2 := RR.out.free 2
              have p3 : wr.cell? ⟨w.heap.size, 3, none⟩ = some (.string ⟨#[]⟩) := RR.out.cell 3
              have q_3 := RR.out.free 3
              have p4 : wr.cell? ⟨w.heap.size, 4, none⟩ = some (.slice none 0 0) := RR.out.cell 4
              have q_4 := RR.out.free 4
              have p5 : wr.cell? ⟨w.heap.size, 5, none⟩ = some (.slice none 0 0) := RR.out.cell 5
              have q_5 := RR.out.free 5
              go_wp2_with fail
              exact ret6 Tryd.results30 rfl rfl (RR.out) (Nat.le_refl _) (BR.out) HV.out
            · have q1 : ((b.toNat : Int) == 46) = false := by
                simp
                intro e
                exact h1 (UInt8.toNat_inj.1 (by simpa using (by omega : b.toNat = 46)))
              have q3 : ¬ (b.toNat : Int) = 46 := by simpa using q1
              clear g1 h1
              by_cases h2 : 48 ≤ b.toNat
              · have q48 : (48 : Int) ≤ (b.toNat : Int) := by omega
                have q57 : ¬ (b.toNat : Int) ≤ 57 := by omega
                clear h2 hd2
                have p0 : wr.cell? ⟨w.heap.size, 0, none⟩ = some (.int .i64 0) := RR.out.cell 0
                have q_0 := RR.out.free 0
                have p1 : wr.cell? ⟨w.heap.size, 1, none⟩ = some (.int .i64 0) := RR.out.cell 1
                have q_1 := RR.out.free 1
                have p2 : wr.cell? ⟨w.heap.size, 2, none⟩ = some (.int .i64 0) := RR.out.cell 2
                have q_2 := RR.out.free 2
                have p3 : wr.cell? ⟨w.heap.size, 3, none⟩ = some (.string ⟨#[]⟩) := RR.out.cell 3
                have q_3 := RR.out.free 3
                have p4 : wr.cell? ⟨w.heap.size, 4, none⟩ = some (.slice none 0 0) := RR.out.cell 4
                have q_4 := RR.out.free 4
                have p5 : wr.cell? ⟨w.heap.size, 5, none⟩ = some (.slice none 0 0) := RR.out.cell 5
                have q_5 := RR.out.free 5
                go_wp2_with fail
                exact ret6 Tryd.results30 rfl rfl (RR.out) (Nat.le_refl _) (BR.out) HV.out
    
              · have q48 : ¬ (48 : Int) ≤ (b.toNat : Int) := by omega
                clear h2 hd2
                have p0 : wr.cell? ⟨w.heap.size, 0, none⟩ = some (.int .i64 0) := RR.out.cell 0
                have q_0 := RR.out.free 0
                have p1 : wr.cell? ⟨w.heap.size, 1, none⟩ = some (.int .i64 0) := RR.out.cell 1
                have q_1 := RR.out.free 1
                have p2 : wr.cell? ⟨w.heap.size, 2, none⟩ = some (.int .i64 0) := RR.out.cell 2
                have q_2 := RR.out.free 2
                have p3 : wr.cell? ⟨w.heap.size, 3, none⟩ = some (.string ⟨#[]⟩) := RR.out.cell 3
                have q_3 := RR.out.free 3
                have p4 : wr.cell? ⟨w.heap.size, 4, none⟩ = some (.slice none 0 0) := RR.out.cell 4
                have q_4 := RR.out.free 4
                have p5 : wr.cell? ⟨w.heap.size, 5, none⟩ = some (.slice none 0 0) := RR.out.cell 5
                have q_5 := RR.out.free 5
                go_wp2_with fail
                exact ret6 Tryd.results30 rfl rfl (RR.out) (Nat.le_refl _) (BR.out) HV.out
    
          | true =>
            have HN := Lib.hid (L1_dig HVw.out HL.out HBT.out hd)
            have hd2 : 48 ≤ b.toNat ∧ b.toNat ≤ 57 := by
              unfold isD at hd
              simpa using hd
            obtain ⟨hd3, hd4⟩ := hd2
            have q48 : (48 : Int) ≤ (b.toNat : Int) := by omega
            have q57 : (b.toNat : Int) ≤ 57 := by omega
            have q1 : ((b.toNat : Int) == 46) = false := by simp; omega
            have q3 : ¬ (b.toNat : Int) = 46 := by omega
            clear HL HBT hd h46 g1
            go_wp2_with (first
              | (at_builtin
                 refine wpB_append rfl (.tmp 59) (.tmp 63) rfl W.heap.size _ n d rfl (ho.alloc _) (wr.heap.size + 1) (some ⟨wr.heap.size, 0, none⟩) 1 1 [b] rfl (Bs.one_new _ _ _ _ rfl) (n + 1) _ rfl rfl (by omega) (by have := hb.size; simp; omega) ?_
                 intro A2 c2 w2 o2 b2 hc2 hm2))
            have hb3 := (hb.alloc hb.size (Obj.cells #[Value.int IntKind.u8 (b.toNat : Int)] 5)).trans b2
            go_roundw
            case rel => exact ⟨i + 1, n + 1, c2, A2, d ++ [b], pt, by first | rfl | (congr 1), rfl, by first | rfl | (congr 1), by omega, by omega, HN, (by show _ = _; rw [List.length_append, HDn.out]; rfl), o2, hb3⟩
            case measure => simp [intOf]; omega
      · have he : i = t.length := by omega
        subst he
        have HE := L1_end HVw.out HL.out
        obtain ⟨rfl, HwD, HpD, HE4⟩ := HE
        have hnn : n = wh.length + pa.length := by have := HDn.out; simp at this; omega
        subst hnn
        have RR : Hid (Blk wr w.heap.size #[.int .i64 0, .int .i64 0, .int .i64 0, .string ⟨#[]⟩, .slice none 0 0, .slice none 0 0] 25) := RB.out.below hb hlt0
        have BR : Hid (Below w.heap.size w wr) := BW.out.trans (hb.mono BW.out.size)
        have q0 : ¬ (t.length : Int) < (t.length : Int) := by omega
        obtain ⟨HE5, hpt⟩ : True ∧ pt = (wh.length : Int) := ⟨trivial, by
          rcases HE4 with ⟨e, h, _⟩ | ⟨e, h⟩
          · cases e
          · exact h⟩
        subst hpt
        generalize wr = W2 at *
        have HOW : Hid (0 < wh.length → ∃ g, A = some ⟨g, 0, none⟩ ∧ By W2 g (wh ++ pa)) := fun h => By.own ho (by omega) HDn.out
        have hsc : wrap64 ((wh.length : Int) + (pa.length : Int) - (wh.length : Int)) = (pa.length : Int) := by first | (have := HTL.out; unfold wrap64; omega) | (simp [wrap64])
        have HDD := Lib.hid (And.intro HwD HpD)
        have hlD : Hid (wh.length + pa.length ≤ t.length) := by have := HTL.out; show _ ≤ _; omega
        clear ho HL hb HwD HpD HE4 HE5 hni
        have qp : (0 : Int) ≤ (wh.length : Int) := by omega
        by_cases a1 : pa.length < 1
        · have q1 : (pa.length : Int) < 1 := by omega
          have HV := Lib.hid (HVe.out (form2_short a1))
          clear a1
          have p0 : W2.cell? ⟨w.heap.size, 0, none⟩ = some (.int .i64 0) := RR.out.cell 0
          have q_0 := RR.out.free 0
          have p1 : W2.cell? ⟨w.heap.size, 1, none⟩ = some (.int .i64 0) := RR.out.cell 1
          have q_1 := RR.out.free 1
          have p2 : W2.cell? ⟨w.heap.size, 2, none⟩ = some (.int .i64 0) := RR.out.cell 2
          have q_2 := RR.out.free 2
          have p3 : W2.cell? ⟨w.heap.size, 3, none⟩ = some (.string ⟨#[]⟩) := RR.out.cell 3
          have q_3 := RR.out.free 3
          have p4 : W2.cell? ⟨w.heap.size, 4, none⟩ = some (.slice none 0 0) := RR.out.cell 4
          have q_4 := RR.out.free 4
          have p5 : W2.cell? ⟨w.heap.size, 5, none⟩ = some (.slice none 0 0) := RR.out.cell 5
          have q_5 := RR.out.free 5
          go_wp2_with fail
          exact ret6 Tryd.results30 rfl rfl (RR.out) (Nat.le_refl _) (BR.out) HV.out
        by_cases a2 : 18 < pa.length
        · have q1 : ¬ (pa.length : Int) < 1 := by omega
          have q2 : (18 : Int) < (pa.length : Int) := by omega
          have HV := Lib.hid (HVe.out (form2_long a2))
          clear a1 a2
          have p0 : W2.cell? ⟨w.heap.size, 0, none⟩ = some (.int .i64 0) := RR.out.cell 0
          have q_0 := RR.out.free 0
          have p1 : W2.cell? ⟨w.heap.size, 1, none⟩ = some (.int .i64 0) := RR.out.cell 1
          have q_1 := RR.out.free 1
          have p2 : W2.cell? ⟨w.heap.size, 2, none⟩ = some (.int .i64 0) := RR.out.cell 2
          have q_2 := RR.out.free 2
          have p3 : W2.cell? ⟨w.heap.size, 3, none⟩ = some (.string ⟨#[]⟩) := RR.out.cell 3
          have q_3 := RR.out.free 3
          have p4 : W2.cell? ⟨w.heap.size, 4, none⟩ = some (.slice none 0 0) := RR.out.cell 4
          have q_4 := RR.out.free 4
          have p5 : W2.cell? ⟨w.heap.size, 5, none⟩ = some (.slice none 0 0) := RR.out.cell 5
          have q_5 := RR.out.free 5
          go_wp2_with fail
          exact ret6 Tryd.results30 rfl rfl (RR.out) (Nat.le_refl _) (BR.out) HV.out
        have q1 : ¬ (pa.length : Int) < 1 := by omega
        have q2 : ¬ (18 : Int) < (pa.length : Int) := by omega
        have h18 : Hid (pa.length ≤ 18) := by show _ ≤ _; omega
        have HF0 : Hid (form2 false wh pa true = (decide (0 < wh.length) && !(wh.head? == some 48 && decide (1 < wh.length)) && !(false && (wh ++ pa).all (· == 48)))) := by
          exact form2_true HDD.out.1 HDD.out.2 (by omega) (by omega)
        clear a1 a2
        obtain ⟨X, hX⟩ : ∃ X : Bool, X = (decide (wh.length < 1) || (decide (1 < wh.length) && (wh.head? == some 48))) := ⟨_, rfl⟩
        have HX := Lib.hid hX
        clear hX
        go_upto_region 21 with fail
        go_cut [92] (fun s92 wx => s92 = .bool X ∧ W2 = wx)
        case first =>
          clear HR HVe HF0 HVw
          rcases Nat.eq_zero_or_pos wh.length with h0 | h0
          · have q3 : (wh.length : Int) < 1 := by omega
            have HV : Hid (X = true) := by show _ = _; rw [HX.out, decide_eq_true (by omega)]; rfl
            clear h0 HX
            go_wp2_with fail
            go_meet
            exact ⟨by rw [HV.out], rfl⟩
          · have q3 : ¬ (wh.length : Int) < 1 := by omega
            obtain ⟨g, rfl, hY⟩ := HOW.out h0
            by_cases h1 : 1 < wh.length
            · have q4 : (1 : Int) < (wh.length : Int) := by omega
              obtain ⟨b, hb⟩ : ∃ b, wh.head? = some b := by
                cases wh with
                | nil => simp at h0
                | cons b l => exact ⟨b, rfl⟩
              have hc : W2.cell? ⟨g, 0, none⟩ = some (.int .u8 (b.toNat : Int)) := hY.2 0 b (by
                cases wh with
                | nil => simp at h0
                | cons b' l => simpa using hb)
              have HV : Hid (X = (b == 48)) := by
                show _ = _
                rw [HX.out, hb, decide_eq_true h1, decide_eq_false (p := wh.length < 1) (by omega)]
                rfl
              clear h0 h1 HX hb hY
              by_cases h48 : b = 48
              · subst h48
                go_wp2_with fail
                go_meet
                exact ⟨by rw [HV.out]; rfl, rfl⟩
              · have q1 : ((b.toNat : Int) == 48) = false := by
                  simp
                  intro e
                  exact h48 (UInt8.toNat_inj.1 (by simpa using (by omega : b.toNat = 48)))
                have q5 : ¬ (b.toNat : Int) = 48 := by simpa using q1
                have q6 : (b == 48) = false := by simpa using h48
                clear h48
                go_wp2_with fail
                go_meet
                exact ⟨by rw [HV.out, q6], rfl⟩
            · have q4 : ¬ (1 : Int) < (wh.length : Int) := by omega
              have HV : Hid (X = false) := by show _ = _; rw [HX.out, decide_eq_false h1, decide_eq_false (p := wh.length < 1) (by omega)]; rfl
              clear h0 h1 HX hY
              go_wp2_with fail
              go_meet
              exact ⟨by rw [HV.out], rfl⟩
        case rest =>
          obtain ⟨rfl, hwc⟩ := hcut
          subst hwc
          cases X with
          | true =>
            have HV := Lib.hid (HVe.out (by
              rw [HF0.out]
              have := HX.out
              rcases Nat.eq_zero_or_pos wh.length with h | h
              · rw [decide_eq_false (p := 0 < wh.length) (by omega)]; rfl
              · rw [decide_eq_false (p := wh.length < 1) (by omega)] at this
                have h2 : (wh.head? == some 48 && decide (1 < wh.length)) = true := by rw [Bool.and_comm]; exact this.symm
                rw [h2]; simp))
            have p0 : W2.cell? ⟨w.heap.size, 0, none⟩ = some (.int .i64 0) := RR.out.cell 0
            have q_0 := RR.out.free 0
            have p1 : W2.cell? ⟨w.heap.size, 1, none⟩ = some (.int .i64 0) := RR.out.cell 1
            have q_1 := RR.out.free 1
            have p2 : W2.cell? ⟨w.heap.size, 2, none⟩ = some (.int .i64 0) := RR.out.cell 2
            have q_2 := RR.out.free 2
            have p3 : W2.cell? ⟨w.heap.size, 3, none⟩ = some (.string ⟨#[]⟩) := RR.out.cell 3
            have q_3 := RR.out.free 3
            have p4 : W2.cell? ⟨w.heap.size, 4, none⟩ = some (.slice none 0 0) := RR.out.cell 4
            have q_4 := RR.out.free 4
            have p5 : W2.cell? ⟨w.heap.size, 5, none⟩ = some (.slice none 0 0) := RR.out.cell 5
            have q_5 := RR.out.free 5
            go_wp2_with fail
            exact ret6 Tryd.results30 rfl rfl (RR.out) (Nat.le_refl _) (BR.out) HV.out
        
          | false =>
            have HXX : Hid (0 < wh.length ∧ form2 false wh pa true = !(false && (wh ++ pa).all (· == 48))) := by
              have := HX.out
              rcases Nat.eq_zero_or_pos wh.length with h | h
              · rw [decide_eq_true (p := wh.length < 1) (by omega)] at this
                cases this
              · rw [decide_eq_false (p := wh.length < 1) (by omega)] at this
                have h2 : (wh.head? == some 48 && decide (1 < wh.length)) = false := by rw [Bool.and_comm]; exact this.symm
                exact ⟨h, by rw [HF0.out, h2, decide_eq_true h]; rfl⟩
            obtain ⟨g, rfl, hY⟩ := HOW.out HXX.out.1
            have HY := Lib.hid hY
            have HDg : Hid (∀ b ∈ wh ++ pa, 48 ≤ b.toNat ∧ b.toNat ≤ 57) := by
              intro b hb
              have h : isD b = true := by
                rcases List.mem_append.1 hb with h | h
                · exact List.all_eq_true.1 HDD.out.1 b h
                · exact List.all_eq_true.1 HDD.out.2 b h
              unfold isD at h
              simpa using h
            have HR2 : Hid (R = if (false && (wh ++ pa).all (· == 48)) = true then (zN, 3) else lsR (sg false (dval (wh ++ pa))) pa.length) := by
              show _ = _
              rw [HR.out, HXX.out.2]
              cases (false && (wh ++ pa).all (· == 48)) <;> rfl
            have hDn : (wh ++ pa).length = wh.length + pa.length := HDn.out
            have HDN := Lib.hid hDn
            clear hDn hY HX HF0 HVe HR HOW HDD HXX HVw HDn
            generalize wh ++ pa = D at *
            have B3 : Hid (Below W2.heap.size W2 (W2.alloc (.cells #[.int .u64 0, .int .u64 0, .bool false] 60))) := below_ra _ _
            have K3 : Hid (Blk (W2.alloc (.cells #[.int .u64 0, .int .u64 0, .bool false] 60)) W2.heap.size #[.int .u64 (wU 0 : Int), .int .u64 (wL 0 : Int), .bool false] 60) := Blk.new _ _ _
            go_wp2_with fail
            generalize W2.alloc (.cells #[.int .u64 0, .int .u64 0, .bool false] 60) = W3 at *
            go_loopw [12, 13, 14] (fun s12 s13 s14 wx => ∃ (j V : Nat) (sm ov : Bool), s12 = .bool sm ∧ s13 = .bool ov ∧ s14 = .int .i64 (j : Int) ∧ j ≤ D.length ∧ Hid (sm = (D.take j).any (· != 48)) ∧ Hid (ov = false → V = dval (D.take j) ∧ V < 340282366920938463463374607431768211456) ∧ Hid (ov = true → 340282366920938463463374607431768211456 ≤ dval (D.take j)) ∧ Hid (Blk wx W2.heap.size #[.int .u64 (wU V : Int), .int .u64 (wL V : Int), .bool false] 60) ∧ Hid (Below W2.heap.size W2 wx)) (fun _ _ s14 _ => D.length - (intOf s14).toNat)
            case atStart => exact ⟨0, 0, false, false, rfl, rfl, rfl, Nat.zero_le _, rfl, (show Hid (false = false → _ ∧ _) from fun _ => ⟨rfl, by decide⟩), (show Hid (false = true → _) from fun h => absurd h (by decide)), K3, B3⟩
            case round =>
              obtain ⟨j, V, sm, ov, rfl, rfl, rfl, hj, HS, HO0, HO1, K11, FR_wr⟩ := hrel
              clear K3 B3
              by_cases hlt : j < D.length
              · have q9 : (j : Int) < (wh.length : Int) + (pa.length : Int) := by have := HDN.out; omega
                have HJ1 : Hid ((j : Int) + 1 ≤ 9223372036854775807) := by have := HDN.out; have := hlD.out; show _ ≤ _; omega
                obtain ⟨b, hbe⟩ : ∃ b, D[j] = b := ⟨_, rfl⟩
                have hbt : D[j]? = some b := by rw [← hbe]; exact List.getElem?_eq_getElem hlt
                have hdg := HDg.out b (List.mem_of_getElem? hbt)
                have HT : Hid (dval (D.take (j + 1)) = dval (D.take j) * 10 + (b.toNat - 48)) := by show _ = _; rw [dval_take hlt, hbe]; rfl
                have HSM : Hid ((D.take (j + 1)).any (· != 48) = (sm || b != 48)) := by show _ = _; rw [any_take hlt, ← HS.out, hbe]
                have HLT := Lib.hid hlt
                have hc : wr.cell? ⟨g, j, none⟩ = some (.int .u8 (b.toNat : Int)) := (FR_wr.out.cell (p := ⟨g, j, none⟩) HY.out.1).trans (HY.out.2 j b hbt)
                have HBT2 := Lib.hid hbt
                clear hbe hbt hlt HS
                go_upto_region 28 with fail
                obtain ⟨sm', hsm⟩ : ∃ x : Bool, x = (sm || b != 48) := ⟨_, rfl⟩
                have HS2 := Lib.hid hsm
                clear hsm
                go_cut [12] (fun s12 wx => s12 = .bool sm' ∧ wr = wx)
                case first =>
                  cases sm with
                  | true =>
                    have HV : Hid (sm' = true) := by show _ = _; rw [HS2.out]; rfl
                    go_wp2_with fail
                    go_meet
                    exact ⟨by rw [HV.out], rfl⟩
                  | false =>
                    by_cases h48 : b = 48
                    · subst h48
                      have HV : Hid (sm' = false) := by show _ = _; rw [HS2.out]; rfl
                      go_wp2_with fail
                      go_meet
                      exact ⟨(by first | (rw [HV.out]; done) | (rw [HV.out]; rfl) | (rw [HV.out]; simp)), rfl⟩
                    · have q1 : ((b.toNat : Int) == 48) = false := by
                        simp
                        intro e
                        exact h48 (UInt8.toNat_inj.1 (by simpa using (by omega : b.toNat = 48)))
                      have q5 : ¬ (b.toNat : Int) = 48 := by simpa using q1
                      have HV : Hid (sm' = true) := by show _ = _; rw [HS2.out]; simpa using h48
                      clear h48
                      go_wp2_with fail
                      go_meet
                      exact ⟨(by first | (rw [HV.out]; done) | (rw [HV.out]; rfl) | (rw [HV.out]; simp; omega) | (rw [HV.out]; simp)), rfl⟩
                case rest =>
                  obtain ⟨rfl, hwc⟩ := hcut
                  subst hwc
                  obtain ⟨S1, hS1⟩ : ∃ S1, S1 = V % 340282366920938463463374607431768211456 * 10 := ⟨_, rfl⟩
                  obtain ⟨V2, hV2⟩ : ∃ V2, V2 = S1 % 340282366920938463463374607431768211456 + (b.toNat - 48) := ⟨_, rfl⟩
                  have HBy : Hid (∀ w, Calls Tryd.prog 40 #[.agg #[.int .u64 (wU V : Int), .int .u64 (wL V : Int), .bool false], .int .u64 10] w (Ret (.tuple #[.agg #[.int .u64 (wU S1 : Int), .int .u64 (wL S1 : Int), .bool false], .bool (decide (S1 < 340282366920938463463374607431768211456))]) w)) := fun w => by rw [hS1]; exact byD false V w
                  have HAd : Hid (∀ w, Calls Tryd.prog 42 #[.agg #[.int .u64 (wU S1 : Int), .int .u64 (wL S1 : Int), .bool false], .agg #[.int .u64 0, .int .u64 (IntKind.u64.wrap (IntKind.u8.wrap ((b.toNat : Int) - 48))), .bool false]] w (Ret (.tuple #[.agg #[.int .u64 (wU V2 : Int), .int .u64 (wL V2 : Int), .bool false], .bool (decide (V2 < 340282366920938463463374607431768211456))]) w)) := fun w => by
                    rw [hV2, wrap_d hdg.1 hdg.2]
                    exact addD false S1 (b.toNat - 48) (by omega) w
                  have HST := Lib.hid (over_step HO0.out HO1.out HT.out)
                  rw [← hS1, ← hV2] at HST
                  have HDg1 := Lib.hid hdg
                  clear hS1 hV2 HT HO0 HO1
                  generalize decide (S1 < 340282366920938463463374607431768211456) = ok1 at *
                  generalize decide (V2 < 340282366920938463463374607431768211456) = ok2 at *
                  generalize wU S1 = u1_ at *
                  generalize wL S1 = l1_ at *
                  have y0 : wr.cell? ⟨W2.heap.size, 0, none⟩ = some (.int .u64 (wU V : Int)) := K11.out.cell 0
                  have y1 : wr.cell? ⟨W2.heap.size, 1, none⟩ = some (.int .u64 (wL V : Int)) := K11.out.cell 1
                  have y2 : wr.cell? ⟨W2.heap.size, 2, none⟩ = some (.bool false) := K11.out.cell 2
                  go_upto_region 30 with (go_at_call 40; refine (HBy.out _).mono ?_; rintro e u5 ⟨rfl, b5⟩)
                  obtain ⟨W5, hW5⟩ : ∃ W5, u5.alloc (.cells #[.int .u64 (u1_ : Int), .int .u64 (l1_ : Int), .bool false] 60) = W5 := ⟨_, rfl⟩
                  rw [hW5]
                  have b6 : Below wr.heap.size wr W5 := by rw [← hW5]; exact bseq b5 (below_ra _ _)
                  have FR_W5 : Hid (Below W2.heap.size W2 W5) := FR_wr.out.trans (b6.mono FR_wr.out.size)
                  have K11_W5 : Hid (Blk W5 W2.heap.size #[.int .u64 (wU V : Int), .int .u64 (wL V : Int), .bool false] 60) := K11.out.below b6 K11.out.lt
                  have K15_W5 : Hid (Blk W5 u5.heap.size #[.int .u64 (u1_ : Int), .int .u64 (l1_ : Int), .bool false] 60) := by show Blk _ _ _ _; rw [← hW5]; exact Blk.new _ _ _
                  clear hW5 b5 b6 y0 y1 y2 hc K11 FR_wr
                  generalize u5.heap.size = g15 at *
                  go_cut [17, 18] (fun s17 s18 wx => ∃ g17 : Nat, s17 = .pointer (some ⟨g17, 0, none⟩) ∧ s18 = .bool ok2 ∧ W2.heap.size ≠ g17 ∧ Hid (Below W2.heap.size W2 wx) ∧ Hid (Blk wx g17 #[.int .u64 (wU V2 : Int), .int .u64 (wL V2 : Int), .bool false] 60) ∧ Hid (Blk wx W2.heap.size #[.int .u64 (wU V : Int), .int .u64 (wL V : Int), .bool false] 60))
                  case first =>
                    have FR_v0 : Hid (Below W2.heap.size W2 W5.drew) := FR_W5.out.drew
                    have K11_v0 : Hid (Blk W5.drew W2.heap.size #[.int .u64 (wU V : Int), .int .u64 (wL V : Int), .bool false] 60) := K11_W5.out
                    have K15_v0 : Hid (Blk W5.drew g15 #[.int .u64 (u1_ : Int), .int .u64 (l1_ : Int), .bool false] 60) := K15_W5.out
                    have t0_v0 : W5.drew.cell? ⟨g15, 0, none⟩ = some (.int .u64 (u1_ : Int)) := K15_v0.out.cell 0
                    have t1_v0 : W5.drew.cell? ⟨g15, 1, none⟩ = some (.int .u64 (l1_ : Int)) := K15_v0.out.cell 1
                    have t2_v0 : W5.drew.cell? ⟨g15, 2, none⟩ = some (.bool false) := K15_v0.out.cell 2
                    have yb_v0 : W5.drew.cell? ⟨g, j, none⟩ = some (.int .u8 (b.toNat : Int)) := (FR_v0.out.cell (p := ⟨g, j, none⟩) HY.out.1).trans (HY.out.2 j b HBT2.out)
                    refine wp_region_held_drew (S := (fun w' => w'.cell? ⟨g15, 0, none⟩ = some (.int .u64 (u1_ : Int)) ∧ w'.cell? ⟨g15, 1, none⟩ = some (.int .u64 (l1_ : Int)) ∧ w'.cell? ⟨g15, 2, none⟩ = some (.bool false) ∧ w'.cell? ⟨g, j, none⟩ = some (.int .u8 (b.toNat : Int)))) (by kernel_rfl) (⟨t0_v0, t1_v0, t2_v0, yb_v0⟩) (fun hHeld => ?_)
                    generalize W5.drew = v0 at *
                    refine wpAnyH_take (i := 0) (oi := { dst := Option.some 116, op := Go.Op.load 60 (Go.Operand.tmp 15), type := 60, pos := "decimal.go:212", after := #[], guard := Option.none }) (v := ?_) rfl (by kernel_rfl) (by kernel_rfl) (by kernel_rfl) (fun _ _ _ h => h) (Or.inl ⟨by rfl, ?_⟩) (by assumption) ?_
                    rotate_left
                    · (intro w hSw; (try dsimp only at hSw); go_simp; try with_reducible rfl)
                    try simp only [Act.put, List.setIfInBounds_toArray, List.set_cons_zero, List.set_cons_succ]
                    refine wpAnyH_take (i := 1) (oi := { dst := Option.some 117, op := Go.Op.move (Go.Operand.tmp 7), type := 82, pos := "decimal.go:212", after := #[], guard := Option.none }) (v := ?_) rfl (by kernel_rfl) (by kernel_rfl) (by kernel_rfl) (fun _ _ _ h => h) (Or.inl ⟨by rfl, ?_⟩) (by assumption) ?_
                    rotate_left
                    · (intro w hSw; (try dsimp only at hSw); go_simp; try with_reducible rfl)
                    try simp only [Act.put, List.setIfInBounds_toArray, List.set_cons_zero, List.set_cons_succ]
                    refine wpAnyH_take (i := 2) (oi := { dst := Option.some 118, op := Go.Op.move (Go.Operand.tmp 14), type := 3, pos := "decimal.go:212", after := #[], guard := Option.none }) (v := ?_) rfl (by kernel_rfl) (by kernel_rfl) (by kernel_rfl) (fun _ _ _ h => h) (Or.inl ⟨by rfl, ?_⟩) (by assumption) ?_
                    rotate_left
                    · (intro w hSw; (try dsimp only at hSw); go_simp; try with_reducible rfl)
                    try simp only [Act.put, List.setIfInBounds_toArray, List.set_cons_zero, List.set_cons_succ]
                    refine wpAnyH_take (i := 3) (oi := { dst := Option.some 119, op := Go.Op.indexAddr 82 (Go.Operand.tmp 117) (Go.Operand.tmp 118), type := 0, pos := "decimal.go:212", after := #[{ on := 1, ground := Go.Ground.data }, { on := 2, ground := Go.Ground.data }], guard := Option.none }) (v := ?_) rfl (by kernel_rfl) (by kernel_rfl) (by kernel_rfl) (fun _ _ _ h => h) (Or.inl ⟨by rfl, ?_⟩) (by assumption) ?_
                    rotate_left
                    · (intro w hSw; (try dsimp only at hSw); go_simp; try with_reducible rfl)
                    try simp only [Act.put, List.setIfInBounds_toArray, List.set_cons_zero, List.set_cons_succ]
                    refine wpAnyH_take (i := 4) (oi := { dst := Option.some 120, op := Go.Op.load 5 (Go.Operand.tmp 119), type := 5, pos := "decimal.go:212", after := #[{ on := 3, ground := Go.Ground.data }], guard := Option.none }) (v := ?_) rfl (by kernel_rfl) (by kernel_rfl) (by kernel_rfl) (fun _ _ _ h => h) (Or.inl ⟨by rfl, ?_⟩) (by assumption) ?_
                    rotate_left
                    · (intro w hSw; (try dsimp only at hSw); go_simp; try with_reducible rfl)
                    try simp only [Act.put, List.setIfInBounds_toArray, List.set_cons_zero, List.set_cons_succ]
                    refine wpAnyH_take (i := 5) (oi := { dst := Option.some 121, op := Go.Op.binOp Go.BinOp.sub 5 (Go.Operand.tmp 120) (Go.Operand.const (Go.Value.int Go.IntKind.u8 48)) 5, type := 5, pos := "decimal.go:212", after := #[{ on := 4, ground := Go.Ground.data }], guard := Option.none }) (v := ?_) rfl (by kernel_rfl) (by kernel_rfl) (by kernel_rfl) (fun _ _ _ h => h) (Or.inl ⟨by rfl, ?_⟩) (by assumption) ?_
                    rotate_left
                    · (intro w hSw; (try dsimp only at hSw); go_simp; try with_reducible rfl)
                    try simp only [Act.put, List.setIfInBounds_toArray, List.set_cons_zero, List.set_cons_succ]
                    refine wpAnyH_take (i := 6) (oi := { dst := Option.some 122, op := Go.Op.convert 5 53 (Go.Operand.tmp 121), type := 53, pos := "decimal.go:212", after := #[{ on := 5, ground := Go.Ground.data }], guard := Option.none }) (v := ?_) rfl (by kernel_rfl) (by kernel_rfl) (by kernel_rfl) (fun _ _ _ h => h) (Or.inl ⟨by rfl, ?_⟩) (by assumption) ?_
                    rotate_left
                    · (intro w hSw; (try dsimp only at hSw); go_simp; try with_reducible rfl)
                    try simp only [Act.put, List.setIfInBounds_toArray, List.set_cons_zero, List.set_cons_succ]
                    refine wpAnyH_take (i := 7) (oi := { dst := Option.some 123, op := Go.Op.move (Go.Operand.tmp 5), type := 4, pos := "decimal.go:212", after := #[], guard := Option.none }) (v := ?_) rfl (by kernel_rfl) (by kernel_rfl) (by kernel_rfl) (fun _ _ _ h => h) (Or.inl ⟨by rfl, ?_⟩) (by assumption) ?_
                    rotate_left
                    · (intro w hSw; (try dsimp only at hSw); go_simp; try with_reducible rfl)
                    try simp only [Act.put, List.setIfInBounds_toArray, List.set_cons_zero, List.set_cons_succ]
                    refine wpAnyH_take (i := 8) (oi := { dst := Option.some 124, op := Go.Op.build 60 #[(0, Go.Operand.const (Go.Value.int Go.IntKind.u64 0)), (1, Go.Operand.tmp 122), (2, Go.Operand.tmp 123)], type := 60, pos := "decimal.go:212", after := #[{ on := 6, ground := Go.Ground.data }, { on := 7, ground := Go.Ground.data }], guard := Option.none }) (v := ?_) rfl (by kernel_rfl) (by kernel_rfl) (by kernel_rfl) (fun _ _ _ h => h) (Or.inl ⟨by rfl, ?_⟩) (by assumption) ?_
                    rotate_left
                    · (intro w hSw; (try dsimp only at hSw); go_simp; try with_reducible rfl)
                    try simp only [Act.put, List.setIfInBounds_toArray, List.set_cons_zero, List.set_cons_succ]
                    refine wpAnyH_ready (rs := [9, 13]) (by kernel_rfl) (by simp) ?_
                    refine AllReadyH.cons (o := { dst := Option.some 125, op := Go.Op.call { callee := Go.Callee.value (Go.Operand.func 42), args := #[Go.Operand.tmp 116, Go.Operand.tmp 124], argTypes := #[60, 60] }, type := 68, pos := "decimal.go:212", after := #[{ on := 0, ground := Go.Ground.data }, { on := 8, ground := Go.Ground.data }], guard := Option.none }) rfl (fun K hK => ?_) ?_
                    go_simp
                    refine (HAd.out _).mono ?_
                    rintro e v1 ⟨rfl, b_v1⟩
                    have FR_v1 : Hid (Below W2.heap.size W2 v1) := FR_v0.out.trans (b_v1.mono FR_v0.out.size)
                    have K11_v1 : Hid (Blk v1 W2.heap.size #[.int .u64 (wU V : Int), .int .u64 (wL V : Int), .bool false] 60) := K11_v0.out.below b_v1 K11_v0.out.lt
                    have K15_v1 : Hid (Blk v1 g15 #[.int .u64 (u1_ : Int), .int .u64 (l1_ : Int), .bool false] 60) := K15_v0.out.below b_v1 K15_v0.out.lt
                    have t0_v1 : v1.cell? ⟨g15, 0, none⟩ = some (.int .u64 (u1_ : Int)) := K15_v1.out.cell 0
                    have t1_v1 : v1.cell? ⟨g15, 1, none⟩ = some (.int .u64 (l1_ : Int)) := K15_v1.out.cell 1
                    have t2_v1 : v1.cell? ⟨g15, 2, none⟩ = some (.bool false) := K15_v1.out.cell 2
                    have yb_v1 : v1.cell? ⟨g, j, none⟩ = some (.int .u8 (b.toNat : Int)) := (FR_v1.out.cell (p := ⟨g, j, none⟩) HY.out.1).trans (HY.out.2 j b HBT2.out)
                    go_wp2_with fail
                    refine hK.out _ _ (⟨t0_v1, t1_v1, t2_v1, yb_v1⟩) (fun hHeld => ?_)
                    clear hK K
                    try simp only [Act.put, List.setIfInBounds_toArray, List.set_cons_zero, List.set_cons_succ]
                    refine wpAnyH_take (i := 10) (oi := { dst := Option.some 115, op := Go.Op.move (Go.Operand.tmp 125), type := 68, pos := "decimal.go:212", after := #[{ on := 9, ground := Go.Ground.data }], guard := Option.none }) (v := ?_) rfl (by kernel_rfl) (by kernel_rfl) (by kernel_rfl) (fun _ _ _ h => h) (Or.inl ⟨by rfl, ?_⟩) (by assumption) ?_
                    rotate_left
                    · (intro w hSw; (try dsimp only at hSw); go_simp; try with_reducible rfl)
                    try simp only [Act.put, List.setIfInBounds_toArray, List.set_cons_zero, List.set_cons_succ]
                    refine wpAnyH_take (i := 11) (oi := { dst := Option.some 126, op := Go.Op.extract (Go.Operand.tmp 115) 0, type := 60, pos := "decimal.go:212", after := #[{ on := 10, ground := Go.Ground.data }], guard := Option.none }) (v := ?_) rfl (by kernel_rfl) (by kernel_rfl) (by kernel_rfl) (fun _ _ _ h => h) (Or.inl ⟨by rfl, ?_⟩) (by assumption) ?_
                    rotate_left
                    · (intro w hSw; (try dsimp only at hSw); go_simp; try with_reducible rfl)
                    try simp only [Act.put, List.setIfInBounds_toArray, List.set_cons_zero, List.set_cons_succ]
                    refine wpAnyH_take (i := 12) (oi := { dst := Option.some 127, op := Go.Op.extract (Go.Operand.tmp 115) 1, type := 4, pos := "decimal.go:212", after := #[{ on := 10, ground := Go.Ground.data }, { on := 14, ground := Go.Ground.gcOnly Go.Departure.lateStores }], guard := Option.none }) (v := ?_) rfl (by kernel_rfl) (by kernel_rfl) (by kernel_rfl) (fun _ _ _ h => h) (Or.inl ⟨by rfl, ?_⟩) (by assumption) ?_
                    rotate_left
                    · (intro w hSw; (try dsimp only at hSw); go_simp; try with_reducible rfl)
                    try simp only [Act.put, List.setIfInBounds_toArray, List.set_cons_zero, List.set_cons_succ]
                    refine wpAnyH_ready (rs := [13]) (by kernel_rfl) (by simp) ?_
                    refine AllReadyH.cons (o := { dst := Option.some 17, op := Go.Op.alloc 60, type := 0, pos := "decimal.go:212", after := #[], guard := Option.none }) rfl (fun K hK => ?_) AllReadyH.nil
                    go_simp
                    obtain ⟨v2, h_v2⟩ : ∃ v, v1.alloc (.cells #[.int .u64 0, .int .u64 0, .bool false] 60) = v := ⟨_, rfl⟩
                    rw [h_v2]
                    have b_v2 : Below v1.heap.size v1 v2 := by rw [← h_v2]; exact below_ra _ _
                    have FR_v2 : Hid (Below W2.heap.size W2 v2) := FR_v1.out.trans (b_v2.mono FR_v1.out.size)
                    have K11_v2 : Hid (Blk v2 W2.heap.size #[.int .u64 (wU V : Int), .int .u64 (wL V : Int), .bool false] 60) := K11_v1.out.below b_v2 K11_v1.out.lt
                    have K15_v2 : Hid (Blk v2 g15 #[.int .u64 (u1_ : Int), .int .u64 (l1_ : Int), .bool false] 60) := K15_v1.out.below b_v2 K15_v1.out.lt
                    have K_v2 : Hid (Blk v2 v1.heap.size #[.int .u64 0, .int .u64 0, .bool false] 60) := by show Blk _ _ _ _; rw [← h_v2]; exact Blk.new _ _ _
                    have hg : W2.heap.size ≤ v1.heap.size := FR_v1.out.size
                    have ne_K11 : W2.heap.size ≠ v1.heap.size := Nat.ne_of_lt K11_v1.out.lt
                    have ne_K15 : g15 ≠ v1.heap.size := Nat.ne_of_lt K15_v1.out.lt
                    have t0_v2 : v2.cell? ⟨g15, 0, none⟩ = some (.int .u64 (u1_ : Int)) := K15_v2.out.cell 0
                    have t1_v2 : v2.cell? ⟨g15, 1, none⟩ = some (.int .u64 (l1_ : Int)) := K15_v2.out.cell 1
                    have t2_v2 : v2.cell? ⟨g15, 2, none⟩ = some (.bool false) := K15_v2.out.cell 2
                    have yb_v2 : v2.cell? ⟨g, j, none⟩ = some (.int .u8 (b.toNat : Int)) := (FR_v2.out.cell (p := ⟨g, j, none⟩) HY.out.1).trans (HY.out.2 j b HBT2.out)
                    clear h_v2
                    refine hK.out _ _ (⟨t0_v2, t1_v2, t2_v2, yb_v2⟩) (fun hHeld => ?_)
                    clear hK K
                    try simp only [Act.put, List.setIfInBounds_toArray, List.set_cons_zero, List.set_cons_succ]
                    refine wpAnyH_ready (rs := [14]) (by kernel_rfl) (by simp) ?_
                    refine AllReadyH.cons (o := { dst := Option.none, op := Go.Op.store 60 (Go.Operand.tmp 17) (Go.Operand.tmp 126), type := 0, pos := "decimal.go:212", after := #[{ on := 13, ground := Go.Ground.data }, { on := 11, ground := Go.Ground.data }, { on := 9, ground := Go.Ground.chain }, { on := 0, ground := Go.Ground.phase }, { on := 1, ground := Go.Ground.phase }, { on := 2, ground := Go.Ground.phase }, { on := 3, ground := Go.Ground.phase }, { on := 4, ground := Go.Ground.phase }, { on := 5, ground := Go.Ground.phase }, { on := 6, ground := Go.Ground.phase }, { on := 7, ground := Go.Ground.phase }, { on := 8, ground := Go.Ground.phase }, { on := 9, ground := Go.Ground.phase }, { on := 10, ground := Go.Ground.phase }, { on := 11, ground := Go.Ground.phase }, { on := 12, ground := Go.Ground.textOnly Go.Departure.lateStores }, { on := 13, ground := Go.Ground.phase }], guard := Option.none }) rfl (fun K hK => ?_) AllReadyH.nil
                    have s0 : v2.cell? ⟨v1.heap.size, 0, none⟩ = some (.int .u64 0) := K_v2.out.cell 0
                    have s_0 := K_v2.out.free 0
                    have s1 : v2.cell? ⟨v1.heap.size, 1, none⟩ = some (.int .u64 0) := K_v2.out.cell 1
                    have s_1 := K_v2.out.free 1
                    have s2 : v2.cell? ⟨v1.heap.size, 2, none⟩ = some (.bool false) := K_v2.out.cell 2
                    have s_2 := K_v2.out.free 2
                    go_simp
                    obtain ⟨v3, h_v3⟩ : ∃ v, (((v2.setCell ⟨v1.heap.size, 0, none⟩ (.int .u64 (wU V2 : Int))).setCell ⟨v1.heap.size, 1, none⟩ (.int .u64 (wL V2 : Int))).setCell ⟨v1.heap.size, 2, none⟩ (.bool false)) = v := ⟨_, rfl⟩
                    rw [h_v3]
                    clear s0 s1 s2 s_0 s_1 s_2
                    have FR_v3 : Hid (Below W2.heap.size W2 v3) := by show Below _ _ _; rw [← h_v3]; exact ((FR_v2.out.setCell hg _).setCell hg _).setCell hg _
                    have K11_v3 : Hid (Blk v3 W2.heap.size #[.int .u64 (wU V : Int), .int .u64 (wL V : Int), .bool false] 60) := by show Blk _ _ _ _; rw [← h_v3]; exact (((K11_v2.out.set_other 0 _ ne_K11).set_other 1 _ ne_K11).set_other 2 _ ne_K11)
                    have K15_v3 : Hid (Blk v3 g15 #[.int .u64 (u1_ : Int), .int .u64 (l1_ : Int), .bool false] 60) := by show Blk _ _ _ _; rw [← h_v3]; exact (((K15_v2.out.set_other 0 _ ne_K15).set_other 1 _ ne_K15).set_other 2 _ ne_K15)
                    have K_v3 : Hid (Blk v3 v1.heap.size #[.int .u64 (wU V2 : Int), .int .u64 (wL V2 : Int), .bool false] 60) := by show Blk _ _ _ _; rw [← h_v3]; exact Blk.three_set K_v2.out
                    clear h_v3
                    have t0_v3 : v3.cell? ⟨g15, 0, none⟩ = some (.int .u64 (u1_ : Int)) := K15_v3.out.cell 0
                    have t1_v3 : v3.cell? ⟨g15, 1, none⟩ = some (.int .u64 (l1_ : Int)) := K15_v3.out.cell 1
                    have t2_v3 : v3.cell? ⟨g15, 2, none⟩ = some (.bool false) := K15_v3.out.cell 2
                    have yb_v3 : v3.cell? ⟨g, j, none⟩ = some (.int .u8 (b.toNat : Int)) := (FR_v3.out.cell (p := ⟨g, j, none⟩) HY.out.1).trans (HY.out.2 j b HBT2.out)
                    refine hK.out _ _ (⟨t0_v3, t1_v3, t2_v3, yb_v3⟩) (fun hHeld => ?_)
                    clear hK K
                    try simp only [Act.put, List.setIfInBounds_toArray, List.set_cons_zero, List.set_cons_succ]
                    refine wpAnyH_take (i := 15) (oi := { dst := Option.some 18, op := Go.Op.assign (Go.Operand.tmp 127), type := 4, pos := "decimal.go:212", after := #[{ on := 12, ground := Go.Ground.data }, { on := 14, ground := Go.Ground.chain }, { on := 0, ground := Go.Ground.phase }, { on := 1, ground := Go.Ground.phase }, { on := 2, ground := Go.Ground.phase }, { on := 3, ground := Go.Ground.phase }, { on := 4, ground := Go.Ground.phase }, { on := 5, ground := Go.Ground.phase }, { on := 6, ground := Go.Ground.phase }, { on := 7, ground := Go.Ground.phase }, { on := 8, ground := Go.Ground.phase }, { on := 9, ground := Go.Ground.phase }, { on := 10, ground := Go.Ground.phase }, { on := 11, ground := Go.Ground.phase }, { on := 12, ground := Go.Ground.phase }, { on := 13, ground := Go.Ground.phase }, { on := 14, ground := Go.Ground.phase }], guard := Option.none }) (v := ?_) rfl (by kernel_rfl) (by kernel_rfl) (by kernel_rfl) (fun _ _ _ h => h) (Or.inl ⟨by rfl, ?_⟩) (by assumption) ?_
                    rotate_left
                    · (intro w hSw; (try dsimp only at hSw); go_simp; try with_reducible rfl)
                    try simp only [Act.put, List.setIfInBounds_toArray, List.set_cons_zero, List.set_cons_succ]
                    refine wpAnyH_done (by kernel_rfl) ?_ _
                    rotate_left 1
                    refine AllReadyH.cons (o := { dst := Option.some 17, op := Go.Op.alloc 60, type := 0, pos := "decimal.go:212", after := #[], guard := Option.none }) rfl (fun K hK => ?_) AllReadyH.nil
                    go_simp
                    obtain ⟨v4, h_v4⟩ : ∃ v, v0.alloc (.cells #[.int .u64 0, .int .u64 0, .bool false] 60) = v := ⟨_, rfl⟩
                    rw [h_v4]
                    have b_v4 : Below v0.heap.size v0 v4 := by rw [← h_v4]; exact below_ra _ _
                    have FR_v4 : Hid (Below W2.heap.size W2 v4) := FR_v0.out.trans (b_v4.mono FR_v0.out.size)
                    have K11_v4 : Hid (Blk v4 W2.heap.size #[.int .u64 (wU V : Int), .int .u64 (wL V : Int), .bool false] 60) := K11_v0.out.below b_v4 K11_v0.out.lt
                    have K15_v4 : Hid (Blk v4 g15 #[.int .u64 (u1_ : Int), .int .u64 (l1_ : Int), .bool false] 60) := K15_v0.out.below b_v4 K15_v0.out.lt
                    have K_v4 : Hid (Blk v4 v0.heap.size #[.int .u64 0, .int .u64 0, .bool false] 60) := by show Blk _ _ _ _; rw [← h_v4]; exact Blk.new _ _ _
                    have hg : W2.heap.size ≤ v0.heap.size := FR_v0.out.size
                    have ne_K11 : W2.heap.size ≠ v0.heap.size := Nat.ne_of_lt K11_v0.out.lt
                    have ne_K15 : g15 ≠ v0.heap.size := Nat.ne_of_lt K15_v0.out.lt
                    have t0_v4 : v4.cell? ⟨g15, 0, none⟩ = some (.int .u64 (u1_ : Int)) := K15_v4.out.cell 0
                    have t1_v4 : v4.cell? ⟨g15, 1, none⟩ = some (.int .u64 (l1_ : Int)) := K15_v4.out.cell 1
                    have t2_v4 : v4.cell? ⟨g15, 2, none⟩ = some (.bool false) := K15_v4.out.cell 2
                    have yb_v4 : v4.cell? ⟨g, j, none⟩ = some (.int .u8 (b.toNat : Int)) := (FR_v4.out.cell (p := ⟨g, j, none⟩) HY.out.1).trans (HY.out.2 j b HBT2.out)
                    clear h_v4
                    refine hK.out _ _ (⟨t0_v4, t1_v4, t2_v4, yb_v4⟩) (fun hHeld => ?_)
                    clear hK K
                    try simp only [Act.put, List.setIfInBounds_toArray, List.set_cons_zero, List.set_cons_succ]
                    refine wpAnyH_ready (rs := [9]) (by kernel_rfl) (by simp) ?_
                    refine AllReadyH.cons (o := { dst := Option.some 125, op := Go.Op.call { callee := Go.Callee.value (Go.Operand.func 42), args := #[Go.Operand.tmp 116, Go.Operand.tmp 124], argTypes := #[60, 60] }, type := 68, pos := "decimal.go:212", after := #[{ on := 0, ground := Go.Ground.data }, { on := 8, ground := Go.Ground.data }], guard := Option.none }) rfl (fun K hK => ?_) AllReadyH.nil
                    go_simp
                    refine (HAd.out _).mono ?_
                    rintro e v5 ⟨rfl, b_v5⟩
                    have FR_v5 : Hid (Below W2.heap.size W2 v5) := FR_v4.out.trans (b_v5.mono FR_v4.out.size)
                    have K11_v5 : Hid (Blk v5 W2.heap.size #[.int .u64 (wU V : Int), .int .u64 (wL V : Int), .bool false] 60) := K11_v4.out.below b_v5 K11_v4.out.lt
                    have K15_v5 : Hid (Blk v5 g15 #[.int .u64 (u1_ : Int), .int .u64 (l1_ : Int), .bool false] 60) := K15_v4.out.below b_v5 K15_v4.out.lt
                    have K_v5 : Hid (Blk v5 v0.heap.size #[.int .u64 0, .int .u64 0, .bool false] 60) := K_v4.out.below b_v5 K_v4.out.lt
                    have t0_v5 : v5.cell? ⟨g15, 0, none⟩ = some (.int .u64 (u1_ : Int)) := K15_v5.out.cell 0
                    have t1_v5 : v5.cell? ⟨g15, 1, none⟩ = some (.int .u64 (l1_ : Int)) := K15_v5.out.cell 1
                    have t2_v5 : v5.cell? ⟨g15, 2, none⟩ = some (.bool false) := K15_v5.out.cell 2
                    have yb_v5 : v5.cell? ⟨g, j, none⟩ = some (.int .u8 (b.toNat : Int)) := (FR_v5.out.cell (p := ⟨g, j, none⟩) HY.out.1).trans (HY.out.2 j b HBT2.out)
                    go_wp2_with fail
                    refine hK.out _ _ (⟨t0_v5, t1_v5, t2_v5, yb_v5⟩) (fun hHeld => ?_)
                    clear hK K
                    try simp only [Act.put, List.setIfInBounds_toArray, List.set_cons_zero, List.set_cons_succ]
                    refine wpAnyH_take (i := 10) (oi := { dst := Option.some 115, op := Go.Op.move (Go.Operand.tmp 125), type := 68, pos := "decimal.go:212", after := #[{ on := 9, ground := Go.Ground.data }], guard := Option.none }) (v := ?_) rfl (by kernel_rfl) (by kernel_rfl) (by kernel_rfl) (fun _ _ _ h => h) (Or.inl ⟨by rfl, ?_⟩) (by assumption) ?_
                    rotate_left
                    · (intro w hSw; (try dsimp only at hSw); go_simp; try with_reducible rfl)
                    try simp only [Act.put, List.setIfInBounds_toArray, List.set_cons_zero, List.set_cons_succ]
                    refine wpAnyH_take (i := 11) (oi := { dst := Option.some 126, op := Go.Op.extract (Go.Operand.tmp 115) 0, type := 60, pos := "decimal.go:212", after := #[{ on := 10, ground := Go.Ground.data }], guard := Option.none }) (v := ?_) rfl (by kernel_rfl) (by kernel_rfl) (by kernel_rfl) (fun _ _ _ h => h) (Or.inl ⟨by rfl, ?_⟩) (by assumption) ?_
                    rotate_left
                    · (intro w hSw; (try dsimp only at hSw); go_simp; try with_reducible rfl)
                    try simp only [Act.put, List.setIfInBounds_toArray, List.set_cons_zero, List.set_cons_succ]
                    refine wpAnyH_take (i := 12) (oi := { dst := Option.some 127, op := Go.Op.extract (Go.Operand.tmp 115) 1, type := 4, pos := "decimal.go:212", after := #[{ on := 10, ground := Go.Ground.data }, { on := 14, ground := Go.Ground.gcOnly Go.Departure.lateStores }], guard := Option.none }) (v := ?_) rfl (by kernel_rfl) (by kernel_rfl) (by kernel_rfl) (fun _ _ _ h => h) (Or.inl ⟨by rfl, ?_⟩) (by assumption) ?_
                    rotate_left
                    · (intro w hSw; (try dsimp only at hSw); go_simp; try with_reducible rfl)
                    try simp only [Act.put, List.setIfInBounds_toArray, List.set_cons_zero, List.set_cons_succ]
                    refine wpAnyH_ready (rs := [14]) (by kernel_rfl) (by simp) ?_
                    refine AllReadyH.cons (o := { dst := Option.none, op := Go.Op.store 60 (Go.Operand.tmp 17) (Go.Operand.tmp 126), type := 0, pos := "decimal.go:212", after := #[{ on := 13, ground := Go.Ground.data }, { on := 11, ground := Go.Ground.data }, { on := 9, ground := Go.Ground.chain }, { on := 0, ground := Go.Ground.phase }, { on := 1, ground := Go.Ground.phase }, { on := 2, ground := Go.Ground.phase }, { on := 3, ground := Go.Ground.phase }, { on := 4, ground := Go.Ground.phase }, { on := 5, ground := Go.Ground.phase }, { on := 6, ground := Go.Ground.phase }, { on := 7, ground := Go.Ground.phase }, { on := 8, ground := Go.Ground.phase }, { on := 9, ground := Go.Ground.phase }, { on := 10, ground := Go.Ground.phase }, { on := 11, ground := Go.Ground.phase }, { on := 12, ground := Go.Ground.textOnly Go.Departure.lateStores }, { on := 13, ground := Go.Ground.phase }], guard := Option.none }) rfl (fun K hK => ?_) AllReadyH.nil
                    have s0 : v5.cell? ⟨v0.heap.size, 0, none⟩ = some (.int .u64 0) := K_v5.out.cell 0
                    have s_0 := K_v5.out.free 0
                    have s1 : v5.cell? ⟨v0.heap.size, 1, none⟩ = some (.int .u64 0) := K_v5.out.cell 1
                    have s_1 := K_v5.out.free 1
                    have s2 : v5.cell? ⟨v0.heap.size, 2, none⟩ = some (.bool false) := K_v5.out.cell 2
                    have s_2 := K_v5.out.free 2
                    go_simp
                    obtain ⟨v6, h_v6⟩ : ∃ v, (((v5.setCell ⟨v0.heap.size, 0, none⟩ (.int .u64 (wU V2 : Int))).setCell ⟨v0.heap.size, 1, none⟩ (.int .u64 (wL V2 : Int))).setCell ⟨v0.heap.size, 2, none⟩ (.bool false)) = v := ⟨_, rfl⟩
                    rw [h_v6]
                    clear s0 s1 s2 s_0 s_1 s_2
                    have FR_v6 : Hid (Below W2.heap.size W2 v6) := by show Below _ _ _; rw [← h_v6]; exact ((FR_v5.out.setCell hg _).setCell hg _).setCell hg _
                    have K11_v6 : Hid (Blk v6 W2.heap.size #[.int .u64 (wU V : Int), .int .u64 (wL V : Int), .bool false] 60) := by show Blk _ _ _ _; rw [← h_v6]; exact (((K11_v5.out.set_other 0 _ ne_K11).set_other 1 _ ne_K11).set_other 2 _ ne_K11)
                    have K15_v6 : Hid (Blk v6 g15 #[.int .u64 (u1_ : Int), .int .u64 (l1_ : Int), .bool false] 60) := by show Blk _ _ _ _; rw [← h_v6]; exact (((K15_v5.out.set_other 0 _ ne_K15).set_other 1 _ ne_K15).set_other 2 _ ne_K15)
                    have K_v6 : Hid (Blk v6 v0.heap.size #[.int .u64 (wU V2 : Int), .int .u64 (wL V2 : Int), .bool false] 60) := by show Blk _ _ _ _; rw [← h_v6]; exact Blk.three_set K_v5.out
                    clear h_v6
                    have t0_v6 : v6.cell? ⟨g15, 0, none⟩ = some (.int .u64 (u1_ : Int)) := K15_v6.out.cell 0
                    have t1_v6 : v6.cell? ⟨g15, 1, none⟩ = some (.int .u64 (l1_ : Int)) := K15_v6.out.cell 1
                    have t2_v6 : v6.cell? ⟨g15, 2, none⟩ = some (.bool false) := K15_v6.out.cell 2
                    have yb_v6 : v6.cell? ⟨g, j, none⟩ = some (.int .u8 (b.toNat : Int)) := (FR_v6.out.cell (p := ⟨g, j, none⟩) HY.out.1).trans (HY.out.2 j b HBT2.out)
                    refine hK.out _ _ (⟨t0_v6, t1_v6, t2_v6, yb_v6⟩) (fun hHeld => ?_)
                    clear hK K
                    try simp only [Act.put, List.setIfInBounds_toArray, List.set_cons_zero, List.set_cons_succ]
                    refine wpAnyH_take (i := 15) (oi := { dst := Option.some 18, op := Go.Op.assign (Go.Operand.tmp 127), type := 4, pos := "decimal.go:212", after := #[{ on := 12, ground := Go.Ground.data }, { on := 14, ground := Go.Ground.chain }, { on := 0, ground := Go.Ground.phase }, { on := 1, ground := Go.Ground.phase }, { on := 2, ground := Go.Ground.phase }, { on := 3, ground := Go.Ground.phase }, { on := 4, ground := Go.Ground.phase }, { on := 5, ground := Go.Ground.phase }, { on := 6, ground := Go.Ground.phase }, { on := 7, ground := Go.Ground.phase }, { on := 8, ground := Go.Ground.phase }, { on := 9, ground := Go.Ground.phase }, { on := 10, ground := Go.Ground.phase }, { on := 11, ground := Go.Ground.phase }, { on := 12, ground := Go.Ground.phase }, { on := 13, ground := Go.Ground.phase }, { on := 14, ground := Go.Ground.phase }], guard := Option.none }) (v := ?_) rfl (by kernel_rfl) (by kernel_rfl) (by kernel_rfl) (fun _ _ _ h => h) (Or.inl ⟨by rfl, ?_⟩) (by assumption) ?_
                    rotate_left
                    · (intro w hSw; (try dsimp only at hSw); go_simp; try with_reducible rfl)
                    try simp only [Act.put, List.setIfInBounds_toArray, List.set_cons_zero, List.set_cons_succ]
                    refine wpAnyH_done (by kernel_rfl) ?_ _
                    all_goals (
                      go_wp2_with fail
                      go_meet
                      exact ⟨_, rfl, rfl, ne_K11, by assumption, by assumption, by assumption⟩)
                  case rest =>
                    obtain ⟨g17, rfl, rfl, n17, FR6, K17, K116⟩ := hcut
                    clear FR_W5 K11_W5 K15_W5
                    have s0 : wc.cell? ⟨W2.heap.size, 0, none⟩ = some (.int .u64 (wU V : Int)) := K116.out.cell 0
                    have s_0 := K116.out.free 0
                    have s1 : wc.cell? ⟨W2.heap.size, 1, none⟩ = some (.int .u64 (wL V : Int)) := K116.out.cell 1
                    have s_1 := K116.out.free 1
                    have s2 : wc.cell? ⟨W2.heap.size, 2, none⟩ = some (.bool false) := K116.out.cell 2
                    have s_2 := K116.out.free 2
                    have z0 : wc.cell? ⟨g17, 0, none⟩ = some (.int .u64 (wU V2 : Int)) := K17.out.cell 0
                    have z1 : wc.cell? ⟨g17, 1, none⟩ = some (.int .u64 (wL V2 : Int)) := K17.out.cell 1
                    have z2 : wc.cell? ⟨g17, 2, none⟩ = some (.bool false) := K17.out.cell 2
                    go_upto_region 32 with fail
                    obtain ⟨W8, hW8⟩ : ∃ W8, (((wc.setCell ⟨W2.heap.size, 0, none⟩ (.int .u64 (wU V2 : Int))).setCell ⟨W2.heap.size, 1, none⟩ (.int .u64 (wL V2 : Int))).setCell ⟨W2.heap.size, 2, none⟩ (.bool false)) = W8 := ⟨_, rfl⟩
                    rw [hW8]
                    have K118 : Hid (Blk W8 W2.heap.size #[.int .u64 (wU V2 : Int), .int .u64 (wL V2 : Int), .bool false] 60) := by show Blk _ _ _ _; rw [← hW8]; exact Blk.three_set K116.out
                    have FR8 : Hid (Below W2.heap.size W2 W8) := by show Below _ _ _; rw [← hW8]; exact ((FR6.out.setCell (Nat.le_refl _) _).setCell (Nat.le_refl _) _).setCell (Nat.le_refl _) _
                    clear hW8 K116 FR6 K17 s0 s1 s2 s_0 s_1 s_2 z0 z1 z2
                    cases ov <;> cases ok1 <;> cases ok2 <;> (
                      go_wp2_with fail
                      go_roundw
                      case rel => exact ⟨j + 1, V2, sm', _, rfl, rfl, by first | rfl | (congr 1; done) | (congr 1; exact w64_succ HJ1.out), HLT.out, (by show _ = _; rw [HSM.out, HS2.out]), HST.out.1, HST.out.2, K118, FR8⟩
                      case measure => first | (simp [intOf]; have := HLT.out; omega) | (rw [w64_succ HJ1.out]; simp [intOf]; have := HLT.out; omega))
              · have q0 := True.intro
                have he : j = D.length := by omega
                subst he
                have q9 : ¬ (D.length : Int) < (wh.length : Int) + (pa.length : Int) := by have := HDN.out; omega
                have hS := HS.out
                have h0_ := HO0.out
                have h1_ := HO1.out
                rw [List.take_length] at hS h0_ h1_
                have HS2 := Lib.hid hS
                have HO2 := Lib.hid h0_
                have HO3 := Lib.hid h1_
                clear hS h0_ h1_ HS HO0 HO1
                have RRr : Hid (Blk wr w.heap.size #[.int .i64 0, .int .i64 0, .int .i64 0, .string ⟨#[]⟩, .slice none 0 0, .slice none 0 0] 25) := RR.out.below FR_wr.out RR.out.lt
                have BRr : Hid (Below w.heap.size w wr) := BR.out.trans (FR_wr.out.mono BR.out.size)
                have HR3 : Hid (R = lsR (sg false (dval D)) pa.length) := by show _ = _; rw [HR2.out]; rfl
                clear HR2 HS2
                cases ov with
                | true =>
                  have HV : Hid (vans R = .tuple #[.agg #[.int .i64 0, .int .i64 0, .int .i64 0, .string ⟨#[]⟩, .slice none 0 0, .slice none 0 0], .int .i64 10]) := by
                    show _ = _
                    have := HO3.out rfl
                    rw [HR3.out, lsR_big (by rw [sg_nat]; omega) h18.out]
                    rfl
                  clear HO2 HO3 HR3
                  have p0 : wr.cell? ⟨w.heap.size, 0, none⟩ = some (.int .i64 0) := RRr.out.cell 0
                  have q_0 := RRr.out.free 0
                  have p1 : wr.cell? ⟨w.heap.size, 1, none⟩ = some (.int .i64 0) := RRr.out.cell 1
                  have q_1 := RRr.out.free 1
                  have p2 : wr.cell? ⟨w.heap.size, 2, none⟩ = some (.int .i64 0) := RRr.out.cell 2
                  have q_2 := RRr.out.free 2
                  have p3 : wr.cell? ⟨w.heap.size, 3, none⟩ = some (.string ⟨#[]⟩) := RRr.out.cell 3
                  have q_3 := RRr.out.free 3
                  have p4 : wr.cell? ⟨w.heap.size, 4, none⟩ = some (.slice none 0 0) := RRr.out.cell 4
                  have q_4 := RRr.out.free 4
                  have p5 : wr.cell? ⟨w.heap.size, 5, none⟩ = some (.slice none 0 0) := RRr.out.cell 5
                  have q_5 := RRr.out.free 5
                  go_wp2_with fail
                  exact ret6 Tryd.results30 rfl rfl (RRr.out) (Nat.le_refl _) (BRr.out) HV.out
                | false =>
                  obtain ⟨rfl, hVlt⟩ := HO2.out rfl
                  have HWd : WideIs (.agg #[.int .u64 (wU (dval D) : Int), .int .u64 (wL (dval D) : Int), .bool false]) (sg false (dval D)) := ⟨_, _, _, rfl, wU_lt _, wL_lt _, by rw [wUL, Nat.mod_eq_of_lt hVlt]⟩
                  obtain ⟨x0, x1, x2, xs, ee, hform⟩ := ansv_form (leastP (sg false (dval D)) pa.length)
                  have HLe : Hid (∀ w, Calls Tryd.prog 33 #[.agg #[.int .u64 (wU (dval D) : Int), .int .u64 (wL (dval D) : Int), .bool false], .int .i64 ((wh.length : Int) + (pa.length : Int) - (wh.length : Int))] w (Ret (.tuple #[.agg #[.int .i64 x0, .int .i64 x1, .int .i64 x2, .string xs, .slice none 0 0, .slice none 0 0], .int .i64 ee]) w)) := fun w => by
                    have h' := rleast_any _ _ HWd pa.length (by have := h18.out; omega) w
                    rw [hform] at h'
                    rw [show ((wh.length : Int) + (pa.length : Int) - (wh.length : Int)) = (pa.length : Int) from by omega]
                    exact h'
                  have HV : Hid (vans R = .tuple #[.agg #[.int .i64 x0, .int .i64 x1, .int .i64 x2, .string xs, .slice none 0 0, .slice none 0 0], .int .i64 ee]) := by
                    show _ = _
                    rw [HR3.out, ← hform, ansv_vans]
                    rfl
                  have y0 : wr.cell? ⟨W2.heap.size, 0, none⟩ = some (.int .u64 (wU (dval D) : Int)) := K11.out.cell 0
                  have y1 : wr.cell? ⟨W2.heap.size, 1, none⟩ = some (.int .u64 (wL (dval D) : Int)) := K11.out.cell 1
                  have y2 : wr.cell? ⟨W2.heap.size, 2, none⟩ = some (.bool false) := K11.out.cell 2
                  clear HO2 HO3 HR3 hVlt HWd hform
                  go_wp2_with fail
                  refine (HLe.out _).mono ?_
                  rintro e w6 ⟨rfl, b6⟩
                  have R6 : Hid (Blk w6 w.heap.size #[.int .i64 0, .int .i64 0, .int .i64 0, .string ⟨#[]⟩, .slice none 0 0, .slice none 0 0] 25) := RRr.out.below b6 RRr.out.lt
                  have B6 : Hid (Below w.heap.size w w6) := BRr.out.trans (b6.mono BRr.out.size)
                  clear b6
                  have p0 : w6.cell? ⟨w.heap.size, 0, none⟩ = some (.int .i64 0) := R6.out.cell 0
                  have q_0 := R6.out.free 0
                  have p1 : w6.cell? ⟨w.heap.size, 1, none⟩ = some (.int .i64 0) := R6.out.cell 1
                  have q_1 := R6.out.free 1
                  have p2 : w6.cell? ⟨w.heap.size, 2, none⟩ = some (.int .i64 0) := R6.out.cell 2
                  have q_2 := R6.out.free 2
                  have p3 : w6.cell? ⟨w.heap.size, 3, none⟩ = some (.string ⟨#[]⟩) := R6.out.cell 3
                  have q_3 := R6.out.free 3
                  have p4 : w6.cell? ⟨w.heap.size, 4, none⟩ = some (.slice none 0 0) := R6.out.cell 4
                  have q_4 := R6.out.free 4
                  have p5 : w6.cell? ⟨w.heap.size, 5, none⟩ = some (.slice none 0 0) := R6.out.cell 5
                  have q_5 := R6.out.free 5
                  go_wp2_with fail
                  exact ret6 Tryd.results30 rfl rfl (R6.out) (Nat.le_refl _) (B6.out) HV.out
end Go.Proofs.YtfcbcbpnlnkpcaaDoor
