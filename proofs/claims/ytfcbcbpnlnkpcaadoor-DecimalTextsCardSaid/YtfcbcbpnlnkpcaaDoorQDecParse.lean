/- decimal.Parse. (Printed by gen/dparse.py.) -/
import Derived.Test.YtfcbcbpnlnkpcaaDoorQPp
import Derived.Test.YtfcbcbpnlnkpcaaDoorQWid
import Derived.Test.YtfcbcbpnlnkpcaaDoorQLayd
import Derived.Deep.CutRange
import Derived.Deep.DeepCutAuto
namespace Go.Proofs.YtfcbcbpnlnkpcaaDoor
set_option linter.all false
open Go.RowKit
/-- Bytes at the beginning of a block. -/
def By (w : World) (g : Nat) (D : List UInt8) : Prop := g < w.heap.size ∧ ∀ j b, D[j]? = some b → w.cell? ⟨g, j, none⟩ = some (.int .u8 (b.toNat : Int))
theorem By.below {w w' : World} {g : Nat} {D : List UInt8} (h : By w g D) (hb : Below w.heap.size w w') : By w' g D :=
  ⟨Nat.lt_of_lt_of_le h.1 hb.size, fun j b hj => (hb.cell (p := ⟨g, j, none⟩) h.1).trans (h.2 j b hj)⟩
theorem By.set {w : World} {g g' : Nat} {D : List UInt8} (h : By w g D) (hne : g ≠ g') (o : Nat) (v : Value) : By (w.setCell ⟨g', o, none⟩ v) g D :=
  ⟨by simpa using h.1, fun j b hj => (World.cell?_of_block (w := w) (a := ⟨g, j, none⟩) (Below.heap_setCell w ⟨g', o, none⟩ v g hne)).trans (h.2 j b hj)⟩
theorem parse_step {h l A B d V : Nat} (hA : A = l * 10 / 18446744073709551616) (hB : B = l * 10 % 18446744073709551616) (hV : h * 18446744073709551616 + l = V) : (h * 10 + A) * 18446744073709551616 + B + d = V * 10 + d := by
  have h1 := Nat.div_add_mod (l * 10) 18446744073709551616
  rw [← hA, ← hB] at h1
  clear hA hB
  subst hV
  generalize hQ : 18446744073709551616 = Q at *
  rw [Nat.add_mul, Nat.add_mul, Nat.mul_assoc, Nat.mul_comm 10 Q, ← Nat.mul_assoc, ← h1, Nat.mul_comm Q A]
  omega
theorem By.bytes (w : World) (e : TypeId) (D : List UInt8) : By (Lib.bytesWorld w e (str D)) w.heap.size D :=
  ⟨by rw [Lib.bytesWorld_size]; omega, fun j b h => bytes_at w e D h⟩
set_option maxRecDepth 100000 in
set_option maxHeartbeats 6400000 in
theorem Parse_any (s : List UInt8) (hs : s.length ≤ 140737488351232) (w : World) :
    Calls Tryd.prog 29 #[.string (str s)] w (Ret (vans (parseR s)) w) := by
  have H1 : Hid (∀ w, Calls Tryd.prog 46 #[.string (str s), .string ⟨#[45]⟩] w (RetS (.tuple #[.string (str (Lib.trimPrefix s [45])), .bool (Lib.hasPrefix s [45])]) w)) := fun w => cutPrefix_any s [45] w
  have ht : (Lib.trimPrefix s [45]).length ≤ 140737488351232 := by unfold Lib.trimPrefix; split; simp; omega; exact hs
  have HP : Hid (parseR s = parse2 (Lib.hasPrefix s [45]) (Lib.trimPrefix s [45])) := rfl
  generalize parseR s = R at *
  generalize Lib.trimPrefix s [45] = t at *
  generalize Lib.hasPrefix s [45] = neg at *
  have H2 : Hid (∀ w, Calls Tryd.prog 49 #[.string (str t), .string ⟨#[46]⟩] w (Ret (.tuple #[.string (str (ctB t 46).1), .string (str (ctB t 46).2.1), .bool (ctB t 46).2.2]) w)) := fun w => cut_any t 46 ht w
  have hl := ctB_len t 46
  have hnn := ctB_none (l := t) (c := 46)
  have HF : Hid (R = if (digB (ctB t 46).1 && !((ctB t 46).1.head? == some 48 && decide (1 < (ctB t 46).1.length)) && (!(ctB t 46).2.2 || (digB (ctB t 46).2.1 && decide ((ctB t 46).2.1.length ≤ 18))) &&
      !(neg && ((ctB t 46).1 ++ (ctB t 46).2.1).all (· == 48))) = true then lsR (sg neg (dval ((ctB t 46).1 ++ (ctB t 46).2.1))) (ctB t 46).2.1.length else (zN, 3)) := HP.out
  clear HP
  generalize (ctB t 46).1 = wh at *
  generalize (ctB t 46).2.1 = pa at *
  generalize (ctB t 46).2.2 = dot at *
  have H3 : Hid (∀ w, Calls Tryd.prog 50 #[.string (str wh ++ str pa), .string ⟨#[48]⟩] w (Ret (.string (str (Lib.trimB (wh ++ pa) 48))) w)) := fun w => by
    rw [str_app]; exact trim_any (wh ++ pa) 48 (by decide) w (by simp; omega)
  have H4 : Hid (∀ w, Calls Tryd.prog 51 #[.string (str wh)] w (Ret (.bool (digB wh)) w)) := fun w => digits_any wh w (by omega)
  have H5 : Hid (∀ w, Calls Tryd.prog 51 #[.string (str pa)] w (Ret (.bool (digB pa)) w)) := fun w => digits_any pa w (by omega)
  have z1 : (str wh).size = wh.length := str_sz wh
  have z2 : (str pa).size = pa.length := str_sz pa
  have g1 : ¬ (9223372036854775807 < (str wh).size + (str pa).size) := by omega
  obtain ⟨X, hX⟩ : ∃ X : Bool, X = (!digB wh || (wh.head? == some 48 && decide (1 < wh.length))) := ⟨_, rfl⟩
  obtain ⟨Y, hY⟩ : ∃ Y : Bool, Y = (dot && (!digB pa || decide (18 < pa.length))) := ⟨_, rfl⟩
  have HXY : Hid (R = if (!X && !Y && !(neg && (wh ++ pa).all (· == 48))) = true then lsR (sg neg (dval (wh ++ pa))) pa.length else (zN, 3)) := by
    show _ = _
    rw [HF.out, hX, hY]
    have e : decide (pa.length ≤ 18) = !decide (18 < pa.length) := by rw [Bool.eq_iff_iff]; simp
    rw [e]
    congr 2
    cases digB wh <;> cases dot <;> cases digB pa <;> simp
  have hz : (str (Lib.trimB (wh ++ pa) 48)).toList.isEmpty = (wh ++ pa).all (· == 48) := by
    rw [Bool.eq_iff_iff, ← trimB_nil, Lib.toList_data, List.isEmpty_iff]
    rfl
  have HOK : Hid (X = false → Y = false → (digB wh = true ∧ (digB pa = true ∨ pa = [])) ∧ pa.length ≤ 18) := by
    intro a b
    rw [hX] at a
    rw [hY] at b
    simp only [Bool.or_eq_false_iff, Bool.not_eq_false', Bool.and_eq_false_iff] at a b
    refine ⟨⟨a.1, ?_⟩, ?_⟩
    · rcases b with b | b
      · exact .inr (hnn b)
      · exact .inl b.1
    · rcases b with b | b
      · rw [hnn b]; simp
      · have := b.2; simp at this; omega
  have HX := Lib.hid hX
  have HY := Lib.hid hY
  clear HF hX hY hnn
  generalize Lib.trimB (wh ++ pa) 48 = Z at *
  generalize (wh ++ pa).all (· == 48) = zb at *
  have rb : Blk (w.alloc (.cells #[.int .i64 0, .int .i64 0, .int .i64 0, .string ⟨#[]⟩, .slice none 0 0, .slice none 0 0] 25)) w.heap.size #[.int .i64 0, .int .i64 0, .int .i64 0, .string ⟨#[]⟩, .slice none 0 0, .slice none 0 0] 25 := Blk.new _ _ _
  have bw := below_ra w (.cells #[.int .i64 0, .int .i64 0, .int .i64 0, .string ⟨#[]⟩, .slice none 0 0, .slice none 0 0] 25)
  generalize hW : w.alloc (.cells #[.int .i64 0, .int .i64 0, .int .i64 0, .string ⟨#[]⟩, .slice none 0 0, .slice none 0 0] 25) = W at *
  have RB := Lib.hid rb
  have BW := Lib.hid bw
  clear rb bw
  go_enter Tryd.func29, Tryd.ntmps29
  go_wp2_with (go_at_call 46; refine (H1.out _).mono ?_; rintro e w' ⟨rfl, rfl⟩)
  refine (H2.out _).mono ?_
  rintro e w2 ⟨rfl, b2⟩
  go_wp2_with fail
  refine (H3.out _).mono ?_
  rintro e w3 ⟨rfl, b3⟩
  go_upto_region 4 with fail
  have b23 := bseq b2 b3
  have R3 : Hid (Blk w3 w.heap.size #[.int .i64 0, .int .i64 0, .int .i64 0, .string ⟨#[]⟩, .slice none 0 0, .slice none 0 0] 25) := RB.out.below b23 RB.out.lt
  have B3 : Hid (Below w.heap.size w w3) := BW.out.trans (b23.mono BW.out.size)
  clear hz b2 b3 b23 hW RB BW H1 H2 H3
  go_cut [30] (fun s30 wx => s30 = .bool X ∧ Hid (Blk wx w.heap.size #[.int .i64 0, .int .i64 0, .int .i64 0, .string ⟨#[]⟩, .slice none 0 0, .slice none 0 0] 25) ∧ Hid (Below w.heap.size w wx))
  case first =>
    have HD := Lib.hid (rfl : digB wh = digB wh)
    cases hd : digB wh with
    | false =>
      rw [hd] at H4 HX
      have HV : Hid (X = true) := HX.out
      clear HX HOK hd HD
      go_wp2_with fail
      refine (H4.out _).mono ?_
      rintro e w4 ⟨rfl, b4⟩
      have R4 : Hid (Blk w4 w.heap.size #[.int .i64 0, .int .i64 0, .int .i64 0, .string ⟨#[]⟩, .slice none 0 0, .slice none 0 0] 25) := R3.out.below b4 R3.out.lt
      have B4 : Hid (Below w.heap.size w w4) := B3.out.trans (b4.mono B3.out.size)
      clear b4
      go_wp2_with fail
      go_meet
      exact ⟨by rw [HV.out], R4, B4⟩
    | true =>
      obtain ⟨b0, wq, rfl⟩ : ∃ b l, wh = b :: l := by
        cases wh with
        | nil => simp [digB] at hd
        | cons b l => exact ⟨b, l, rfl⟩
      rw [hd] at H4 HX
      by_cases h48 : b0 = 48
      · subst h48
        by_cases h1 : 0 < wq.length
        · have q2 : (1 : Int) < (wq.length : Int) + 1 := by omega
          have HV : Hid (X = true) := by
            show _ = _
            rw [HX.out]
            show (!true || ((some (48 : UInt8) == some 48) && decide (1 < wq.length + 1))) = true
            rw [decide_eq_true (by omega)]
            rfl
          clear HX HOK hd HD h1
          go_wp2_with fail
          refine (H4.out _).mono ?_
          rintro e w4 ⟨rfl, b4⟩
          have R4 : Hid (Blk w4 w.heap.size #[.int .i64 0, .int .i64 0, .int .i64 0, .string ⟨#[]⟩, .slice none 0 0, .slice none 0 0] 25) := R3.out.below b4 R3.out.lt
          have B4 : Hid (Below w.heap.size w w4) := B3.out.trans (b4.mono B3.out.size)
          clear b4
          go_wp2_with fail
          go_meet
          exact ⟨by rw [HV.out], R4, B4⟩
        · have q2 : ¬ (1 : Int) < (wq.length : Int) + 1 := by omega
          have HV : Hid (X = false) := by
            show _ = _
            rw [HX.out]
            show (!true || ((some (48 : UInt8) == some 48) && decide (1 < wq.length + 1))) = false
            rw [decide_eq_false (by omega)]
            rfl
          clear HX HOK hd HD h1
          go_wp2_with fail
          refine (H4.out _).mono ?_
          rintro e w4 ⟨rfl, b4⟩
          have R4 : Hid (Blk w4 w.heap.size #[.int .i64 0, .int .i64 0, .int .i64 0, .string ⟨#[]⟩, .slice none 0 0, .slice none 0 0] 25) := R3.out.below b4 R3.out.lt
          have B4 : Hid (Below w.heap.size w w4) := B3.out.trans (b4.mono B3.out.size)
          clear b4
          go_wp2_with fail
          go_meet
          exact ⟨by rw [HV.out]; simp; try omega, R4, B4⟩
      · have q1 : ((b0.toNat : Int) == 48) = false := by
          simp
          intro e
          exact h48 (UInt8.toNat_inj.1 (by simpa using (by omega : b0.toNat = 48)))
        have hix : ∀ h : 0 < (str (b0 :: wq)).size, (str (b0 :: wq))[0]'h = b0 := fun h => rfl
        have q3 : ¬ (b0.toNat : Int) = 48 := by simpa using q1
        have HV : Hid (X = false) := by show _ = _; rw [HX.out]; simp [h48]
        clear HX HOK hd HD h48
        go_wp2_with fail
        refine (H4.out _).mono ?_
        rintro e w4 ⟨rfl, b4⟩
        have R4 : Hid (Blk w4 w.heap.size #[.int .i64 0, .int .i64 0, .int .i64 0, .string ⟨#[]⟩, .slice none 0 0, .slice none 0 0] 25) := R3.out.below b4 R3.out.lt
        have B4 : Hid (Below w.heap.size w w4) := B3.out.trans (b4.mono B3.out.size)
        clear b4
        go_wp2_with fail
        go_meet
        exact ⟨by rw [HV.out], R4, B4⟩
  case rest =>
    obtain ⟨rfl, R4, B4⟩ := hcut
    clear R3 B3 HX H4
    cases X with
    | true =>
      have HV : Hid (vans R = .tuple #[.agg #[.int .i64 0, .int .i64 0, .int .i64 0, .string ⟨#[]⟩, .slice none 0 0, .slice none 0 0], .int .i64 3]) := by show _ = _; rw [HXY.out]; simp; rfl
      clear HXY HOK HY
      have p0 : wc.cell? ⟨w.heap.size, 0, none⟩ = some (.int .i64 0) := R4.out.cell 0
      have q_0 := R4.out.free 0
      have p1 : wc.cell? ⟨w.heap.size, 1, none⟩ = some (.int .i64 0) := R4.out.cell 1
      have q_1 := R4.out.free 1
      have p2 : wc.cell? ⟨w.heap.size, 2, none⟩ = some (.int .i64 0) := R4.out.cell 2
      have q_2 := R4.out.free 2
      have p3 : wc.cell? ⟨w.heap.size, 3, none⟩ = some (.string ⟨#[]⟩) := R4.out.cell 3
      have q_3 := R4.out.free 3
      have p4 : wc.cell? ⟨w.heap.size, 4, none⟩ = some (.slice none 0 0) := R4.out.cell 4
      have q_4 := R4.out.free 4
      have p5 : wc.cell? ⟨w.heap.size, 5, none⟩ = some (.slice none 0 0) := R4.out.cell 5
      have q_5 := R4.out.free 5
      go_wp2_with fail
      exact ret6 Tryd.results29 rfl rfl R4.out (Nat.le_refl _) B4.out HV
    | false =>
      go_upto_region 5 with fail
      go_cut [30] (fun s30 wx => s30 = .bool Y ∧ Hid (Blk wx w.heap.size #[.int .i64 0, .int .i64 0, .int .i64 0, .string ⟨#[]⟩, .slice none 0 0, .slice none 0 0] 25) ∧ Hid (Below w.heap.size w wx))
      case first =>
        clear HXY HOK
        cases dot with
        | false =>
          have HV : Hid (Y = false) := by show _ = _; rw [HY.out]; rfl
          go_wp2_with fail
          go_meet
          exact ⟨by rw [HV.out], R4, B4⟩
        | true =>
          cases hd : digB pa with
          | false =>
            rw [hd] at H5 HY
            have HV : Hid (Y = true) := by show _ = _; rw [HY.out]; rfl
            clear HY hd
            go_wp2_with fail
            refine (H5.out _).mono ?_
            rintro e w5 ⟨rfl, b5⟩
            have R5 : Hid (Blk w5 w.heap.size #[.int .i64 0, .int .i64 0, .int .i64 0, .string ⟨#[]⟩, .slice none 0 0, .slice none 0 0] 25) := R4.out.below b5 R4.out.lt
            have B5 : Hid (Below w.heap.size w w5) := B4.out.trans (b5.mono B4.out.size)
            clear b5
            go_wp2_with fail
            go_meet
            exact ⟨by rw [HV.out], R5, B5⟩
          | true =>
            rw [hd] at H5 HY
            by_cases h18 : 18 < pa.length
            · have q1 : (18 : Int) < (pa.length : Int) := by omega
              have HV : Hid (Y = true) := by show _ = _; rw [HY.out, decide_eq_true h18]; rfl
              clear HY hd h18
              go_wp2_with fail
              refine (H5.out _).mono ?_
              rintro e w5 ⟨rfl, b5⟩
              have R5 : Hid (Blk w5 w.heap.size #[.int .i64 0, .int .i64 0, .int .i64 0, .string ⟨#[]⟩, .slice none 0 0, .slice none 0 0] 25) := R4.out.below b5 R4.out.lt
              have B5 : Hid (Below w.heap.size w w5) := B4.out.trans (b5.mono B4.out.size)
              clear b5
              go_wp2_with fail
              go_meet
              exact ⟨by rw [HV.out], R5, B5⟩
            · have q1 : ¬ (18 : Int) < (pa.length : Int) := by omega
              have HV : Hid (Y = false) := by show _ = _; rw [HY.out, decide_eq_false h18]; rfl
              clear HY hd h18
              go_wp2_with fail
              refine (H5.out _).mono ?_
              rintro e w5 ⟨rfl, b5⟩
              have R5 : Hid (Blk w5 w.heap.size #[.int .i64 0, .int .i64 0, .int .i64 0, .string ⟨#[]⟩, .slice none 0 0, .slice none 0 0] 25) := R4.out.below b5 R4.out.lt
              have B5 : Hid (Below w.heap.size w w5) := B4.out.trans (b5.mono B4.out.size)
              clear b5
              go_wp2_with fail
              go_meet
              exact ⟨by rw [HV.out]; first | rfl | (simp; omega), R5, B5⟩
      case rest =>
        obtain ⟨rfl, R5, B5⟩ := hcut
        clear R4 B4 HY H5
        cases Y with
        | true =>
          have HV : Hid (vans R = .tuple #[.agg #[.int .i64 0, .int .i64 0, .int .i64 0, .string ⟨#[]⟩, .slice none 0 0, .slice none 0 0], .int .i64 3]) := by show _ = _; rw [HXY.out]; simp; rfl
          clear HXY HOK
          have p0 : wc.cell? ⟨w.heap.size, 0, none⟩ = some (.int .i64 0) := R5.out.cell 0
          have q_0 := R5.out.free 0
          have p1 : wc.cell? ⟨w.heap.size, 1, none⟩ = some (.int .i64 0) := R5.out.cell 1
          have q_1 := R5.out.free 1
          have p2 : wc.cell? ⟨w.heap.size, 2, none⟩ = some (.int .i64 0) := R5.out.cell 2
          have q_2 := R5.out.free 2
          have p3 : wc.cell? ⟨w.heap.size, 3, none⟩ = some (.string ⟨#[]⟩) := R5.out.cell 3
          have q_3 := R5.out.free 3
          have p4 : wc.cell? ⟨w.heap.size, 4, none⟩ = some (.slice none 0 0) := R5.out.cell 4
          have q_4 := R5.out.free 4
          have p5 : wc.cell? ⟨w.heap.size, 5, none⟩ = some (.slice none 0 0) := R5.out.cell 5
          have q_5 := R5.out.free 5
          go_wp2_with fail
          exact ret6 Tryd.results29 rfl rfl R5.out (Nat.le_refl _) B5.out HV
        | false =>
          have HO := Lib.hid (HOK.out rfl rfl)
          clear HOK
          go_upto_region 6 with fail
          go_cut [30] (fun s30 wx => s30 = .bool (neg && zb) ∧ wx = wc)
          case first =>
            cases neg <;> (go_wp2_with fail; go_meet; exact ⟨rfl, rfl⟩)
          case rest =>
            obtain ⟨rfl, rfl⟩ := hcut
            have HN : Hid (R = if (!(neg && zb)) = true then lsR (sg neg (dval (wh ++ pa))) pa.length else (zN, 3)) := by show _ = _; rw [HXY.out]; rfl
            clear HXY
            generalize (neg && zb) = nz at *
            cases nz with
            | true =>
              have HV : Hid (vans R = .tuple #[.agg #[.int .i64 0, .int .i64 0, .int .i64 0, .string ⟨#[]⟩, .slice none 0 0, .slice none 0 0], .int .i64 3]) := by show _ = _; rw [HN.out]; rfl
              clear HN
              have p0 : wc.cell? ⟨w.heap.size, 0, none⟩ = some (.int .i64 0) := R5.out.cell 0
              have q_0 := R5.out.free 0
              have p1 : wc.cell? ⟨w.heap.size, 1, none⟩ = some (.int .i64 0) := R5.out.cell 1
              have q_1 := R5.out.free 1
              have p2 : wc.cell? ⟨w.heap.size, 2, none⟩ = some (.int .i64 0) := R5.out.cell 2
              have q_2 := R5.out.free 2
              have p3 : wc.cell? ⟨w.heap.size, 3, none⟩ = some (.string ⟨#[]⟩) := R5.out.cell 3
              have q_3 := R5.out.free 3
              have p4 : wc.cell? ⟨w.heap.size, 4, none⟩ = some (.slice none 0 0) := R5.out.cell 4
              have q_4 := R5.out.free 4
              have p5 : wc.cell? ⟨w.heap.size, 5, none⟩ = some (.slice none 0 0) := R5.out.cell 5
              have q_5 := R5.out.free 5
              go_wp2_with fail
              exact ret6 Tryd.results29 rfl rfl R5.out (Nat.le_refl _) B5.out HV
            | false =>
              have HR : Hid (R = lsR (sg neg (dval (wh ++ Lib.trimRightB pa 48))) (Lib.trimRightB pa 48).length) := by show _ = _; rw [lsR_trim, HN.out]; rfl
              have H6 : Hid (∀ w, Calls Tryd.prog 52 #[.string (str pa), .string ⟨#[48]⟩] w (RetS (.string (str (Lib.trimRightB pa 48))) w)) := fun w => trimR_any pa 48 (by decide) w (by omega)
              have z3 : (str (Lib.trimRightB pa 48)).size = (Lib.trimRightB pa 48).length := str_sz _
              have hlt : (Lib.trimRightB pa 48).length ≤ pa.length := by
                obtain ⟨k, hk⟩ := trimR_eq pa 48
                have := congrArg List.length hk
                rw [List.length_append] at this
                omega
              have HD : Hid (∀ b ∈ wh ++ Lib.trimRightB pa 48, 48 ≤ b.toNat ∧ b.toNat ≤ 57) := by
                obtain ⟨k, hk⟩ := trimR_eq pa 48
                intro b hb
                have hb2 : b ∈ wh ∨ b ∈ pa := by
                  rcases List.mem_append.1 hb with h | h
                  · exact .inl h
                  · right; rw [hk]; exact List.mem_append_left _ h
                have dg : ∀ l : List UInt8, digB l = true → ∀ b ∈ l, 48 ≤ b.toNat ∧ b.toNat ≤ 57 := fun l hl b hb => by
                  unfold digB at hl
                  rw [Bool.and_eq_true, List.all_eq_true] at hl
                  have := hl.1 b hb
                  simpa [isD] using this
                rcases hb2 with h | h
                · exact dg wh HO.out.1.1 b h
                · rcases HO.out.1.2 with h' | h'
                  · exact dg pa h' b h
                  · rw [h'] at h; cases h
              have h18 : Hid ((Lib.trimRightB pa 48).length ≤ 18) := by have := HO.out.2; show _ ≤ _; omega
              clear HN
              generalize Lib.trimRightB pa 48 = pt at *
              have hg : ¬ (9223372036854775807 < (str wh).size + (str pt).size) := by omega
              have hcv : ∀ w : World, (convert 9 82 (.string (str wh ++ str pt))).run Tryd.prog w = .ok (.slice (some ⟨w.heap.size, 0, none⟩) (str (wh ++ pt)).size (grownCap w (str (wh ++ pt)).size 0 5)) (Lib.bytesWorld w 5 (str (wh ++ pt))) := fun w => by
                rw [str_app]; exact Lib.run_convert_string_bytes w _ _ _ _ Tryd.underlying9 Tryd.underlying82 Tryd.underlying5
              have z4 : (str (wh ++ pt)).size = (wh ++ pt).length := str_sz _
              clear HO g1
              go_upto_region 10 with (go_at_call 52; refine (H6.out _).mono ?_; rintro e w' ⟨rfl, rfl⟩)
              obtain ⟨W9, hW9⟩ : ∃ W9, wc.alloc (.cells #[.int .u64 0, .int .u64 0, .bool neg] 55) = W9 := ⟨_, rfl⟩
              rw [hW9]
              have R9 : Hid (Blk W9 w.heap.size #[.int .i64 0, .int .i64 0, .int .i64 0, .string ⟨#[]⟩, .slice none 0 0, .slice none 0 0] 25) := by show Blk _ _ _ _; rw [← hW9]; exact R5.out.alloc _
              have B9 : Hid (Below w.heap.size w W9) := by show Below _ _ _; rw [← hW9]; exact B5.out.trans ((below_ra wc _).mono B5.out.size)
              have K9 : Hid (Blk W9 wc.heap.size #[.int .u64 0, .int .u64 0, .bool neg] 55) := by show Blk _ _ _ _; rw [← hW9]; exact Blk.new _ _ _
              have gg : w.heap.size < wc.heap.size := R5.out.lt
              clear hW9 R5 B5 H6
              generalize wc.heap.size = g9 at *
              have RL : Hid (Blk (Lib.bytesWorld W9 5 (str (wh ++ pt))) w.heap.size #[.int .i64 0, .int .i64 0, .int .i64 0, .string ⟨#[]⟩, .slice none 0 0, .slice none 0 0] 25) := R9.out.below (below_bytes _ _ _) R9.out.lt
              have BL : Hid (Below w.heap.size w (Lib.bytesWorld W9 5 (str (wh ++ pt)))) := B9.out.trans ((below_bytes _ _ _).mono B9.out.size)
              have KL : Hid (Blk (Lib.bytesWorld W9 5 (str (wh ++ pt))) g9 #[.int .u64 0, .int .u64 0, .bool neg] 55) := K9.out.below (below_bytes _ _ _) K9.out.lt
              have YL : Hid (By (Lib.bytesWorld W9 5 (str (wh ++ pt))) W9.heap.size (wh ++ pt)) := By.bytes _ _ _
              have gne : W9.heap.size ≠ g9 := by have := K9.out.lt; omega
              have hDl : (wh ++ pt).length ≤ 140737488351232 := by rw [List.length_append]; omega
              clear R9 B9 K9
              go_upto_block 3 with fail
              generalize Lib.bytesWorld W9 5 (str (wh ++ pt)) = WL at *
              generalize W9.heap.size = gb at *
              have DL : Hid ((wh ++ pt).length = wh.length + pt.length) := List.length_append
              generalize wh ++ pt = D at *
              have HS9 := Lib.hid (And.intro gg gne)
              clear hcv
              go_loopw [69] (fun s69 wr => ∃ j h l' : Nat, s69 = .int .i64 (j : Int) ∧ j ≤ D.length ∧ h < 18446744073709551616 ∧ l' < 18446744073709551616 ∧ Hid (h * 18446744073709551616 + l' = dval (D.take j)) ∧ Hid (Blk wr g9 #[.int .u64 h, .int .u64 l', .bool neg] 55) ∧ Hid (Blk wr w.heap.size #[.int .i64 0, .int .i64 0, .int .i64 0, .string ⟨#[]⟩, .slice none 0 0, .slice none 0 0] 25) ∧ Hid (Below w.heap.size w wr) ∧ Hid (By wr gb D)) (fun s69 _ => D.length - (intOf s69).toNat)
              case atStart => exact ⟨0, 0, 0, rfl, Nat.zero_le _, by decide, by decide, rfl, KL, RL, BL, YL⟩
              case round =>
                obtain ⟨j, h, l', rfl, hj, hh, hl', HJ, Kr, Rr, Br, Yr⟩ := hrel
                clear KL RL BL YL
                have y0 : wr.cell? ⟨g9, 0, none⟩ = some (.int .u64 h) := Kr.out.cell 0
                have y1 : wr.cell? ⟨g9, 1, none⟩ = some (.int .u64 l') := Kr.out.cell 1
                have y2 : wr.cell? ⟨g9, 2, none⟩ = some (.bool neg) := Kr.out.cell 2
                by_cases hlt : j < D.length
                · have hb : D[j]? = some D[j] := List.getElem?_eq_getElem hlt
                  have q9 : (j : Int) < (wh.length : Int) + (pt.length : Int) := by have := DL.out; omega
                  have q0 : wr.cell? ⟨gb, j, none⟩ = some (.int .u8 (D[j].toNat : Int)) := Yr.out.2 j _ hb
                  have hd := HD.out D[j] (List.getElem_mem hlt)
                  have HT : Hid (dval (D.take (j + 1)) = dval (D.take j) * 10 + dg1 D[j]) := dval_take hlt
                  by_cases hbig : 1152921504606846975 < h
                  · have q1 : (1152921504606846975 : Int) < (h : Int) := by omega
                    have HV : Hid (vans R = .tuple #[.agg #[.int .i64 0, .int .i64 0, .int .i64 0, .string ⟨#[]⟩, .slice none 0 0, .slice none 0 0], .int .i64 10]) := by
                      show _ = _
                      have h1 := dval_le D j
                      have h2 := HJ.out
                      rw [HR.out, lsR_big (by rw [sg_nat]; omega) h18.out]
                      rfl
                    clear hb hd hbig HT
                    have p0 : wr.cell? ⟨w.heap.size, 0, none⟩ = some (.int .i64 0) := Rr.out.cell 0
                    have q_0 := Rr.out.free 0
                    have p1 : wr.cell? ⟨w.heap.size, 1, none⟩ = some (.int .i64 0) := Rr.out.cell 1
                    have q_1 := Rr.out.free 1
                    have p2 : wr.cell? ⟨w.heap.size, 2, none⟩ = some (.int .i64 0) := Rr.out.cell 2
                    have q_2 := Rr.out.free 2
                    have p3 : wr.cell? ⟨w.heap.size, 3, none⟩ = some (.string ⟨#[]⟩) := Rr.out.cell 3
                    have q_3 := Rr.out.free 3
                    have p4 : wr.cell? ⟨w.heap.size, 4, none⟩ = some (.slice none 0 0) := Rr.out.cell 4
                    have q_4 := Rr.out.free 4
                    have p5 : wr.cell? ⟨w.heap.size, 5, none⟩ = some (.slice none 0 0) := Rr.out.cell 5
                    have q_5 := Rr.out.free 5
                    go_wp2_with fail
                    exact ret6 Tryd.results29 rfl rfl Rr.out (Nat.le_refl _) Br.out HV
                  · have q1 : ¬ (1152921504606846975 : Int) < (h : Int) := by omega
                    obtain ⟨A, HA⟩ : ∃ A : Nat, Hid (A = l' * 10 / 18446744073709551616) := ⟨_, rfl⟩
                    obtain ⟨B, HB⟩ : ∃ A : Nat, Hid (A = l' * 10 % 18446744073709551616) := ⟨_, rfl⟩
                    have HM : Hid (∀ w, Calls Tryd.prog 38 #[.int .u64 l', .int .u64 10] w (RetS (.tuple #[.int .u64 (A : Int), .int .u64 (B : Int)]) w)) := fun w => by rw [HA.out, HB.out]; exact mul64_any l' 10 hl' (by decide) w
                    clear hb
                    generalize D[j] = b at *
                    have HPl : Hid (∀ w, Calls Tryd.prog 37 #[.agg #[.int .u64 (IntKind.u64.wrap ((h : Int) * 10 + (A : Int))), .int .u64 B, .bool neg], .agg #[.int .u64 0, .int .u64 ((b.toNat : Int) - 48), .bool neg]] w
                        (fun e w' => ∃ (U L : Nat), e = .returned (.agg #[.int .u64 U, .int .u64 L, .bool neg]) ∧ U < 18446744073709551616 ∧ L < 18446744073709551616 ∧ U * 18446744073709551616 + L = (h * 10 + A) * 18446744073709551616 + B + (b.toNat - 48) ∧ Below w.heap.size w w')) := fun w => by
                      have hA := HA.out
                      have hB := HB.out
                      rw [u64w (y := h * 10 + A) (by omega), show ((b.toNat : Int) - 48) = ((b.toNat - 48 : Nat) : Int) from by omega]
                      cases neg
                      · exact plus_dig_false (h * 10 + A) B (b.toNat - 48) (by omega) (by omega) (by omega) w
                      · exact plus_dig_true (h * 10 + A) B (b.toNat - 48) (by omega) (by omega) (by omega) w
                    have hlt2 := Lib.hid hlt
                    clear hlt
                    go_wp2_with (go_at_call 38; refine (HM.out _).mono ?_; rintro e w' ⟨rfl, rfl⟩)
                    refine (HPl.out _).mono ?_
                    rintro e w5 ⟨U, L, rfl, hU, hL, hUL, b5⟩
                    have K5 : Hid (Blk w5 g9 #[.int .u64 h, .int .u64 l', .bool neg] 55) := Kr.out.below b5 Kr.out.lt
                    have s0 : w5.cell? ⟨g9, 0, none⟩ = some (.int .u64 h) := K5.out.cell 0
                    have s_0 := K5.out.free 0
                    have s1 : w5.cell? ⟨g9, 1, none⟩ = some (.int .u64 l') := K5.out.cell 1
                    have s_1 := K5.out.free 1
                    have s2 : w5.cell? ⟨g9, 2, none⟩ = some (.bool neg) := K5.out.cell 2
                    have s_2 := K5.out.free 2
                    have R5 : Hid (Blk w5 w.heap.size #[.int .i64 0, .int .i64 0, .int .i64 0, .string ⟨#[]⟩, .slice none 0 0, .slice none 0 0] 25) := Rr.out.below b5 Rr.out.lt
                    have B5 : Hid (Below w.heap.size w w5) := Br.out.trans (b5.mono Br.out.size)
                    have Y5 : Hid (By w5 gb D) := Yr.out.below b5
                    have HUL : Hid (U * 18446744073709551616 + L = dval (D.take (j + 1))) := by
                      show _ = _
                      rw [HT.out, hUL]
                      exact parse_step HA.out HB.out HJ.out
                    clear b5 hUL
                    go_wp2_with fail
                    go_roundw
                    case rel =>
                      have hn := HS9.out
                      exact ⟨j + 1, U, L, by first | rfl | (congr 1), by have := hlt2.out; omega, hU, hL, HUL, (show Hid (Blk _ _ _ _) from by show Blk _ _ _ _; have := ((K5.out.set 0 (.int .u64 U)).set 1 (.int .u64 L)).set 2 (.bool neg); simpa using this),
                        (show Hid (Blk _ _ _ _) from (((R5.out.set_other 0 _ (by omega)).set_other 1 _ (by omega)).set_other 2 _ (by omega))),
                        (show Hid (Below _ _ _) from (((B5.out.setCell (by show _ ≤ g9; omega) _).setCell (by show _ ≤ g9; omega) _).setCell (by show _ ≤ g9; omega) _)),
                        (show Hid (By _ _ _) from (((Y5.out.set hn.2 0 _).set hn.2 1 _).set hn.2 2 _))⟩
                    case measure => simp [intOf]; have := hlt2.out; omega
                · have q9 : ¬ (j : Int) < (wh.length : Int) + (pt.length : Int) := by have := DL.out; omega
                  have he : j = D.length := by omega
                  have HW : WideIs (.agg #[.int .u64 h, .int .u64 l', .bool neg]) (sg neg (dval D)) := ⟨h, l', neg, rfl, hh, hl', by
                    have := HJ.out
                    rw [he, List.take_length] at this
                    rw [this]⟩
                  obtain ⟨x0, x1, x2, xs, ee, hform⟩ := ansv_form (leastP (sg neg (dval D)) pt.length)
                  have HLe : Hid (∀ w, Calls Tryd.prog 32 #[.agg #[.int .u64 h, .int .u64 l', .bool neg], .int .i64 (pt.length : Int)] w (Ret (.tuple #[.agg #[.int .i64 x0, .int .i64 x1, .int .i64 x2, .string xs, .slice none 0 0, .slice none 0 0], .int .i64 ee]) w)) := fun w => by
                    have h' := least_any _ _ HW pt.length (by have := h18.out; omega) w
                    rw [hform] at h'
                    exact h'
                  have HV : Hid (vans R = .tuple #[.agg #[.int .i64 x0, .int .i64 x1, .int .i64 x2, .string xs, .slice none 0 0, .slice none 0 0], .int .i64 ee]) := by
                    show _ = _
                    rw [HR.out, ← hform, ansv_vans]
                    rfl
                  clear he HW hform hlt
                  go_wp2_with fail
                  refine (HLe.out _).mono ?_
                  rintro e w6 ⟨rfl, b6⟩
                  have R6 : Hid (Blk w6 w.heap.size #[.int .i64 0, .int .i64 0, .int .i64 0, .string ⟨#[]⟩, .slice none 0 0, .slice none 0 0] 25) := Rr.out.below b6 Rr.out.lt
                  have B6 : Hid (Below w.heap.size w w6) := Br.out.trans (b6.mono Br.out.size)
                  clear b6
                  have p0 : w6.cell? ⟨w.heap.size, 0, none⟩ = some (.int .i64 0) := R6.out.cell 0
                  have q_0 := R6.out.free 0
                  have p1 : w6.cell? ⟨w.heap.size, 1, none⟩ = some (.int .i64 0) := R6.out.cell 1
                  have q_1 := R6.out.free 1
                  have p2 : w6.cell? ⟨w.heap.size, 2, none⟩ = some (.int .i64 0) := R6.out.cell 2
                  have q_2 := R6.out.free 2
                  have p3 : w6.cell? ⟨w.heap.size, 3, none⟩ = some (.string ⟨#[]⟩) := R6.out.cell 3
                  have q_3 := R6.out.free 3
                  have p4 : w6.cell? ⟨w.heap.size, 4, none⟩ = some (.slice none 0 0) := R6.out.cell 4
                  have q_4 := R6.out.free 4
                  have p5 : w6.cell? ⟨w.heap.size, 5, none⟩ = some (.slice none 0 0) := R6.out.cell 5
                  have q_5 := R6.out.free 5
                  go_wp2_with fail
                  exact ret6 Tryd.results29 rfl rfl R6.out (Nat.le_refl _) B6.out HV
end Go.Proofs.YtfcbcbpnlnkpcaaDoor
