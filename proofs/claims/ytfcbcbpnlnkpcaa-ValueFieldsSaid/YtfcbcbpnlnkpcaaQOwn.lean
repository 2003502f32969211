/- value.own: the same value, in memory of its own. (Printed by gen/mkown.py out of the walk of scrivenerref5.Clone.) -/
import Derived.Test.YtfcbcbpnlnkpcaaQDp
import Derived.Test.YtfcbcbpnlnkpcaaQSclone
import Derived.Deep.Cut
namespace Go.Proofs.Ytfcbcbpnlnkpcaa
set_option linter.all false
open Go.RowKit
theorem own_blk {w w' : World} {base n sz : Nat} {e : TypeId} {v : Value} {xs : List Value} (h : w.ownsRow base e sz v n xs) (hb : ∀ g, v.ownBlock = some g → w'.heap[g]? = w.heap[g]?) : w'.ownsRow base e sz v n xs := by
  obtain ⟨hl, h | ⟨g, cap, cur, rfl, h1, h2, h3⟩⟩ := h
  · exact ⟨hl, .inl h⟩
  · exact ⟨hl, .inr ⟨g, cap, cur, rfl, h1, (hb g rfl).trans h2, h3⟩⟩
def OwnC (n : Nd) (k : F) : Prop := ∀ (v : Value) (w : World), cost n + wtF k ≤ 2500 → Vo w (· < w.heap.size) n k v → Calls Try.prog 33 #[v] w (RetO n k w)
set_option maxRecDepth 100000 in
set_option maxHeartbeats 1600000 in
theorem own_any (n : Nd) (k : F) : OwnC n k := by
  refine F.node (C := OwnC) ?_ n k
  clear n k
  intro n k ih v w hw hv
  obtain ⟨An, cn, Ak, ck, rfl, hok, h1, h2, hn, hk⟩ := hv
  have hbx := boxw_eq w n An cn Ak k.len ck
  have hb0 := boxw_below w n An cn Ak k.len ck
  have hz0 := boxw_size w n An cn Ak k.len ck
  have hbk := boxw_blk w n An cn Ak k.len ck
  generalize boxw w n An cn Ak k.len ck = Wb at *
  have IH : Hid (∀ i m j, k.get i = some (m, j) → OwnC m j) := ih
  have HZ := Lib.hid hz0
  have HOK := Lib.hid hok
  obtain ⟨_, _, _, hok4, _⟩ := hok
  obtain ⟨hk1, hk2, hk3⟩ := h2
  obtain ⟨hn1, hn2, hn3⟩ := h1
  have hkl : k.len ≤ 2500 := by have := F.len_sz k; have := szF_wt k; omega
  clear ih hz0
  generalize hc : Wb.alloc (.cells #[.int .i64 0, .int .i64 0, .int .i64 0, .string ⟨#[]⟩, .slice none 0 0, .slice none 0 0] 25) = Wc
  have hbc : Below Wb.heap.size Wb Wc := by rw [← hc]; exact (Below.refl _ _).alloc (Nat.le_refl _) _
  have hzc : Hid (Wc.heap.size = w.heap.size + 2) := by show _ = _; rw [← hc]; simp [HZ.out]
  have hcb : Hid (Wc.heap[w.heap.size + 1]? = some (.cells #[.int .i64 0, .int .i64 0, .int .i64 0, .string ⟨#[]⟩, .slice none 0 0, .slice none 0 0] 25 (0, 0))) := by
    show _ = _; rw [← hc, ← HZ.out]; exact heap_alloc_new Wb _
  have bd : Below w.heap.size w Wc := bseq hb0 hbc
  have kd : Blk Wc w.heap.size #[.int .i64 n.kind, .int .i64 n.int, .int .i64 n.scale, .string (str n.text), .slice An n.names.length cn, .slice Ak k.len ck] 25 := hbk.below hbc (by rw [HZ.out]; omega)
  have rd : Blk Wc (w.heap.size + 1) #[.int .i64 0, .int .i64 0, .int .i64 0, .string ⟨#[]⟩, .slice none 0 0, .slice none 0 0] 25 := hcb.out
  have nd : Rd Wc w.heap.size 1 An n.names.length (n.names.map sv) := RdS.rd (hn.keep (fun b hb => bd.block b hb) (fun _ h => h))
  have HSC : Hid (Calls Try.prog 49 #[.slice An n.names.length cn] Wc (RetOwn 9 1 n.names.length (n.names.map sv) Wc)) := sclone_any An n.names.length cn n.names Wc (Rd.more nd (by rw [hzc.out]; omega)) (by omega)
  have y4 : Wc.cell? ⟨w.heap.size, 4, none⟩ = some (.slice An n.names.length cn) := kd.cell 4
  have KD := Lib.hid kd
  have RD := Lib.hid rd
  clear kd rd hbk hn
  have e2 : Wc.heap.size = w.heap.size + 2 := hzc.out
  have e1 : Wb.heap.size = w.heap.size + 1 := HZ.out
  have HE := Lib.hid (And.intro e1 e2)
  clear e1 e2
  unfold ncells
  go_enter Try.func33, Try.ntmps33
  go_wp2_with fail
  refine HSC.out.mono ?_
  rintro e w3 ⟨A3, c3, rfl, o3, b3, hc3, hm3⟩
  have k3 : Blk w3 w.heap.size #[.int .i64 n.kind, .int .i64 n.int, .int .i64 n.scale, .string (str n.text), .slice An n.names.length cn, .slice Ak k.len ck] 25 := Blk.below KD.out b3 (by rw [HE.out.2]; omega)
  have r3 : Blk w3 (w.heap.size + 1) #[.int .i64 0, .int .i64 0, .int .i64 0, .string ⟨#[]⟩, .slice none 0 0, .slice none 0 0] 25 := Blk.below RD.out b3 (by rw [HE.out.2]; omega)
  have x4 : w3.cell? ⟨w.heap.size, 4, none⟩ = some (.slice An n.names.length cn) := k3.cell 4
  have f4 := k3.free 4
  have x5 : w3.cell? ⟨w.heap.size, 5, none⟩ = some (.slice Ak k.len ck) := k3.cell 5
  have K3 := Lib.hid k3
  have R3 := Lib.hid r3
  clear k3 r3 y4
  go_upto_region 3 with fail
  clear x4 f4 x5 hbx hc
  have hgd : w3.heap.size ≥ Wc.heap.size := b3.size
  obtain ⟨W4, hW4⟩ : ∃ W4, (w3.setCell ⟨w.heap.size, 4, none⟩ (.slice A3 n.names.length c3)) = W4 := ⟨_, rfl⟩
  have k4 : Blk W4 w.heap.size #[.int .i64 n.kind, .int .i64 n.int, .int .i64 n.scale, .string (str n.text), .slice A3 n.names.length c3, .slice Ak k.len ck] 25 := by rw [← hW4]; exact Blk.set K3.out 4 _
  have r4 : Blk W4 (w.heap.size + 1) #[.int .i64 0, .int .i64 0, .int .i64 0, .string ⟨#[]⟩, .slice none 0 0, .slice none 0 0] 25 := by rw [← hW4]; exact Blk.set_other R3.out 4 _ (by omega)
  have o4 : W4.ownsRow Wc.heap.size 9 1 (.slice A3 n.names.length c3) n.names.length (n.names.map sv) := by
    rw [← hW4]; exact ownsRow_setCell_other o3 (fun e => by have h1 : Wc.heap.size ≤ w.heap.size := (o3.lt _ e).1; have := HE.out.2; omega) _
  have B4 : Below w.heap.size w W4 := by rw [← hW4]; exact (bd.trans (b3.mono (by rw [HE.out.2]; omega))).setCell (Nat.le_refl _) _
  have z4 : Hid (w.heap.size + 2 ≤ W4.heap.size) := by show _ ≤ _; rw [← hW4]; have := HE.out.2; simp; omega
  rw [hW4]
  clear hW4 K3 R3 o3 b3 hgd KD RD nd bd hcb hbc hb0 HSC
  have e1 : Wb.heap.size = w.heap.size + 1 := HE.out.1
  rw [e1]
  clear e1
  have K4 := Lib.hid k4
  have R4 := Lib.hid r4
  have B4 := Lib.hid B4
  have O4 := Lib.hid o4
  clear k4 r4 o4
  have y5' : W4.cell? ⟨w.heap.size, 5, none⟩ = some (.slice Ak k.len ck) := K4.out.cell 5
  go_wp2_with fail
  clear y5'
  go_loopw [3, 13] (fun s3 s4 wr => ∃ (j : Nat) (A : Option Addr) (c : Nat) (xs : List Value), j ≤ k.len ∧ s3 = .slice A j c ∧ s4 = .int .i64 j ∧ wr.ownsRow W4.heap.size 25 6 (.slice A j c) j xs ∧
    Kc wr (fun b => W4.heap.size ≤ b ∧ b < wr.heap.size ∧ (Value.slice A j c).ownBlock ≠ some b) (k.take j) xs ∧ DpL (fun b => W4.heap.size ≤ b ∧ b < wr.heap.size ∧ (Value.slice A j c).ownBlock ≠ some b) wr j xs ∧ Below W4.heap.size W4 wr) (fun _ s4 _ => k.len - (intOf s4).toNat)
  case atStart => exact ⟨0, none, 0, [], Nat.zero_le _, rfl, rfl, World.ownsRow_nil _ _ _ _, by rw [F.take_zero]; rfl, DpL.nil_ _ _ _, Below.refl _ _⟩
  case round =>
    obtain ⟨j, A, c, xs, hj, rfl, rfl, oj, kj, dj, Bj⟩ := hrel
    have DJ := Lib.hid dj
    have hxl := Kc.len _ _ kj
    rw [F.take_len _ _ hj] at hxl
    have HXL := Lib.hid hxl
    clear dj hxl
    have kb : Blk wr w.heap.size #[.int .i64 n.kind, .int .i64 n.int, .int .i64 n.scale, .string (str n.text), .slice A3 n.names.length c3, .slice Ak k.len ck] 25 := Blk.below K4.out Bj (by have := z4.out; omega)
    have rb : Blk wr (w.heap.size + 1) #[.int .i64 0, .int .i64 0, .int .i64 0, .string ⟨#[]⟩, .slice none 0 0, .slice none 0 0] 25 := Blk.below R4.out Bj (by have := z4.out; omega)
    have KB := Lib.hid kb
    have RB := Lib.hid rb
    have hbw : Below w.heap.size w wr := B4.out.trans (Bj.mono (by have := z4.out; omega))
    have hcj := own_cap oj
    by_cases hlt : j < k.len
    · have y5 : wr.cell? ⟨w.heap.size, 5, none⟩ = some (.slice Ak k.len ck) := kb.cell 5
      clear kb rb
      obtain ⟨m, q, hgt⟩ := F.get_lt k j hlt
      obtain ⟨b, off, Bn, dn, Bk, dk, rfl, hS, ⟨u0, u1, u2, u3, u4, u5⟩, hvk⟩ := (hk.keep (w' := wr) (S' := (· < wr.heap.size)) (fun b hbb => hbw.block b hbb) (fun b hbb => Nat.lt_of_lt_of_le hbb hbw.size)).at_ hgt hlt
      have HI : Hid (OwnC m q) := (unhide IH) j m q hgt
      have HV := Lib.hid hvk
      have HG := Lib.hid hgt
      have hwt : Hid (cost m + wtF q ≤ 2500) := by show _ ≤ _; have := wtF_get hgt; omega
      have KJ := Lib.hid kj
      have HU := Lib.hid hS
      clear hvk hS hgt kj
      unfold ncells at HV
      go_wp2_with fail
      obtain ⟨wa, hwa⟩ : ∃ wa, wr.alloc (.cells #[.int .i64 m.kind, .int .i64 m.int, .int .i64 m.scale, .string (str m.text), .slice Bn m.names.length dn, .slice Bk q.len dk] 25) = wa := ⟨_, rfl⟩
      rw [hwa]
      have bwa : Below wr.heap.size wr wa := by rw [← hwa]; exact (Below.refl _ _).alloc (Nat.le_refl _) _
      have szr : w.heap.size < wr.heap.size := by have := z4.out; have := Bj.size; omega
      have HVa := Lib.hid (HV.out.upto bwa)
      have ojA := own_below oj bwa
      have KJA : Hid (Kc wa (fun b => W4.heap.size ≤ b ∧ b < wa.heap.size ∧ (Value.slice A j c).ownBlock ≠ some b) (k.take j) xs) := Kc.keep (fun b hb => bwa.block b hb.2.1) (fun b hb => ⟨hb.1, Nat.lt_of_lt_of_le hb.2.1 bwa.size, hb.2.2⟩) _ _ KJ.out
      have DJA := Lib.hid (DpL.keep (S' := fun b => W4.heap.size ≤ b ∧ b < wa.heap.size ∧ (Value.slice A j c).ownBlock ≠ some b) (w' := wa) (fun b hb => bwa.block b hb.2.1) (fun b hb => ⟨hb.1, Nat.lt_of_lt_of_le hb.2.1 bwa.size, hb.2.2⟩) DJ.out)
      have BjA : Below W4.heap.size W4 wa := Bj.trans (bwa.mono Bj.size)
      have KBA := Lib.hid (Blk.below KB.out bwa szr)
      clear hwa bwa KJ oj Bj KB HV RB hbw DJ
      refine ((unhide HI) _ _ hwt.out HVa.out).mono ?_
      rintro e w2 hret
      obtain ⟨Cn', en', Ck', ek', d2, rfl, hv2, dd2, b2⟩ := hret.dp
      have DD2 := Lib.hid dd2
      clear hret dd2
      obtain ⟨Cn, en, Ck, ek, heq, hmok, hl1, hl2, hr2, hkk2⟩ := hv2
      obtain ⟨rfl, rfl, rfl, rfl⟩ : Cn = Cn' ∧ en = en' ∧ Ck = Ck' ∧ ek = ek' := by
        simp only [ncells, Value.agg.injEq, List.cons.injEq, Array.mk.injEq, Value.slice.injEq] at heq
        simp_all
      clear heq
      have o2 := own_below ojA b2
      have sz2 := b2.size
      have szj := BjA.size
      have kb2 := Blk.below KBA.out b2 (by have := z4.out; omega)
      have KB2 := Lib.hid kb2
      clear kb2
      unfold ncells
      go_wp2_with (at_builtin
                   refine wpV_append rfl (.tmp 17) (.tmp 20) rfl W4.heap.size _ j xs rfl (o2.alloc _) (w2.heap.size + 1) (some ⟨w2.heap.size, 0, none⟩) 1 1 (ncells m Cn en Ck q.len ek) rfl (Rd.elem_new w2 _ _) (ncells_one _ _ _ _ _ _) (j + 1) rfl (by omega) (by simp; omega) ?_
                   intro A5 c5 w5 o5 g5 ob5 b5 hc5 hm5)
      have g25 : w2.grownBy w5 ((Value.slice A j c).ownBlock) := gb_trans (gb_below ((Below.refl _ _).alloc (Nat.le_refl _) _) _) g5
      have sz5 : w2.heap.size + 1 ≤ w5.heap.size := by have := g5.size; simpa using this
      have hlt5 : ∀ i, (Value.slice A j c).ownBlock = some i → i < wa.heap.size := fun i hi => (ojA.lt i hi).2
      have hne5 : ∀ i, W4.heap.size ≤ i → i < w2.heap.size → (Value.slice A j c).ownBlock ≠ some i → (Value.slice A5 (j + 1) c5).ownBlock ≠ some i := by
        intro i _ hi hne e
        rcases ob5 with h | h
        · exact hne (h.symm.trans e)
        · rw [h] at e; injection e with e; simp at e; omega
      have bl5 : ∀ i, i < w2.heap.size → (Value.slice A j c).ownBlock ≠ some i → w5.heap[i]? = w2.heap[i]? := fun i hi hne => g25.block i hi (fun e => hne e.symm)
      have hk5 : Kc w5 (fun b => W4.heap.size ≤ b ∧ b < w5.heap.size ∧ (Value.slice A5 (j + 1) c5).ownBlock ≠ some b) (k.take (j + 1)) (xs ++ ncells m Cn en Ck q.len ek) := by
        have keepF : ∀ i, Fresh wa.heap.size w2.heap.size i → W4.heap.size ≤ i ∧ i < w5.heap.size ∧ (Value.slice A5 (j + 1) c5).ownBlock ≠ some i := fun i hi =>
          ⟨by have := hi.1; omega, by have := hi.2; omega, hne5 i (by have := hi.1; omega) hi.2 (fun e => by have := hlt5 i e; have := hi.1; omega)⟩
        have blF : ∀ i, Fresh wa.heap.size w2.heap.size i → w5.heap[i]? = w2.heap[i]? := fun i hi => bl5 i hi.2 (fun e => by have := hlt5 i e; have := hi.1; omega)
        refine Kc.snoc k j xs HG.out (Kc.keep ?_ ?_ _ _ KJA.out) hmok hl1 hl2 (hr2.keep blF keepF) (hkk2.keep blF keepF)
        · intro i hi
          exact (bl5 i (by have := hi.2.1; omega) hi.2.2).trans (b2.block i hi.2.1)
        · intro i hi
          exact ⟨hi.1, by have := hi.2.1; omega, hne5 i hi.1 (by have := hi.2.1; omega) hi.2.2⟩
      have hd5 : DpL (fun b => W4.heap.size ≤ b ∧ b < w5.heap.size ∧ (Value.slice A5 (j + 1) c5).ownBlock ≠ some b) w5 (j + 1) (xs ++ ncells m Cn en Ck q.len ek) := by
        have keepF : ∀ i, Fresh wa.heap.size w2.heap.size i → W4.heap.size ≤ i ∧ i < w5.heap.size ∧ (Value.slice A5 (j + 1) c5).ownBlock ≠ some i := fun i hi =>
          ⟨by have := hi.1; omega, by have := hi.2; omega, hne5 i (by have := hi.1; omega) hi.2 (fun e => by have := hlt5 i e; have := hi.1; omega)⟩
        have blF : ∀ i, Fresh wa.heap.size w2.heap.size i → w5.heap[i]? = w2.heap[i]? := fun i hi => bl5 i hi.2 (fun e => by have := hlt5 i e; have := hi.1; omega)
        refine DpL.snoc (d := d2) (DpL.keep ?_ ?_ DJA.out) HXL.out rfl (Dp.keep blF keepF _ _ DD2.out)
        · intro i hi
          exact (bl5 i (by have := hi.2.1; omega) hi.2.2).trans (b2.block i hi.2.1)
        · intro i hi
          exact ⟨hi.1, by have := hi.2.1; omega, hne5 i hi.1 (by have := hi.2.1; omega) hi.2.2⟩
      have B5 : Below W4.heap.size W4 w5 := (BjA.trans (b2.mono szj)).trans (((Below.refl w2.heap.size w2).alloc (Nat.le_refl _) _ |>.mono (by omega)).trans b5)
      go_roundw
      case rel => exact ⟨j + 1, A5, c5, _, by omega, rfl, by go_num, o5, hk5, hd5, B5⟩
      case measure => simp [intOf]; omega
    · obtain rfl : j = k.len := by omega
      have f5 := kb.free 5
      have y0 : wr.cell? ⟨w.heap.size, 0, none⟩ = some (.int .i64 n.kind) := kb.cell 0
      have y1 : wr.cell? ⟨w.heap.size, 1, none⟩ = some (.int .i64 n.int) := kb.cell 1
      have y2 : wr.cell? ⟨w.heap.size, 2, none⟩ = some (.int .i64 n.scale) := kb.cell 2
      have y3 : wr.cell? ⟨w.heap.size, 3, none⟩ = some (.string (str n.text)) := kb.cell 3
      have y4 : wr.cell? ⟨w.heap.size, 4, none⟩ = some (.slice A3 n.names.length c3) := kb.cell 4
      have y5 : wr.cell? ⟨w.heap.size, 5, none⟩ = some (.slice Ak k.len ck) := kb.cell 5
      have p0 : wr.cell? ⟨w.heap.size + 1, 0, none⟩ = some (.int .i64 0) := rb.cell 0
      have p1 : wr.cell? ⟨w.heap.size + 1, 1, none⟩ = some (.int .i64 0) := rb.cell 1
      have p2 : wr.cell? ⟨w.heap.size + 1, 2, none⟩ = some (.int .i64 0) := rb.cell 2
      have p3 : wr.cell? ⟨w.heap.size + 1, 3, none⟩ = some (.string ⟨#[]⟩) := rb.cell 3
      have p4 : wr.cell? ⟨w.heap.size + 1, 4, none⟩ = some (.slice none 0 0) := rb.cell 4
      have p5 : wr.cell? ⟨w.heap.size + 1, 5, none⟩ = some (.slice none 0 0) := rb.cell 5
      have q0 := rb.free 0
      have q1 := rb.free 1
      have q2 := rb.free 2
      have q3 := rb.free 3
      have q4 := rb.free 4
      have q5 := rb.free 5
      rw [F.take_all] at kj
      have KJ := Lib.hid kj
      clear kb rb kj
      go_wp2_with fail
      obtain ⟨W6, hW6⟩ : ∃ W6, (((((((wr.setCell ⟨w.heap.size, 5, none⟩ (.slice A k.len c)).setCell ⟨w.heap.size + 1, 0, none⟩ (.int .i64 n.kind)).setCell ⟨w.heap.size + 1, 1, none⟩ (.int .i64 n.int)).setCell
        ⟨w.heap.size + 1, 2, none⟩ (.int .i64 n.scale)).setCell ⟨w.heap.size + 1, 3, none⟩ (.string (str n.text))).setCell ⟨w.heap.size + 1, 4, none⟩ (.slice A3 n.names.length c3)).setCell ⟨w.heap.size + 1, 5, none⟩ (.slice A k.len c)) = W6 := ⟨_, rfl⟩
      have rb6 : Blk W6 (w.heap.size + 1) #[.int .i64 n.kind, .int .i64 n.int, .int .i64 n.scale, .string (str n.text), .slice A3 n.names.length c3, .slice A k.len c] 25 := by
        rw [← hW6]; exact ((((((Blk.set_other RB.out 5 _ (by omega)).set 0 _).set 1 _).set 2 _).set 3 _).set 4 _).set 5 _
      have b6 : ∀ i, i ≠ w.heap.size → i ≠ w.heap.size + 1 → W6.heap[i]? = wr.heap[i]? := by
        intro i h1 h2
        rw [← hW6]
        repeat rw [Below.heap_setCell _ _ _ _ (by assumption)]
      have z6 : W6.heap.size = wr.heap.size := by rw [← hW6]; simp
      have B6 : Below w.heap.size w W6 := by
        rw [← hW6]
        exact ((((((hbw.setCell (Nat.le_refl _) _).setCell (Nat.le_succ _) _).setCell (Nat.le_succ _) _).setCell (Nat.le_succ _) _).setCell (Nat.le_succ _) _).setCell (Nat.le_succ _) _).setCell (Nat.le_succ _) _
      rw [hW6]
      clear hW6 y0 y1 y2 y3 y4 y5 p0 p1 p2 p3 p4 p5 q0 q1 q2 q3 q4 q5 f5
      have y0 : W6.cell? ⟨w.heap.size + 1, 0, none⟩ = some (.int .i64 n.kind) := rb6.cell 0
      have y1 : W6.cell? ⟨w.heap.size + 1, 1, none⟩ = some (.int .i64 n.int) := rb6.cell 1
      have y2 : W6.cell? ⟨w.heap.size + 1, 2, none⟩ = some (.int .i64 n.scale) := rb6.cell 2
      have y3 : W6.cell? ⟨w.heap.size + 1, 3, none⟩ = some (.string (str n.text)) := rb6.cell 3
      have y4 : W6.cell? ⟨w.heap.size + 1, 4, none⟩ = some (.slice A3 n.names.length c3) := rb6.cell 4
      have y5 : W6.cell? ⟨w.heap.size + 1, 5, none⟩ = some (.slice A k.len c) := rb6.cell 5
      have zz := z4.out
      have zj := Bj.size
      have o4r := own_below O4.out Bj
      have bk6 : ∀ b, w.heap.size + 2 ≤ b → W6.heap[b]? = wr.heap[b]? := fun b hb => b6 b (by omega) (by omega)
      have o36 : W6.ownsRow w.heap.size 9 1 (.slice A3 n.names.length c3) n.names.length (n.names.map sv) := own_more (own_blk o4r (fun g hg => bk6 g (by have := (o4r.lt g hg).1; have := HE.out.2; omega))) (by have := HE.out.2; omega)
      have o66 : W6.ownsRow w.heap.size 25 6 (.slice A k.len c) k.len xs := own_more (own_blk oj (fun g hg => bk6 g (by have := (oj.lt g hg).1; omega))) (by omega)
      have hS6 : ∀ b, (W4.heap.size ≤ b ∧ b < wr.heap.size ∧ (Value.slice A k.len c).ownBlock ≠ some b) → Apart w W6 (.slice A3 n.names.length c3) (.slice A k.len c) b := fun b hb =>
        ⟨by have := hb.1; omega, by rw [z6]; exact hb.2.1, fun e => by have := (O4.out.lt b e).2; have := hb.1; omega, hb.2.2⟩
      refine bodyPost_ret (v := .agg (ncells n A3 c3 A k.len c).toArray) (by simp [results, Try.results33, go_sem, y0, y1, y2, y3, y4, y5, ncells]) rfl ?_
      exact ⟨A3, c3, A, c, xs, rfl, HOK.out, ⟨hc3, hm3, hn3⟩, ⟨hcj.1, hcj.2, hk3⟩, o36, o66, Kc.keep (fun b hb => bk6 b (by have := hb.1; omega)) hS6 _ _ KJ.out, DJ.out.keep (fun b hb => bk6 b (by have := hb.1; omega)) hS6, B6⟩
end Go.Proofs.Ytfcbcbpnlnkpcaa
