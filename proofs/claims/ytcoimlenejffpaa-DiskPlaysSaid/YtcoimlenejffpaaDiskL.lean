/- disk: Copy. -/
import Derived.Test.YtcoimlenejffpaaDiskT
import Derived.Deep.RegionHeld3
namespace Go.Proofs.Ytcoimlenejffpaa
set_option linter.all false
open Go.RowKit
def absE (e : FE) : List UInt8 × List UInt8 × Nat := (e.s, e.b, e.l)
/-- A file has been laid, with its bytes. -/
theorem DW.ins_full {w w2 : World} {base d : Nat} {S : DS} {x : FE} (h : DW w base d S) (hg : getE x.s S.E = none) (hfr : ∀ i ∈ x.bl, w.heap.size ≤ i) (hxn : x.bl.Nodup) (ht1 : Turn [S.m] w w2)
    (hf : FW w2 x) (hm : w2.ownsMap Try.prog 9 ptrR S.m (S.E.length + 1) ((DL (enOf S.E)).put (.string x.s) (mkD (some x.g)))) (hfew : S.E.length < 4096) (hu : S.used + x.b.length ≤ S.room) :
    DW w2 base d (insF S x) ∧ ∀ i ∈ (insF S x).bl d, i ∈ S.bl d ∨ w.heap.size ≤ i := by
  have hp := insE_perm x S.E
  have hlen : (insE x S.E).length = S.E.length + 1 := by rw [hp.length_eq]; rfl
  have hbl : ((insF S x).bl d).Perm (x.bl ++ S.bl d) := by
    unfold insF DS.bl
    simp only
    have h1 : ((insE x S.E).flatMap FE.bl).Perm (x.bl ++ S.E.flatMap FE.bl) := by
      have := List.Perm.flatMap_right (f := FE.bl) hp
      simpa using this
    have h2 := (h1.cons S.m).cons d
    refine h2.trans ?_
    have h3 : (x.bl ++ d :: S.m :: S.E.flatMap FE.bl).Perm (d :: (x.bl ++ S.m :: S.E.flatMap FE.bl)) := List.perm_middle
    have h4 : (x.bl ++ S.m :: S.E.flatMap FE.bl).Perm (S.m :: (x.bl ++ S.E.flatMap FE.bl)) := List.perm_middle
    exact (h3.trans (h4.cons d)).symm
  have hbase : ∀ i ∈ S.bl d, i < w.heap.size := fun i hi => (h.ge i hi).2
  have hm1 : ∀ i ∈ S.bl d, i ≠ S.m → w2.heap[i]? = w.heap[i]? := fun i hi hne => ht1.block i (hbase i hi) (by simpa using hne)
  have hnd := h.nodup
  have hnm : ∀ i ∈ S.E.flatMap FE.bl, i ≠ S.m := by
    unfold DS.bl at hnd
    rw [List.nodup_cons, List.nodup_cons] at hnd
    exact fun i hi e => hnd.2.1 (e ▸ hi)
  have hdm : d ≠ S.m := by
    unfold DS.bl at hnd
    rw [List.nodup_cons] at hnd
    exact fun e => hnd.1 (e ▸ List.mem_cons_self)
  refine ⟨⟨?_, ?_, ?_, ?_, ?_, ?_, ?_, h.left⟩, ?_⟩
  · exact (hm1 d (bl_d d S) hdm).trans h.cell
  · have e1 : enOf (insF S x).E = putL x.s x.g (enOf S.E) := by
      unfold putL
      rw [delL_none (by rw [getL_getE, hg]; rfl)]
      exact insE_en _ _
    rw [e1]
    have e2 : (insF S x).E.length = S.E.length + 1 := hlen
    rw [e2, ← DL_put]
    exact hm
  · intro y hy
    have hy' := hp.mem_iff.1 hy
    rcases List.mem_cons.1 hy' with rfl | hxE
    · exact hf
    · obtain ⟨f1, f2, f3⟩ := h.file y hxE
      have hb1 : ∀ i ∈ y.bl, w2.heap[i]? = w.heap[i]? := fun i hi => by
        have : i ∈ S.E.flatMap FE.bl := List.mem_flatMap.2 ⟨y, hxE, hi⟩
        exact hm1 i (by unfold DS.bl; simp only [List.mem_cons]; exact .inr (.inr this)) (hnm i this)
      exact ⟨(hb1 y.g (by simp [FE.bl])).trans f1, f2.keep fun i hi => hb1 i (by simp [FE.bl, hi]), f3⟩
  · refine hbl.nodup_iff.2 (List.nodup_append.2 ⟨hxn, hnd, fun a ha b hb e => ?_⟩)
    have := hfr a ha
    have := hbase b hb
    omega
  · intro i hi
    rcases List.mem_append.1 (hbl.mem_iff.1 hi) with h1 | h1
    · refine ⟨by have := h.ge d (bl_d d S); have := hfr i h1; omega, ?_⟩
      unfold FE.bl at h1
      rcases List.mem_cons.1 h1 with rfl | h1
      · exact hf.1.lt
      · exact hf.2.1.lt (by simpa using h1)
    · exact ⟨(h.ge i h1).1, Nat.lt_of_lt_of_le (hbase i h1) ht1.size⟩
  · have h1 : (insF S x).used = S.used + x.b.length := by
      have h9 := (hp.map fun e => e.b.length).sum_nat
      simp only [List.map_cons, List.sum_cons] at h9
      show ((insE x S.E).map fun e => e.b.length).sum = (S.E.map fun e => e.b.length).sum + x.b.length
      omega
    show (insF S x).used ≤ S.room ∧ S.room ≤ 1073741824
    have := h.room
    rw [h1]; omega
  · have e2 : (insF S x).E.length = S.E.length + 1 := hlen
    rw [e2]; omega
  · intro i hi
    rcases List.mem_append.1 (hbl.mem_iff.1 hi) with h1 | h1
    · exact .inr (hfr i h1)
    · exact .inl h1
/-- The files that have been drawn. -/
def doneF (left : Lit → Bool) (E : List FE) : List FE := E.filter fun e => !left (.string e.s)
theorem doneF_step {left : Lit → Bool} {s : List UInt8} {e : FE} : ∀ {E : List FE}, Nd1 (enOf E) → getE s E = some e → left (.string s) = true →
    (doneF (fun z => left z && !z.sameKey (.string s)) E).Perm (e :: doneF left E)
  | [], _, h, _ => by simp [getE] at h
  | x :: r, hn, h, hl => by
    obtain ⟨h1, h2⟩ := List.pairwise_cons.1 (show List.Pairwise _ (enE x :: enOf r) from hn)
    unfold getE at h
    rw [List.find?_cons] at h
    rcases hx : (x.s == s) with _ | _
    · rw [hx] at h
      have ih := doneF_step h2 h hl
      have hk : (Lit.string x.s).sameKey (.string s) = false := by simpa [Lit.sameKey] using hx
      unfold doneF at ih ⊢
      rw [List.filter_cons, List.filter_cons]
      simp only [hk, Bool.not_false, Bool.and_true]
      rcases left (.string x.s) with _ | _
      · simp only [Bool.not_false, if_true]
        exact (ih.cons x).trans (List.Perm.swap e x _)
      · simp only [Bool.not_true, Bool.false_eq_true, if_false]
        exact ih
    · rw [hx] at h
      simp only [Option.some.injEq] at h
      subst h
      have hxs : x.s = s := by simpa using hx
      subst hxs
      have hk : (Lit.string x.s).sameKey (.string x.s) = true := by simp [Lit.sameKey]
      unfold doneF
      rw [List.filter_cons, List.filter_cons]
      simp only [hk, Bool.not_true, Bool.and_false, Bool.not_false, if_true, hl, Bool.false_eq_true, if_false]
      refine List.Perm.of_eq (congrArg (x :: ·) ?_)
      apply List.filter_congr
      intro y hy
      have hne : y.s ≠ x.s := fun e => h1 (enE y) (List.mem_map.2 ⟨y, hy, rfl⟩) e.symm
      have : (Lit.string y.s).sameKey (.string x.s) = false := by simpa [Lit.sameKey] using hne
      simp [this]
theorem doneF_none {left : Lit → Bool} {E : List FE} (h : ∀ p ∈ E, left (.string p.s) = true) : doneF left E = [] := by
  unfold doneF
  exact List.filter_eq_nil_iff.2 fun p hp => by simp [h p hp]
theorem doneF_all {left : Lit → Bool} {E : List FE} (h : ∀ kl, left kl = false) : doneF left E = E := by
  unfold doneF
  exact List.filter_eq_self.2 fun p hp => by simp [h]
theorem doneF_le (left : Lit → Bool) (E : List FE) : ((doneF left E).map fun e => e.b.length).sum ≤ (E.map fun e => e.b.length).sum ∧ (doneF left E).length ≤ E.length := by
  refine ⟨?_, List.length_filter_le _ _⟩
  unfold doneF
  induction E with
  | nil => simp
  | cons x r ih =>
    rw [List.filter_cons]
    split
    · simp only [List.map_cons, List.sum_cons]; omega
    · simp only [List.map_cons, List.sum_cons]; omega
/-- What has been copied. -/
def CopyOf (S : DS) (left : Lit → Bool) (m2 : Nat) (T : DS) : Prop := T.room = S.room ∧ T.fused = false ∧ T.m = m2 ∧ (T.E.map absE).Perm ((doneF left S.E).map absE)
theorem copyOf_use {S T : DS} {left : Lit → Bool} {m2 : Nat} {s : List UInt8} {e : FE} (h : CopyOf S left m2 T) (hn : Nd1 (enOf S.E)) (he : getE s S.E = some e) (hl : left (.string s) = true) :
    getE s T.E = none ∧ T.used + e.b.length ≤ S.used ∧ T.E.length + 1 ≤ S.E.length := by
  obtain ⟨h1, h2, h3, h4⟩ := h
  have hst := doneF_step hn he hl
  have hle := doneF_le (fun z => left z && !z.sameKey (.string s)) S.E
  have hs1 := (hst.map fun e => e.b.length).sum_nat
  have hs2 := hst.length_eq
  have hu := (h4.map fun p : List UInt8 × List UInt8 × Nat => p.2.1.length).sum_nat
  have hll := h4.length_eq
  simp only [List.map_map] at hu
  simp only [List.length_map] at hll
  simp only [List.map_cons, List.sum_cons, List.length_cons] at hs1 hs2
  have hu1 : (T.E.map fun e => e.b.length).sum = ((doneF left S.E).map fun e => e.b.length).sum := hu
  refine ⟨?_, ?_, by omega⟩
  · unfold getE
    rw [List.find?_eq_none]
    intro x hx hxs
    have h5 : absE x ∈ (doneF left S.E).map absE := h4.mem_iff.1 (List.mem_map.2 ⟨x, hx, rfl⟩)
    obtain ⟨y, hy, e1⟩ := List.mem_map.1 h5
    have h6 := (List.mem_filter.1 hy).2
    have h7 : y.s = x.s := congrArg (·.1) e1
    have h8 : x.s = s := by simpa using hxs
    rw [h7, h8, hl] at h6
    simp at h6
  · unfold DS.used; omega
theorem copyOf_step {S T : DS} {left : Lit → Bool} {m2 : Nat} {s : List UInt8} {e x : FE} (h : CopyOf S left m2 T) (hn : Nd1 (enOf S.E)) (he : getE s S.E = some e) (hl : left (.string s) = true) (hx : absE x = absE e) :
    CopyOf S (fun z => left z && !z.sameKey (.string s)) m2 (insF T x) := by
  obtain ⟨h1, h2, h3, h4⟩ := h
  refine ⟨h1, h2, h3, ?_⟩
  have hst := (doneF_step hn he hl).map absE
  refine List.Perm.trans ?_ hst.symm
  have h5 := (insE_perm x T.E).map absE
  refine List.Perm.trans h5 ?_
  simp only [List.map_cons]
  rw [hx]
  exact h4.cons _
theorem dw_map {w : World} {base d : Nat} {S : DS} (h : DW w base d S) : d ≠ S.m := by
  have h7 := h.nodup
  unfold DS.bl at h7
  rw [List.nodup_cons] at h7
  exact fun h8 => h7.1 (h8 ▸ List.mem_cons_self)
set_option maxRecDepth 100000 in
set_option maxHeartbeats 3200000 in
theorem copy_any (base d : Nat) (S : DS) (w : World) (h : DW w base d S) (hfew : S.E.length < 4096) :
    Calls Try.prog 24 #[.pointer (some ⟨d, 0, none⟩)] w (fun e w' => ∃ d2 T, e = .returned (.pointer (some ⟨d2, 0, none⟩)) ∧ T.room = S.room ∧ T.fused = false ∧ (T.E.map absE).Perm (S.E.map absE) ∧ DW w' w.heap.size d2 T ∧ Below w.heap.size w w') := by
  have hmm := @run_makeMap Try.prog
  have hc := h.cell
  unfold dcells at hc
  have c0 : w.cell? ⟨d, 0, none⟩ = some (.int .i64 (S.room : Int)) := hc.cell 0
  have c1 : w.cell? ⟨d, 1, none⟩ = some (.map (some S.m)) := hc.cell 1
  have hdl : d < w.heap.size := (h.ge d (bl_d d S)).2
  have hnd := Lib.hid h.nd
  have H := Lib.hid h
  have HLT : Hid (∀ i ∈ S.bl d, i < w.heap.size) := fun i hi => (h.ge i hi).2
  have HFEW := Lib.hid hfew
  have HAL : Hid (doneF (Maps.has (DL (enOf S.E))) S.E = []) := doneF_none (fun p hp => by
    rw [DL_has]; exact List.any_eq_true.2 ⟨enE p, List.mem_map.2 ⟨p, hp, rfl⟩, by simp [enE]⟩)
  have HNEW := Lib.hid (dw_new w S.room h.room.2)
  clear hc h hfew
  go_enter Try.func24, Try.ntmps24
  obtain ⟨W2, hW2⟩ : ∃ W2, (w.alloc (.map #[] 0)).alloc (.cells #[.int .i64 (S.room : Int), .map (some w.heap.size), .bool false, .int .i64 0] 59) = W2 := ⟨_, rfl⟩
  have hD2 : DW W2 w.heap.size (w.heap.size + 1) (newS S.room w.heap.size) := by rw [← hW2]; exact HNEW.out
  have hb2 : Below w.heap.size w W2 := by rw [← hW2]; exact (below_refl_alloc w _).trans ((Below.refl _ _).alloc (by simp) _)
  have hmap : W2.ownsMap Try.prog 9 ptrR S.m S.E.length (DL (enOf S.E)) := owns_block H.out.map (hb2.block _ (HLT.out _ (bl_m d S)))
  have c2 : W2.cell? ⟨d, 1, none⟩ = some (.map (some S.m)) := (hb2.cell (p := ⟨d, 1, none⟩) hdl).trans c1
  have hd2 : Hid (∀ i ∈ S.bl d, i < w.heap.size) := fun i hi => HLT.out i hi
  have H2 := Lib.hid (And.intro hD2 hb2)
  go_wp2_with (first
    | (at_range
       try rw [hW2]
       refine wpList_range_own _ rfl _ 57 rfl 9 61 (Go.Maps.string_keyed Try.underlying9) Try.underlying57 ptrR S.m S.E.length (DL (enOf S.E)) rfl hmap ?_
       intro w0 hrg0 hg0 hs0))
  go_frame
  have hb0 : Below W2.heap.size W2 w0 := gb_below0 hg0
  have HD0 : Hid (DW w0 w.heap.size (w.heap.size + 1) (newS S.room w.heap.size)) := H2.out.1.below hb0
  have HB0 : Hid (Below w.heap.size w w0) := H2.out.2.trans (hb0.mono (by have := (H2.out.1.ge (w.heap.size + 1) (bl_d _ _)).2; omega))
  have HBR : Hid (∀ i ∈ (newS S.room w.heap.size).bl (w.heap.size + 1), i ≠ W2.heap.size) := fun i hi => by have := (H2.out.1.ge i hi).2; omega
  generalize hr : W2.heap.size = r at *
  have HRB : Hid (w.heap.size + 1 < r) := by show _ < _; rw [← hr]; exact (H2.out.1.ge (w.heap.size + 1) (bl_d _ _)).2
  clear hr hg0 hmap c2 H2 hb0
  go_loopw [] (fun wr => ∃ (left : Lit → Bool) (cnt : Nat) (T : DS), Hid (DW wr w.heap.size (w.heap.size + 1) T) ∧ Hid (CopyOf S left w.heap.size T) ∧ Hid (∀ i ∈ T.bl (w.heap.size + 1), i ≠ r) ∧ Hid (wr.ranges Try.prog 9 ptrR S.m r S.E.length (DL (enOf S.E)) left cnt) ∧ Hid (Below w.heap.size w wr)) (fun wr => wr.rangeLeft S.m r)
  case atStart => exact ⟨_, _, newS S.room w.heap.size, HD0.out, ⟨rfl, rfl, rfl, by rw [HAL.out]; exact List.Perm.refl _⟩, HBR.out, hrg0, HB0.out⟩
  case round =>
    obtain ⟨left, cnt, T, HD, HCO, HNR, HRG, HT⟩ := hrel
    go_wp2_with (first
      | (at_next
         refine wpList_next_ranges _ rfl _ rfl 9 (Go.Maps.string_keyed Try.underlying9) ptrR (fun s : ByteArray => Value.string s) mkP (fun key kl hk => by obtain ⟨s, e, _⟩ := key_inv hk; exact ⟨s, e⟩) (fun v y hv => by obtain ⟨c, e, _⟩ := ptrR_inv hv; exact ⟨c, e⟩)
           S.m r _ _ left cnt rfl HRG.out ?_ ?_))
    · intro hc0 hl0
      have HF : Hid ((T.E.map absE).Perm (S.E.map absE)) := by have := HCO.out.2.2.2; rw [doneF_all hl0] at this; exact this
      clear hl0 hc0
      go_wp2_with fail
      go_ret
      exact ⟨w.heap.size + 1, T, rfl, HCO.out.1, HCO.out.2.1, HF.out, HD.out, HT.out⟩
    · intro s c kl ya yb w1 cnt1 hkey hleft hR hat hrg1 hlt hg1 hs1 hen
      obtain ⟨s', e1, e2⟩ := key_inv hkey
      injection e1 with e1
      subst e1
      rw [ptrR_mk] at hR
      injection hR with hR
      injection hR with hR1 hR2
      subst hR1
      rw [e2] at hat hleft
      obtain ⟨g, e3, hget⟩ := at_all hat
      subst e3
      rw [getL_getE] at hget
      obtain ⟨e, he1, he2⟩ := Option.map_eq_some_iff.1 hget
      subst he2
      have HUSE := Lib.hid (copyOf_use HCO.out hnd.out he1 hleft)
      have HSTEP : Hid (∀ x : FE, absE x = absE e → CopyOf S (fun z => left z && !z.sameKey kl) w.heap.size (insF T x)) := by
        show ∀ x : FE, _
        intro x hx
        rw [e2]; exact copyOf_step HCO.out hnd.out he1 hleft hx
      have hb1 : Below w.heap.size w w1 := HT.out.trans ⟨hg1.os, hg1.tape, hg1.output, hg1.size, fun i hi => hg1.block i (by have := HT.out.size; omega) (fun e => by injection e with e; have := HRB.out; omega)⟩
      have hD1 : DW w1 w.heap.size (w.heap.size + 1) T := HD.out.keep (fun i hi => hg1.block i (HD.out.ge i hi).2 (fun e => by injection e with e; exact HNR.out i hi e)) hg1.size
      have hem := (getE_mem he1).1
      have hes := (getE_mem he1).2
      have hD0 := (H.out.below hb1)
      obtain ⟨f1, f2, f3⟩ := hD0.file e hem
      have hle : e.b.length ≤ S.used := mem_le_sum hem
      have hro := H.out.room
      obtain ⟨A, cc, ev, hcb, hcm⟩ := f2.form
      rw [ev] at f1
      have hgl : e.g < w1.heap.size := f1.lt
      have k0 : w1.cell? ⟨w.heap.size + 1, 1, none⟩ = some (.map (some w.heap.size)) := by have h9 := hD1.cell; unfold dcells at h9; have h8 := h9.cell 1; rw [HCO.out.2.2.1] at h8; exact h8
      have k1 : w1.cell? ⟨e.g, 0, none⟩ = some (.slice A e.b.length cc) := f1.cell 0
      have k2 : w1.cell? ⟨e.g, 1, none⟩ = some (.int .u32 (e.l : Int)) := f1.cell 1
      rw [ev] at f2
      have hbs := f2.bs
      have HC : Hid (∀ w2, Below w1.heap.size w1 w2 → Calls Try.prog 32 #[.slice A e.b.length cc] w2 (fun en w3 => ∃ A1 c1', en = .returned (.slice A1 e.b.length c1') ∧ w3.ownsRow w2.heap.size 5 1 (.slice A1 e.b.length c1') e.b.length (e.b.map bv) ∧ Below w2.heap.size w2 w3 ∧ e.b.length ≤ c1' ∧ c1' ≤ 9223372036854775807)) := by
        show ∀ w2, _
        intro w2 hb
        exact clone_any A e.b.length cc e.b w2 ((hbs.below hb).more hb.size) (by omega)
      have HPUT : Hid (∀ (w2 w3 w4 : World) (A1 : Option Addr) (c1' : Nat), Below w1.heap.size w1 w2 → w3.ownsRow w2.heap.size 5 1 (.slice A1 e.b.length c1') e.b.length (e.b.map bv) → Below w2.heap.size w2 w3 → w3.alloc (.cells #[.slice A1 e.b.length c1', .int .u32 (e.l : Int)] 64) = w4 →
          ∃ w5, (Instr.mapUpdate 57 (.map (some w.heap.size)) (.string s) (.pointer (some ⟨w3.heap.size, 0, none⟩))).run Try.prog w4 = .ok () w5 ∧
            (∀ q u, q.block ≠ w.heap.size → w4.cell? q = some u → w5.cell? q = some u) ∧
            ∃ T', DW w5 w.heap.size (w.heap.size + 1) T' ∧ CopyOf S (fun z => left z && !z.sameKey kl) w.heap.size T' ∧ (∀ i ∈ T'.bl (w.heap.size + 1), i ≠ r) ∧ w5.ranges Try.prog 9 ptrR S.m r S.E.length (DL (enOf S.E)) (fun z => left z && !z.sameKey kl) cnt1 ∧ Below w.heap.size w w5) := by
        show ∀ (w2 w3 w4 : World) (A1 : Option Addr) (c1' : Nat), _
        intro w2 w3 w4 A1 c1' b12 o1 b23 hw4
        have b34 : Below w3.heap.size w3 w4 := by rw [← hw4]; exact below_refl_alloc _ _
        have b13 : Below w1.heap.size w1 w3 := b12.trans (b23.mono b12.size)
        have b14 : Below w1.heap.size w1 w4 := b13.trans (b34.mono b13.size)
        have hm4 : w4.ownsMap Try.prog 9 ptrR w.heap.size T.E.length (DL (enOf T.E)) := by
          have h9 := hD1.map
          rw [HCO.out.2.2.1] at h9
          exact owns_block h9 (b14.block _ (by have := hb1.size; have := HRB.out; have := hrg1.lt; omega))
        have hus := HUSE.out
        have hfw9 := HFEW.out
        obtain ⟨w5, hupd, hown, hg2⟩ := hm4.update (Go.Maps.string_keyed Try.underlying9) Try.underlying57 (by simp only [maxLen]; omega) hkey (ptrR_mk (some w3.heap.size))
        have hg15 : w1.grownBy w5 (some w.heap.size) := gb_trans (w1 := w4) ⟨b14.os, b14.tape, b14.output, b14.size, fun i hi _ => b14.block i hi⟩ hg2
        have ht : Turn [w.heap.size] w1 w5 := Turn.of_grown hg15 (fun i hi => by injection hi with hi; exact .inl (by simp [hi]))
        have hBl : w.heap.size < w1.heap.size := by have := HRB.out; have := hrg1.lt; omega
        have h4s : w3.heap.size < w4.heap.size := by rw [← hw4]; simp
        have hbk : Blk w5 w3.heap.size #[.slice A1 e.b.length c1', .int .u32 (e.l : Int)] 64 := by
          refine (hg2.block w3.heap.size h4s (fun e9 => by injection e9 with e9; have := b13.size; omega)).trans ?_
          rw [← hw4]; exact Blk.new _ _ _
        have hr3 : Row w3 (.slice A1 e.b.length c1') e.b := row_of_own o1
        have hlo : ∀ i, (Value.slice A1 e.b.length c1').ownBlock = some i → w2.heap.size ≤ i ∧ i < w3.heap.size := fun i hi => ⟨(o1.lt i hi).1, hr3.lt hi⟩
        have hr5 : Row w5 (.slice A1 e.b.length c1') e.b := hr3.keep fun i hi => by
          have h9 := hlo i hi
          exact (hg2.block i (by omega) (fun e9 => by injection e9 with e9; have := b12.size; omega)).trans (b34.block i h9.2)
        obtain ⟨x, hx⟩ : ∃ x : FE, x = ⟨s.data.toList, w3.heap.size, .slice A1 e.b.length c1', e.b, e.l⟩ := ⟨_, rfl⟩
        have hxv : x.v = .slice A1 e.b.length c1' := by rw [hx]
        have hxg : x.g = w3.heap.size := by rw [hx]
        have hxb : ∀ i ∈ x.bl, w1.heap.size ≤ i := by
          intro i hi
          unfold FE.bl at hi
          rcases List.mem_cons.1 hi with rfl | hi
          · rw [hxg]; exact b13.size
          · rw [hxv] at hi
            have := (hlo i (by simpa using hi)).1
            have := b12.size; omega
        have hxn : x.bl.Nodup := by
          unfold FE.bl
          rw [List.nodup_cons]
          refine ⟨fun hi => ?_, by cases x.v.ownBlock <;> simp⟩
          rw [hxv, hxg] at hi
          have := (hlo _ (by simpa using hi)).2
          omega
        have hTm := HCO.out.2.2.1
        have hxs : x.s = s.data.toList := by rw [hx]
        have hins := hD1.ins_full (x := x) (w2 := w5) (by rw [hxs]; exact hus.1) hxb hxn (by rw [hTm]; exact ht) (by rw [hx]; exact ⟨hbk, hr5, f3⟩) (by rw [hTm, hxs, hxg]; exact (e2 ▸ hown)) (by omega) (by rw [hx]; have := HCO.out.1; simp only; omega)
        refine ⟨w5, hupd, fun q u hq hc => (World.cell?_of_block (hg2.block q.block (World.block_lt_of_cell? w4 _ hc) (fun e9 => by injection e9 with e9; exact hq e9))).trans hc, insF T x, hins.1, HSTEP.out x (by rw [hx]; show (s.data.toList, e.b, e.l) = (e.s, e.b, e.l); rw [hes]), ?_, ?_, ?_⟩
        · intro i hi
          rcases hins.2 i hi with h9 | h9
          · exact HNR.out i h9
          · have := hrg1.lt; omega
        · exact hrg1.kept hg15 (by intro h9; injection h9 with h9; have := hd2.out S.m (bl_m d S); omega) (by intro h9; injection h9 with h9; have := HRB.out; omega)
        · exact hb1.trans ⟨hg15.os, hg15.tape, hg15.output, hg15.size, fun i hi => hg15.block i (by omega) (fun e9 => by injection e9 with e9; omega)⟩
      have HM : Hid (wr.rangeLeft S.m r = cnt ∧ cnt1 < cnt) := ⟨HRG.out.left_eq, hlt⟩
      have hen2 : (Instr.entry (.pointer (some ⟨r, 0, none⟩))).run Try.prog w1 = .ok (.tuple #[.string s, .pointer (some ⟨e.g, 0, none⟩)]) w1 := hen
      have hne1 : e.g ≠ w.heap.size := fun e9 => by have := hd2.out e.g (bl_g hem); omega
      have hne2 : w.heap.size + 1 ≠ w.heap.size := by omega
      obtain ⟨n, hn⟩ : ∃ n, n = e.b.length := ⟨_, rfl⟩
      rw [← hn] at HC HPUT k1
      have HNE := Lib.hid (And.intro hne1 hne2)
      clear hrg1 hg1 hs1 hlt hat hkey hleft hget hen f1 f2 f3 ev hle hro hcb hcm hem hes hD0 hD1 hb1 hbs hgl he1 HUSE HSTEP HCO HD HT HRG HNR hn e2 hne1 hne2
      go_wp2_with fail
      refine wp_region_held_drew (S := fun w' => w'.cell? ⟨w.heap.size + 1, 1, none⟩ = some (.map (some w.heap.size)) ∧ w'.cell? ⟨e.g, 0, none⟩ = some (.slice A n cc) ∧ w'.cell? ⟨e.g, 1, none⟩ = some (.int .u32 (e.l : Int))) (by kernel_rfl) (⟨k0, k1, k2⟩) (fun hHeld => ?_)
      obtain ⟨w2, hw2⟩ : ∃ w2, w1.drew = w2 := ⟨_, rfl⟩
      rw [hw2] at hHeld ⊢
      have b12 : Below w1.heap.size w1 w2 := by rw [← hw2]; exact ⟨rfl, rfl, rfl, Nat.le_refl _, fun _ _ => rfl⟩
      have HC2 := Lib.hid (HC.out w2 b12)
      have B12 := Lib.hid b12
      clear hw2 b12
      refine wpAnyH_take (i := 0) (oi := { dst := Option.some 25, op := Go.Op.move (Go.Operand.tmp 3), type := 25, pos := "disk.go:199", after := #[], guard := Option.none }) (v := ?_) rfl (by kernel_rfl) (by kernel_rfl) (by kernel_rfl) (fun _ _ _ h => h) (Or.inl ⟨by rfl, ?_⟩) (by assumption) ?_
      rotate_left
      · (intro w hSw; (try dsimp only at hSw); go_simp; try with_reducible rfl)
      try simp only [Act.put, List.setIfInBounds_toArray, List.set_cons_zero, List.set_cons_succ]
      refine wpAnyH_take (i := 1) (oi := { dst := Option.some 26, op := Go.Op.nilCheck (Go.Operand.tmp 25), type := 0, pos := "disk.go:199", after := #[{ on := 0, ground := Go.Ground.data }], guard := Option.none }) (v := ?_) rfl (by kernel_rfl) (by kernel_rfl) (by kernel_rfl) (fun _ _ _ h => h) (Or.inl ⟨by rfl, ?_⟩) (by assumption) ?_
      rotate_left
      · (intro w hSw; (try dsimp only at hSw); go_simp; try with_reducible rfl)
      try simp only [Act.put, List.setIfInBounds_toArray, List.set_cons_zero, List.set_cons_succ]
      refine wpAnyH_take (i := 2) (oi := { dst := Option.some 27, op := Go.Op.fieldAddr 59 (Go.Operand.tmp 26) 1, type := 0, pos := "disk.go:199", after := #[{ on := 1, ground := Go.Ground.data }], guard := Option.none }) (v := ?_) rfl (by kernel_rfl) (by kernel_rfl) (by kernel_rfl) (fun _ _ _ h => h) (Or.inl ⟨by rfl, ?_⟩) (by assumption) ?_
      rotate_left
      · (intro w hSw; (try dsimp only at hSw); go_simp; try with_reducible rfl)
      try simp only [Act.put, List.setIfInBounds_toArray, List.set_cons_zero, List.set_cons_succ]
      refine wpAnyH_take (i := 3) (oi := { dst := Option.some 28, op := Go.Op.load 57 (Go.Operand.tmp 27), type := 57, pos := "disk.go:199", after := #[{ on := 2, ground := Go.Ground.data }], guard := Option.none }) (v := ?_) rfl (by kernel_rfl) (by kernel_rfl) (by kernel_rfl) (fun _ _ _ h => h) (Or.inl ⟨by rfl, ?_⟩) (by assumption) ?_
      rotate_left
      · (intro w hSw; (try dsimp only at hSw); go_simp; try with_reducible rfl)
      try simp only [Act.put, List.setIfInBounds_toArray, List.set_cons_zero, List.set_cons_succ]
      refine wpAnyH_take (i := 4) (oi := { dst := Option.some 29, op := Go.Op.move (Go.Operand.tmp 4), type := 9, pos := "disk.go:199", after := #[], guard := Option.none }) (v := ?_) rfl (by kernel_rfl) (by kernel_rfl) (by kernel_rfl) (fun _ _ _ h => h) (Or.inl ⟨by rfl, ?_⟩) (by assumption) ?_
      rotate_left
      · (intro w hSw; (try dsimp only at hSw); go_simp; try with_reducible rfl)
      try simp only [Act.put, List.setIfInBounds_toArray, List.set_cons_zero, List.set_cons_succ]
      refine wpAnyH_take (i := 5) (oi := { dst := Option.some 30, op := Go.Op.move (Go.Operand.tmp 5), type := 61, pos := "disk.go:199", after := #[], guard := Option.none }) (v := ?_) rfl (by kernel_rfl) (by kernel_rfl) (by kernel_rfl) (fun _ _ _ h => h) (Or.inl ⟨by rfl, ?_⟩) (by assumption) ?_
      rotate_left
      · (intro w hSw; (try dsimp only at hSw); go_simp; try with_reducible rfl)
      try simp only [Act.put, List.setIfInBounds_toArray, List.set_cons_zero, List.set_cons_succ]
      refine wpAnyH_take (i := 6) (oi := { dst := Option.some 31, op := Go.Op.nilCheck (Go.Operand.tmp 30), type := 0, pos := "disk.go:199", after := #[{ on := 5, ground := Go.Ground.data }], guard := Option.none }) (v := ?_) rfl (by kernel_rfl) (by kernel_rfl) (by kernel_rfl) (fun _ _ _ h => h) (Or.inl ⟨by rfl, ?_⟩) (by assumption) ?_
      rotate_left
      · (intro w hSw; (try dsimp only at hSw); go_simp; try with_reducible rfl)
      try simp only [Act.put, List.setIfInBounds_toArray, List.set_cons_zero, List.set_cons_succ]
      refine wpAnyH_take (i := 7) (oi := { dst := Option.some 32, op := Go.Op.fieldAddr 64 (Go.Operand.tmp 31) 0, type := 0, pos := "disk.go:199", after := #[{ on := 6, ground := Go.Ground.data }], guard := Option.none }) (v := ?_) rfl (by kernel_rfl) (by kernel_rfl) (by kernel_rfl) (fun _ _ _ h => h) (Or.inl ⟨by rfl, ?_⟩) (by assumption) ?_
      rotate_left
      · (intro w hSw; (try dsimp only at hSw); go_simp; try with_reducible rfl)
      try simp only [Act.put, List.setIfInBounds_toArray, List.set_cons_zero, List.set_cons_succ]
      refine wpAnyH_take (i := 8) (oi := { dst := Option.some 33, op := Go.Op.load 23 (Go.Operand.tmp 32), type := 23, pos := "disk.go:199", after := #[{ on := 7, ground := Go.Ground.data }], guard := Option.none }) (v := ?_) rfl (by kernel_rfl) (by kernel_rfl) (by kernel_rfl) (fun _ _ _ h => h) (Or.inl ⟨by rfl, ?_⟩) (by assumption) ?_
      rotate_left
      · (intro w hSw; (try dsimp only at hSw); go_simp; try with_reducible rfl)
      try simp only [Act.put, List.setIfInBounds_toArray, List.set_cons_zero, List.set_cons_succ]
      refine wpAnyH_take (i := 10) (oi := { dst := Option.some 35, op := Go.Op.move (Go.Operand.tmp 5), type := 61, pos := "disk.go:199", after := #[], guard := Option.none }) (v := ?_) rfl (by kernel_rfl) (by kernel_rfl) (by kernel_rfl) (fun _ _ _ h => h) (Or.inl ⟨by rfl, ?_⟩) (by assumption) ?_
      rotate_left
      · (intro w hSw; (try dsimp only at hSw); go_simp; try with_reducible rfl)
      try simp only [Act.put, List.setIfInBounds_toArray, List.set_cons_zero, List.set_cons_succ]
      refine wpAnyH_take (i := 11) (oi := { dst := Option.some 36, op := Go.Op.nilCheck (Go.Operand.tmp 35), type := 0, pos := "disk.go:199", after := #[{ on := 10, ground := Go.Ground.data }], guard := Option.none }) (v := ?_) rfl (by kernel_rfl) (by kernel_rfl) (by kernel_rfl) (fun _ _ _ h => h) (Or.inl ⟨by rfl, ?_⟩) (by assumption) ?_
      rotate_left
      · (intro w hSw; (try dsimp only at hSw); go_simp; try with_reducible rfl)
      try simp only [Act.put, List.setIfInBounds_toArray, List.set_cons_zero, List.set_cons_succ]
      refine wpAnyH_take (i := 12) (oi := { dst := Option.some 37, op := Go.Op.fieldAddr 64 (Go.Operand.tmp 36) 1, type := 0, pos := "disk.go:199", after := #[{ on := 11, ground := Go.Ground.data }], guard := Option.none }) (v := ?_) rfl (by kernel_rfl) (by kernel_rfl) (by kernel_rfl) (fun _ _ _ h => h) (Or.inl ⟨by rfl, ?_⟩) (by assumption) ?_
      rotate_left
      · (intro w hSw; (try dsimp only at hSw); go_simp; try with_reducible rfl)
      try simp only [Act.put, List.setIfInBounds_toArray, List.set_cons_zero, List.set_cons_succ]
      refine wpAnyH_take (i := 13) (oi := { dst := Option.some 38, op := Go.Op.load 62 (Go.Operand.tmp 37), type := 62, pos := "disk.go:199", after := #[{ on := 12, ground := Go.Ground.data }], guard := Option.none }) (v := ?_) rfl (by kernel_rfl) (by kernel_rfl) (by kernel_rfl) (fun _ _ _ h => h) (Or.inl ⟨by rfl, ?_⟩) (by assumption) ?_
      rotate_left
      · (intro w hSw; (try dsimp only at hSw); go_simp; try with_reducible rfl)
      try simp only [Act.put, List.setIfInBounds_toArray, List.set_cons_zero, List.set_cons_succ]
      refine wpAnyH_ready (rs := [9]) (by kernel_rfl) (by simp) ?_
      refine AllReadyH.cons (o := { dst := Option.some 34, op := Go.Op.call { callee := Go.Callee.value (Go.Operand.func 32), args := #[Go.Operand.tmp 33], argTypes := #[23] }, type := 23, pos := "disk.go:199", after := #[{ on := 8, ground := Go.Ground.data }], guard := Option.none }) rfl (fun K hK => ?_) AllReadyH.nil
      go_simp
      refine (unhide3 HC2).mono ?_
      rintro en w3 ⟨A1, c1', rfl, o1, b23, h1, h2⟩
      have hH3 : w3.cell? ⟨w.heap.size + 1, 1, none⟩ = some (.map (some w.heap.size)) ∧ w3.cell? ⟨e.g, 0, none⟩ = some (.slice A n cc) ∧ w3.cell? ⟨e.g, 1, none⟩ = some (.int .u32 (e.l : Int)) := ⟨(b23.cell (p := ⟨w.heap.size + 1, 1, none⟩) (World.block_lt_of_cell? w2 _ hHeld.1)).trans hHeld.1, (b23.cell (p := ⟨e.g, 0, none⟩) (World.block_lt_of_cell? w2 _ hHeld.2.1)).trans hHeld.2.1, (b23.cell (p := ⟨e.g, 1, none⟩) (World.block_lt_of_cell? w2 _ hHeld.2.2)).trans hHeld.2.2⟩
      go_wp2_with fail
      refine hK.out _ _ (hH3) (fun hHeld => ?_)
      clear hK K
      try simp only [Act.put, List.setIfInBounds_toArray, List.set_cons_zero, List.set_cons_succ]
      refine wpAnyH_take (i := 14) (oi := { dst := Option.some 39, op := Go.Op.build 64 #[(0, Go.Operand.tmp 34), (1, Go.Operand.tmp 38)], type := 64, pos := "disk.go:199", after := #[{ on := 9, ground := Go.Ground.data }, { on := 13, ground := Go.Ground.data }], guard := Option.none }) (v := ?_) rfl (by kernel_rfl) (by kernel_rfl) (by kernel_rfl) (fun _ _ _ h => h) (Or.inl ⟨by rfl, ?_⟩) (by assumption) ?_
      rotate_left
      · (intro w hSw; (try dsimp only at hSw); go_simp; try with_reducible rfl)
      try simp only [Act.put, List.setIfInBounds_toArray, List.set_cons_zero, List.set_cons_succ]
      refine wpAnyH_ready (rs := [15]) (by kernel_rfl) (by simp) ?_
      refine AllReadyH.cons (o := { dst := Option.some 40, op := Go.Op.box 64 (Go.Operand.tmp 39), type := 61, pos := "disk.go:199", after := #[{ on := 14, ground := Go.Ground.data }], guard := Option.none }) rfl (fun K hK => ?_) AllReadyH.nil
      go_simp
      obtain ⟨w4, hw4⟩ : ∃ w4, w3.alloc (.cells #[.slice A1 n c1', .int .u32 (e.l : Int)] 64) = w4 := ⟨_, rfl⟩
      rw [hw4]
      have b34 : Below w3.heap.size w3 w4 := by rw [← hw4]; exact below_refl_alloc _ _
      have hH4 : w4.cell? ⟨w.heap.size + 1, 1, none⟩ = some (.map (some w.heap.size)) ∧ w4.cell? ⟨e.g, 0, none⟩ = some (.slice A n cc) ∧ w4.cell? ⟨e.g, 1, none⟩ = some (.int .u32 (e.l : Int)) := ⟨(b34.cell (p := ⟨w.heap.size + 1, 1, none⟩) (World.block_lt_of_cell? w3 _ hH3.1)).trans hH3.1, (b34.cell (p := ⟨e.g, 0, none⟩) (World.block_lt_of_cell? w3 _ hH3.2.1)).trans hH3.2.1, (b34.cell (p := ⟨e.g, 1, none⟩) (World.block_lt_of_cell? w3 _ hH3.2.2)).trans hH3.2.2⟩
      refine hK.out _ _ (hH4) (fun hHeld => ?_)
      clear hK K
      try simp only [Act.put, List.setIfInBounds_toArray, List.set_cons_zero, List.set_cons_succ]
      refine wpAnyH_ready (rs := [16]) (by kernel_rfl) (by simp) ?_
      refine AllReadyH.cons (o := { dst := Option.none, op := Go.Op.mapUpdate 57 (Go.Operand.tmp 28) (Go.Operand.tmp 29) (Go.Operand.tmp 40), type := 0, pos := "disk.go:199", after := #[{ on := 3, ground := Go.Ground.data }, { on := 4, ground := Go.Ground.data }, { on := 15, ground := Go.Ground.data }, { on := 9, ground := Go.Ground.chain }, { on := 0, ground := Go.Ground.phase }, { on := 1, ground := Go.Ground.phase }, { on := 2, ground := Go.Ground.phase }, { on := 3, ground := Go.Ground.phase }, { on := 4, ground := Go.Ground.phase }, { on := 5, ground := Go.Ground.phase }, { on := 6, ground := Go.Ground.phase }, { on := 7, ground := Go.Ground.phase }, { on := 8, ground := Go.Ground.phase }, { on := 9, ground := Go.Ground.phase }, { on := 10, ground := Go.Ground.phase }, { on := 11, ground := Go.Ground.phase }, { on := 12, ground := Go.Ground.phase }, { on := 13, ground := Go.Ground.phase }, { on := 14, ground := Go.Ground.phase }, { on := 15, ground := Go.Ground.phase }], guard := Option.none }) rfl (fun K hK => ?_) AllReadyH.nil
      obtain ⟨w5, hupd, hkeep, hfin⟩ := HPUT.out w2 w3 w4 A1 c1' B12.out o1 b23 hw4
      have hupd2 : (Instr.mapUpdate 57 (.map (some w.heap.size)) (.string s) (.pointer (some ⟨w3.heap.size, 0, none⟩))).run Try.prog w4 = .ok () w5 := hupd
      go_simp
      have hH5 : w5.cell? ⟨w.heap.size + 1, 1, none⟩ = some (.map (some w.heap.size)) ∧ w5.cell? ⟨e.g, 0, none⟩ = some (.slice A n cc) ∧ w5.cell? ⟨e.g, 1, none⟩ = some (.int .u32 (e.l : Int)) := ⟨hkeep _ _ HNE.out.2 hH4.1, hkeep _ _ HNE.out.1 hH4.2.1, hkeep _ _ HNE.out.1 hH4.2.2⟩
      have HFIN := Lib.hid hfin
      refine hK.out _ _ (hH5) (fun hHeld => ?_)
      clear hK K
      try simp only [Act.put, List.setIfInBounds_toArray, List.set_cons_zero, List.set_cons_succ]
      refine wpAnyH_done (by kernel_rfl) ?_ _
      clear hHeld
      obtain ⟨T', hT'⟩ := HFIN.out
      have HT' := Lib.hid hT'
      clear hT' HFIN hfin hH3 hH4 hH5 hupd hupd2 hkeep
      go_wp2_with fail
      exact ⟨⟨_, cnt1, T', HT'.out.1, HT'.out.2.1, HT'.out.2.2.1, HT'.out.2.2.2.1, HT'.out.2.2.2.2⟩, by rw [HM.out.1, HT'.out.2.2.2.1.left_eq]; exact HM.out.2⟩
end Go.Proofs.Ytcoimlenejffpaa
