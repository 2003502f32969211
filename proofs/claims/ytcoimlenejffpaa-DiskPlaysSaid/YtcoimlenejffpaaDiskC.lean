/- disk: what becomes of a disk when one file turns, when one is laid, when one is taken away. -/
import Derived.Test.YtcoimlenejffpaaDiskB
namespace Go.Proofs.Ytcoimlenejffpaa
set_option linter.all false
open Go.RowKit
theorem nodup_mid {X B B' Y : List Nat} (h : (X ++ (B ++ Y)).Nodup) (hb : B'.Nodup) (hs : ∀ i ∈ B', i ∈ B ∨ (i ∉ X ∧ i ∉ Y)) : (X ++ (B' ++ Y)).Nodup := by
  rw [List.nodup_append] at h ⊢
  obtain ⟨h1, h2, h3⟩ := h
  rw [List.nodup_append] at h2 ⊢
  obtain ⟨h4, h5, h6⟩ := h2
  refine ⟨h1, ⟨hb, h5, fun a ha b hbb e => ?_⟩, fun a ha b hbb e => ?_⟩
  · subst e
    rcases hs a ha with h7 | h7
    · exact h6 a h7 a hbb rfl
    · exact h7.2 hbb
  · subst e
    rcases List.mem_append.1 hbb with h7 | h7
    · rcases hs a h7 with h8 | h8
      · exact h3 a ha a (List.mem_append_left _ h8) rfl
      · exact h8.1 ha
    · exact h3 a ha a (List.mem_append_right _ h7) rfl
/-- Where a file stands. -/
theorem split_at {S : DS} {s : List UInt8} {e : FE} (hn : Nd1 (enOf S.E)) (h : getE s S.E = some e) :
    ∃ E1 E2, S.E = E1 ++ e :: E2 ∧ ∀ f : FE → FE, setE s f S.E = E1 ++ f e :: E2 := by
  have key : ∀ E : List FE, Nd1 (enOf E) → getE s E = some e → ∃ E1 E2, E = E1 ++ e :: E2 ∧ ∀ f : FE → FE, setE s f E = E1 ++ f e :: E2 := by
    intro E
    induction E with
    | nil => intro _ h; simp [getE] at h
    | cons x r ih =>
      intro hn h
      obtain ⟨h1, h2⟩ := List.pairwise_cons.1 (show List.Pairwise _ (enE x :: enOf r) from hn)
      unfold getE at h
      rw [List.find?_cons] at h
      rcases hx : (x.s == s) with _ | _
      · rw [hx] at h
        obtain ⟨E1, E2, e1, e2⟩ := ih h2 h
        refine ⟨x :: E1, E2, by rw [e1]; rfl, fun f => ?_⟩
        have := e2 f
        unfold setE at this ⊢
        rw [List.map_cons, hx, this]; rfl
      · rw [hx] at h
        simp only at h
        injection h with h
        subst h
        refine ⟨[], r, rfl, fun f => ?_⟩
        have hr : setE s f r = r := by
          unfold setE
          conv => rhs; rw [← List.map_id r]
          apply List.map_congr_left
          intro y hy
          have hne : y.s ≠ x.s := fun e => h1 (enE y) (List.mem_map.2 ⟨y, hy, rfl⟩) e.symm
          have hxs : x.s = s := by simpa using hx
          have : (y.s == s) = false := by rw [← hxs]; simpa using hne
          rw [this]; rfl
        unfold setE at hr ⊢
        rw [List.map_cons, hx, hr]; rfl
  exact key S.E hn h
theorem bl_split {d : Nat} {S : DS} {E1 E2 : List FE} {e : FE} (h : S.E = E1 ++ e :: E2) : S.bl d = (d :: S.m :: E1.flatMap FE.bl) ++ (e.bl ++ E2.flatMap FE.bl) := by
  unfold DS.bl; rw [h]; simp
def setF (S : DS) (s : List UInt8) (e' : FE) : DS := { S with E := setE s (fun _ => e') S.E }
/-- One file has turned. -/
theorem DW.set_file {w w' : World} {base d : Nat} {S : DS} {s : List UInt8} {e e' : FE} (h : DW w base d S) (hg : getE s S.E = some e) (h1 : e'.s = e.s) (h2 : e'.g = e.g)
    (ht : Turn e.bl w w') (hf : FW w' e') (hv : e'.v.ownBlock = e.v.ownBlock ∨ (∃ i, e'.v.ownBlock = some i ∧ w.heap.size ≤ i) ∨ e'.v.ownBlock = none) (hu : S.used + e'.b.length ≤ S.room + e.b.length) :
    DW w' base d (setF S s e') ∧ ∀ i ∈ (setF S s e').bl d, i ∈ S.bl d ∨ w.heap.size ≤ i := by
  obtain ⟨E1, E2, e1, e2⟩ := split_at h.nd hg
  have e3 : (setF S s e').E = E1 ++ e' :: E2 := e2 fun _ => e'
  have hb := bl_split (d := d) e1
  have hb' := bl_split (d := d) (S := setF S s e') e3
  have hem : (setF S s e').m = S.m := rfl
  rw [hem] at hb'
  have hbase : ∀ i ∈ S.bl d, i < w.heap.size := fun i hi => (h.ge i hi).2
  have hsub : ∀ i ∈ e'.bl, i ∈ e.bl ∨ w.heap.size ≤ i := by
    intro i hi
    unfold FE.bl at hi ⊢
    rcases List.mem_cons.1 hi with rfl | hi
    · left; rw [h2]; exact List.mem_cons_self
    · rcases hv with hv | ⟨j, hj, hj2⟩ | hv
      · rw [hv] at hi; left; exact List.mem_cons_of_mem _ hi
      · rw [hj] at hi; simp at hi; subst hi; exact .inr hj2
      · rw [hv] at hi; simp at hi
  have hlt : ∀ i ∈ e'.bl, i < w'.heap.size := by
    intro i hi
    unfold FE.bl at hi
    rcases List.mem_cons.1 hi with rfl | hi
    · exact hf.1.lt
    · exact hf.2.1.lt (by simpa using hi)
  have hin : ∀ i ∈ (setF S s e').bl d, i ∈ S.bl d ∨ w.heap.size ≤ i := by
    intro i hi
    rw [hb'] at hi
    rw [hb]
    rcases List.mem_append.1 hi with h3 | h3
    · exact .inl (List.mem_append_left _ h3)
    · rcases List.mem_append.1 h3 with h4 | h4
      · rcases hsub i h4 with h5 | h5
        · exact .inl (List.mem_append_right _ (List.mem_append_left _ h5))
        · exact .inr h5
      · exact .inl (List.mem_append_right _ (List.mem_append_right _ h4))
  have hnd := h.nodup
  rw [hb] at hnd
  have hX : ∀ i ∈ d :: S.m :: E1.flatMap FE.bl, i ∈ S.bl d := fun i hi => by rw [hb]; exact List.mem_append_left _ hi
  have hY : ∀ i ∈ E2.flatMap FE.bl, i ∈ S.bl d := fun i hi => by rw [hb]; exact List.mem_append_right _ (List.mem_append_right _ hi)
  have hnd2 := List.nodup_append.1 hnd
  have hXe : ∀ i ∈ d :: S.m :: E1.flatMap FE.bl, i ∉ e.bl := fun i hi hj => hnd2.2.2 i hi i (List.mem_append_left _ hj) rfl
  have hYe : ∀ i ∈ E2.flatMap FE.bl, i ∉ e.bl := fun i hi hj => (List.nodup_append.1 hnd2.2.1).2.2 i hj i hi rfl
  have kX : ∀ i ∈ d :: S.m :: E1.flatMap FE.bl, w'.heap[i]? = w.heap[i]? := fun i hi => ht.block i (hbase i (hX i hi)) (hXe i hi)
  have kY : ∀ i ∈ E2.flatMap FE.bl, w'.heap[i]? = w.heap[i]? := fun i hi => ht.block i (hbase i (hY i hi)) (hYe i hi)
  have hnb : e'.bl.Nodup := by
    unfold FE.bl
    rw [List.nodup_cons]
    refine ⟨?_, by cases e'.v.ownBlock <;> simp⟩
    rcases hv with hv | ⟨j, hj, hj2⟩ | hv
    · rw [hv, h2]
      have : e.bl.Nodup := (List.nodup_append.1 hnd2.2.1).1
      unfold FE.bl at this
      exact (List.nodup_cons.1 this).1
    · rw [hj]; simp
      intro e4
      have : e.g < w.heap.size := (h.file e (by rw [e1]; simp)).1.lt
      omega
    · rw [hv]; simp
  refine ⟨⟨?_, ?_, ?_, ?_, ?_, ?_, ?_, h.left⟩, hin⟩
  · exact (kX d (by simp)).trans h.cell
  · have : enOf (setF S s e').E = enOf S.E := by
      unfold enOf; rw [e3, e1]; simp [enE, h1, h2]
    have hlen : (setF S s e').E.length = S.E.length := by rw [e3, e1]; simp
    rw [this, hlen]
    exact owns_block h.map (kX S.m (by simp))
  · intro x hx
    rw [e3] at hx
    rcases List.mem_append.1 hx with h3 | h3
    · have hxE : x ∈ S.E := by rw [e1]; exact List.mem_append_left _ h3
      have hbl : ∀ i ∈ x.bl, i ∈ d :: S.m :: E1.flatMap FE.bl := fun i hi => by simp only [List.mem_cons, List.mem_flatMap]; exact .inr (.inr ⟨x, h3, hi⟩)
      obtain ⟨f1, f2, f3⟩ := h.file x hxE
      exact ⟨(kX x.g (hbl _ (by simp [FE.bl]))).trans f1, f2.keep fun i hi => kX i (hbl _ (by simp [FE.bl, hi])), f3⟩
    · rcases List.mem_cons.1 h3 with rfl | h4
      · exact hf
      · have hxE : x ∈ S.E := by rw [e1]; exact List.mem_append_right _ (List.mem_cons_of_mem _ h4)
        have hbl : ∀ i ∈ x.bl, i ∈ E2.flatMap FE.bl := fun i hi => List.mem_flatMap.2 ⟨x, h4, hi⟩
        obtain ⟨f1, f2, f3⟩ := h.file x hxE
        exact ⟨(kY x.g (hbl _ (by simp [FE.bl]))).trans f1, f2.keep fun i hi => kY i (hbl _ (by simp [FE.bl, hi])), f3⟩
  · rw [hb']
    refine nodup_mid hnd hnb fun i hi => ?_
    rcases hsub i hi with h3 | h3
    · exact .inl h3
    · exact .inr ⟨fun h4 => by have := hbase i (hX i h4); omega, fun h4 => by have := hbase i (hY i h4); omega⟩
  · intro i hi
    refine ⟨?_, ?_⟩
    · rcases hin i hi with h3 | h3
      · exact (h.ge i h3).1
      · have := (h.ge d (bl_d d S)); omega
    · rw [hb'] at hi
      rcases List.mem_append.1 hi with h3 | h3
      · exact Nat.lt_of_lt_of_le (hbase i (hX i h3)) ht.size
      · rcases List.mem_append.1 h3 with h4 | h4
        · exact hlt i h4
        · exact Nat.lt_of_lt_of_le (hbase i (hY i h4)) ht.size
  · have u1 : (setF S s e').used + e.b.length = S.used + e'.b.length := by
      unfold DS.used; rw [e3, e1]; simp; omega
    have := h.room
    show (setF S s e').used ≤ S.room ∧ S.room ≤ 1073741824
    omega
  · have hlen : (setF S s e').E.length = S.E.length := by rw [e3, e1]; simp
    rw [hlen]; exact h.few
def insE (x : FE) : List FE → List FE
  | [] => [x]
  | y :: r => if bytesBefore x.s y.s then x :: y :: r else y :: insE x r
theorem insE_en (x : FE) : ∀ E : List FE, enOf (insE x E) = insL (enE x) (enOf E)
  | [] => rfl
  | y :: r => by
    show enOf (if bytesBefore x.s y.s then x :: y :: r else y :: insE x r) = if bytesBefore x.s y.s then enE x :: enE y :: enOf r else enE y :: insL (enE x) (enOf r)
    split
    · rfl
    · show enE y :: enOf (insE x r) = _
      rw [insE_en x r]
theorem insE_perm (x : FE) : ∀ E : List FE, (insE x E).Perm (x :: E)
  | [] => List.Perm.refl _
  | y :: r => by
    simp only [insE]
    split
    · exact List.Perm.refl _
    · exact ((insE_perm x r).cons y).trans (List.Perm.swap x y r)
def insF (S : DS) (e' : FE) : DS := { S with E := insE e' S.E }
/-- A file has been laid, without a byte. -/
theorem DW.ins_file {w w1 w2 : World} {base d g : Nat} {S : DS} {s : List UInt8} (h : DW w base d S) (hg : getE s S.E = none) (hgb : w.heap.size ≤ g) (ht1 : Turn [S.m] w w2)
    (hf : Blk w2 g #[.slice none 0 0, .int .u32 0] 64) (hm : w2.ownsMap Try.prog 9 ptrR S.m (S.E.length + 1) ((DL (enOf S.E)).put (.string s) (mkD (some g)))) (hfew : S.E.length < 4096) :
    DW w2 base d (insF S ⟨s, g, .slice none 0 0, [], 0⟩) ∧ ∀ i ∈ (insF S ⟨s, g, .slice none 0 0, [], 0⟩).bl d, i ∈ S.bl d ∨ w.heap.size ≤ i := by
  have hp := insE_perm ⟨s, g, .slice none 0 0, [], 0⟩ S.E
  have hlen : (insE ⟨s, g, .slice none 0 0, [], 0⟩ S.E).length = S.E.length + 1 := by rw [hp.length_eq]; rfl
  have hbl : ((insF S ⟨s, g, .slice none 0 0, [], 0⟩).bl d).Perm (g :: S.bl d) := by
    unfold insF DS.bl
    simp only
    have h1 : ((insE ⟨s, g, .slice none 0 0, [], 0⟩ S.E).flatMap FE.bl).Perm ([g] ++ S.E.flatMap FE.bl) := by
      have := List.Perm.flatMap_right (f := FE.bl) hp
      simpa [FE.bl, Value.ownBlock] using this
    have h2 := (h1.cons S.m).cons d
    refine h2.trans ?_
    simp only [List.cons_append, List.nil_append]
    exact ((List.Perm.swap g S.m _).cons d).trans (List.Perm.swap g d _)
  have hbase : ∀ i ∈ S.bl d, i < w.heap.size := fun i hi => (h.ge i hi).2
  have hgn : g ∉ S.bl d := fun hi => by have := hbase g hi; omega
  have hm1 : ∀ i ∈ S.bl d, i ≠ S.m → w2.heap[i]? = w.heap[i]? := fun i hi hne => ht1.block i (hbase i hi) (by simpa using hne)
  have hnd := h.nodup
  have hnm : ∀ i ∈ S.E.flatMap FE.bl, i ≠ S.m := by
    unfold DS.bl at hnd
    rw [List.nodup_cons, List.nodup_cons] at hnd
    exact fun i hi e => hnd.2.1 (e ▸ hi)
  have hdm : d ≠ S.m := by
    unfold DS.bl at hnd
    rw [List.nodup_cons] at hnd
    exact fun e => hnd.1 (e ▸ List.mem_cons_self)
  refine ⟨⟨?_, ?_, ?_, ?_, ?_, ?_, ?_, h.left⟩, ?_⟩
  · exact (hm1 d (bl_d d S) hdm).trans h.cell
  · have e1 : enOf (insF S ⟨s, g, .slice none 0 0, [], 0⟩).E = putL s g (enOf S.E) := by
      unfold putL
      rw [delL_none (by rw [getL_getE, hg]; rfl)]
      exact insE_en _ _
    rw [e1]
    have e2 : (insF S ⟨s, g, .slice none 0 0, [], 0⟩).E.length = S.E.length + 1 := hlen
    rw [e2, ← DL_put]
    exact hm
  · intro x hx
    have hx' := hp.mem_iff.1 hx
    rcases List.mem_cons.1 hx' with rfl | hxE
    · exact ⟨hf, Row.nil _, Nat.le_refl _⟩
    · obtain ⟨f1, f2, f3⟩ := h.file x hxE
      have hb1 : ∀ i ∈ x.bl, w2.heap[i]? = w.heap[i]? := fun i hi => by
        have : i ∈ S.E.flatMap FE.bl := List.mem_flatMap.2 ⟨x, hxE, hi⟩
        exact hm1 i (by unfold DS.bl; simp only [List.mem_cons]; exact .inr (.inr this)) (hnm i this)
      exact ⟨(hb1 x.g (by simp [FE.bl])).trans f1, f2.keep fun i hi => hb1 i (by simp [FE.bl, hi]), f3⟩
  · exact hbl.nodup_iff.2 (List.nodup_cons.2 ⟨hgn, hnd⟩)
  · intro i hi
    rcases List.mem_cons.1 (hbl.mem_iff.1 hi) with rfl | h1
    · exact ⟨by have := h.ge d (bl_d d S); omega, hf.lt⟩
    · exact ⟨(h.ge i h1).1, Nat.lt_of_lt_of_le (hbase i h1) ht1.size⟩
  · have : (insF S ⟨s, g, .slice none 0 0, [], 0⟩).used = S.used := by
      unfold DS.used insF
      have := (hp.map fun e => e.b.length).sum_nat
      simpa using this
    show (insF S ⟨s, g, .slice none 0 0, [], 0⟩).used ≤ S.room ∧ S.room ≤ 1073741824
    rw [this]; exact h.room
  · have e2 : (insF S ⟨s, g, .slice none 0 0, [], 0⟩).E.length = S.E.length + 1 := hlen
    rw [e2]; omega
  · intro i hi
    rcases List.mem_cons.1 (hbl.mem_iff.1 hi) with rfl | h1
    · exact .inr hgb
    · exact .inl h1
end Go.Proofs.Ytcoimlenejffpaa
