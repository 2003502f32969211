/- disk: Rename, Remove. -/
import Derived.Test.YtcoimlenejffpaaDiskF
namespace Go.Proofs.Ytcoimlenejffpaa
set_option linter.all false
open Go.RowKit
theorem owns_tight {P : Program} {k : TypeId} {w : World} {b n : Nat} {L : En} (h : w.ownsMap P k ptrR b n (DL L)) : w.ownsMap P k ptrR b L.length (DL L) := by
  obtain ⟨es, clock, hb, F, hs, hD⟩ := h
  refine ⟨es, clock, hb, F, ?_, hD⟩
  have h1 : (L.map enL).length = es.size := by
    have : L.map enL = (es.toList.map (Go.WideElems.rg P k ptrR)).foldr DataW.insert [] := by unfold DL at hD; injection hD
    rw [this]; exact Go.length_read es
  simpa using Nat.le_of_eq h1.symm
def remE (s : List UInt8) (E : List FE) : List FE := E.filter fun e => !(e.s == s)
theorem remE_en (s : List UInt8) (E : List FE) : enOf (remE s E) = delL s (enOf E) := by
  unfold enOf remE delL
  rw [List.filter_map]; rfl
theorem mem_remE {s : List UInt8} {E : List FE} {x : FE} : x ∈ remE s E ↔ x ∈ E ∧ x.s ≠ s := by simp [remE]
theorem nd_rem {s : List UInt8} {E : List FE} (h : Nd1 (enOf E)) : Nd1 (enOf (remE s E)) := by
  rw [remE_en]; exact List.Pairwise.filter _ h
theorem perm_rem {s : List UInt8} {e : FE} : ∀ {E : List FE}, Nd1 (enOf E) → getE s E = some e → E.Perm (e :: remE s E)
  | [], _, h => by cases h
  | x :: r, hn, h => by
    obtain ⟨h1, h2⟩ := List.pairwise_cons.1 (show List.Pairwise _ (enE x :: enOf r) from hn)
    unfold getE at h
    rw [List.find?_cons] at h
    rcases hx : (x.s == s) with _ | _
    · rw [hx] at h
      have ih := perm_rem h2 h
      unfold remE at ih ⊢
      rw [List.filter_cons_of_pos (by simp [hx])]
      exact (ih.cons x).trans (List.Perm.swap e x _)
    · rw [hx] at h
      simp only at h
      injection h with h
      subst h
      have hxs : x.s = s := by simpa using hx
      have : remE s r = r := by
        unfold remE
        rw [List.filter_eq_self]
        intro y hy
        have := h1 (enE y) (List.mem_map.2 ⟨y, hy, rfl⟩)
        simp only [enE] at this
        rw [← hxs]
        simpa using fun e => this e.symm
      unfold remE at this ⊢
      rw [List.filter_cons_of_neg (by simp [hx]), this]
theorem remE_none {s : List UInt8} {E : List FE} (h : getE s E = none) : remE s E = E := by
  unfold remE
  rw [List.filter_eq_self]
  intro x hx
  unfold getE at h
  rw [List.find?_eq_none] at h
  simpa using h x hx
/-- The map has turned; the files lie where they lay. -/
theorem DW.remap {w w' : World} {base d : Nat} {S : DS} {E' : List FE} (h : DW w base d S) (hp : ∃ X, (E'.flatMap FE.bl ++ X).Perm (S.E.flatMap FE.bl))
    (hf : ∀ x ∈ E', ∃ y ∈ S.E, x.g = y.g ∧ x.v = y.v ∧ x.b = y.b ∧ x.l = y.l) (hu : (E'.map fun e => e.b.length).sum ≤ S.used) (hl : E'.length ≤ S.E.length) (ht : Turn [S.m] w w')
    (hm : w'.ownsMap Try.prog 9 ptrR S.m E'.length (DL (enOf E'))) : DW w' base d { S with E := E' } ∧ ∀ i ∈ ({ S with E := E' } : DS).bl d, i ∈ S.bl d := by
  obtain ⟨X, hX⟩ := hp
  have hsub : ∀ i ∈ E'.flatMap FE.bl, i ∈ S.E.flatMap FE.bl := fun i hi => hX.mem_iff.1 (List.mem_append_left _ hi)
  have hnd := h.nodup
  unfold DS.bl at hnd
  rw [List.nodup_cons, List.nodup_cons] at hnd
  have hbl : ∀ i ∈ ({ S with E := E' } : DS).bl d, i ∈ S.bl d := by
    intro i hi
    unfold DS.bl at hi ⊢
    simp only [List.mem_cons] at hi ⊢
    rcases hi with h1 | h1 | h1
    · exact .inl h1
    · exact .inr (.inl h1)
    · exact .inr (.inr (hsub i h1))
  have hm1 : ∀ i ∈ S.bl d, i ≠ S.m → w'.heap[i]? = w.heap[i]? := fun i hi hne => ht.block i (h.ge i hi).2 (by simpa using hne)
  have hnm : ∀ i ∈ S.E.flatMap FE.bl, i ≠ S.m := fun i hi e => hnd.2.1 (e ▸ hi)
  refine ⟨⟨?_, hm, ?_, ?_, ?_, ?_, ?_, h.left⟩, hbl⟩
  · exact (hm1 d (bl_d d S) (fun e => hnd.1 (e ▸ List.mem_cons_self))).trans h.cell
  · intro x hx
    obtain ⟨y, hy, e1, e2, e3, e4⟩ := hf x hx
    obtain ⟨f1, f2, f3⟩ := h.file y hy
    have hb1 : ∀ i ∈ y.bl, w'.heap[i]? = w.heap[i]? := fun i hi => by
      have : i ∈ S.E.flatMap FE.bl := List.mem_flatMap.2 ⟨y, hy, hi⟩
      exact hm1 i (by unfold DS.bl; simp only [List.mem_cons]; exact .inr (.inr this)) (hnm i this)
    unfold FW
    rw [e1, e2, e3, e4]
    exact ⟨(hb1 y.g (by simp [FE.bl])).trans f1, f2.keep fun i hi => hb1 i (by simp [FE.bl, hi]), f3⟩
  · unfold DS.bl
    rw [List.nodup_cons, List.nodup_cons]
    have hnE : (E'.flatMap FE.bl).Nodup := (List.nodup_append.1 (hX.nodup_iff.2 hnd.2.2)).1
    refine ⟨fun hi => hnd.1 ?_, fun hi => hnd.2.1 (hsub _ hi), hnE⟩
    simp only [List.mem_cons] at hi ⊢
    rcases hi with h1 | h1
    · exact .inl h1
    · exact .inr (hsub _ h1)
  · intro i hi
    exact ⟨(h.ge i (hbl i hi)).1, Nat.lt_of_lt_of_le (h.ge i (hbl i hi)).2 ht.size⟩
  · have := h.room
    show (E'.map fun e => e.b.length).sum ≤ S.room ∧ S.room ≤ 1073741824
    omega
  · have := h.few
    show E'.length ≤ 4096
    omega
/-- A file that gets another name. -/
def renE (old new : List UInt8) (e : FE) (E : List FE) : List FE := insE { e with s := new } (remE new (remE old E))
theorem renE_en {old new : List UInt8} {e : FE} {E : List FE} : enOf (renE old new e E) = putL new e.g (delL old (enOf E)) := by
  unfold renE putL
  rw [insE_en, remE_en, remE_en]; rfl
theorem split_rem (s : List UInt8) (E : List FE) : ∃ Y, (remE s E ++ Y).Perm E :=
  ⟨E.filter fun e => e.s == s, by
    unfold remE
    have := List.filter_append_perm (fun e : FE => !(e.s == s)) E
    simpa using this⟩
theorem ren_perm {old new : List UInt8} {e : FE} {E : List FE} (hn : Nd1 (enOf E)) (h : getE old E = some e) : ∃ Y : List FE, E.Perm (e :: (remE new (remE old E) ++ Y)) := by
  obtain ⟨Y, hY⟩ := split_rem new (remE old E)
  exact ⟨Y, (perm_rem hn h).trans (hY.symm.cons e)⟩
theorem DW.ren_file {w w' : World} {base d : Nat} {S : DS} {old new : List UInt8} {e : FE} (h : DW w base d S) (hg : getE old S.E = some e) (ht : Turn [S.m] w w')
    {n : Nat} (hm : w'.ownsMap Try.prog 9 ptrR S.m n (((DL (enOf S.E)).del (.string old)).put (.string new) (mkD (some e.g)))) :
    DW w' base d { S with E := renE old new e S.E } ∧ ∀ i ∈ ({ S with E := renE old new e S.E } : DS).bl d, i ∈ S.bl d := by
  obtain ⟨Y, hY⟩ := ren_perm (new := new) h.nd hg
  have hp := insE_perm { e with s := new } (remE new (remE old S.E))
  have hE : (renE old new e S.E).Perm ({ e with s := new } :: remE new (remE old S.E)) := hp
  have hm2 : w'.ownsMap Try.prog 9 ptrR S.m (renE old new e S.E).length (DL (enOf (renE old new e S.E))) := by
    have e1 : ((DL (enOf S.E)).del (.string old)).put (.string new) (mkD (some e.g)) = DL (enOf (renE old new e S.E)) := by
      rw [DL_del, DL_put, renE_en]
    rw [e1] at hm
    have := owns_tight hm
    rwa [show (enOf (renE old new e S.E)).length = (renE old new e S.E).length by simp [enOf]] at this
  have hlen : (renE old new e S.E).length ≤ S.E.length := by
    rw [hE.length_eq, hY.length_eq]; simp
  have hused : ((renE old new e S.E).map fun e => e.b.length).sum ≤ S.used := by
    have h1 := (hE.map fun e => e.b.length).sum_nat
    have h2 := (hY.map fun e => e.b.length).sum_nat
    unfold DS.used
    rw [h1, h2]; simp
  refine h.remap ⟨Y.flatMap FE.bl, ?_⟩ (fun x hx => ?_) hused hlen ht hm2
  · have h1 := List.Perm.flatMap_right (f := FE.bl) hE
    have h2 := List.Perm.flatMap_right (f := FE.bl) hY
    refine (h1.append_right _).trans (List.Perm.trans ?_ h2.symm)
    simp [FE.bl]
  · rcases List.mem_cons.1 (hE.mem_iff.1 hx) with rfl | h1
    · exact ⟨e, (getE_mem hg).1, rfl, rfl, rfl, rfl⟩
    · exact ⟨x, (mem_remE.1 (mem_remE.1 h1).1).1, rfl, rfl, rfl, rfl⟩
theorem DW.rem_file {w w' : World} {base d : Nat} {S : DS} {s : List UInt8} {e : FE} (h : DW w base d S) (hg : getE s S.E = some e) (ht : Turn [S.m] w w')
    {n : Nat} (hm : w'.ownsMap Try.prog 9 ptrR S.m n ((DL (enOf S.E)).del (.string s))) :
    DW w' base d { S with E := remE s S.E } ∧ ∀ i ∈ ({ S with E := remE s S.E } : DS).bl d, i ∈ S.bl d := by
  have hp := perm_rem h.nd hg
  have hm2 : w'.ownsMap Try.prog 9 ptrR S.m (remE s S.E).length (DL (enOf (remE s S.E))) := by
    rw [DL_del, ← remE_en] at hm
    have := owns_tight hm
    rwa [show (enOf (remE s S.E)).length = (remE s S.E).length by simp [enOf]] at this
  refine h.remap ⟨e.bl, ?_⟩ (fun x hx => ⟨x, (mem_remE.1 hx).1, rfl, rfl, rfl, rfl⟩) ?_ (by rw [hp.length_eq]; simp) ht hm2
  · have h2 := List.Perm.flatMap_right (f := FE.bl) hp
    refine List.Perm.trans ?_ h2.symm
    simpa using List.perm_append_comm
  · have h2 := (hp.map fun e => e.b.length).sum_nat
    unfold DS.used
    rw [h2]; simp
/-- Rename. -/
def RenR (S : DS) (old new : List UInt8) (code : Nat) (S' : DS) : Prop :=
  (mayE S [old, new] ≠ 0 ∧ code = mayE S [old, new] ∧ S' = S) ∨ (mayE S [old, new] = 0 ∧ getE old S.E = none ∧ code = 7 ∧ S' = S) ∨
    (mayE S [old, new] = 0 ∧ ∃ e, getE old S.E = some e ∧ code = 0 ∧ S' = burnS { S with E := renE old new e S.E })
def RemR (S : DS) (s : List UInt8) (code : Nat) (S' : DS) : Prop :=
  (mayE S [s] ≠ 0 ∧ code = mayE S [s] ∧ S' = S) ∨ (mayE S [s] = 0 ∧ getE s S.E = none ∧ code = 7 ∧ S' = S) ∨
    (mayE S [s] = 0 ∧ ∃ e, getE s S.E = some e ∧ code = 0 ∧ S' = burnS { S with E := remE s S.E })
set_option maxRecDepth 100000 in
set_option maxHeartbeats 3200000 in
theorem ren_bad (base d : Nat) (S : DS) (w : World) (h : DW w base d S) (old new : List UInt8) (ho : old.length ≤ 140737488351232) (hn : new.length ≤ 140737488351232) (e0 : Nat) (h0 : mayE S [old, new] = e0) (he0 : ((e0 : Int) != 0) = true) :
    Calls Try.prog 19 #[.pointer (some ⟨d, 0, none⟩), .string (str old), .string (str new)] w (RetD base d S (RenR S old new) w) := by
  generalize hW : w.alloc (.cells #[.string (str old), .string (str new)] 9) = W
  have hb0 : Below w.heap.size w W := by rw [← hW]; exact (Below.refl _ _).alloc (Nat.le_refl _) _
  have hW1 : DW W base d S := h.below hb0
  have hrd : Rd W W.heap.size 1 (some ⟨w.heap.size, 0, none⟩) 2 ([old, new].map sv) := by rw [← hW]; simpa [sv] using Rd.lit_new w ([old, new].map sv) 9
  have hmay := may_any base d S W hW1 (some ⟨w.heap.size, 0, none⟩) 2 2 [old, new] hrd (by omega) (by intro x hx; simp at hx; rcases hx with rfl | rfl <;> assumption)
  rw [h0] at hmay
  have HMAY := Lib.hid hmay
  have H1 := Lib.hid hW1
  have HB0 := Lib.hid hb0
  have hz : e0 ≠ 0 := by intro e; subst e; simp at he0
  have H0 := Lib.hid h0
  have HZ := Lib.hid hz
  clear h hW1 hmay hb0 h0 hrd hz
  go_enter Try.func19, Try.ntmps19
  go_wp2_with fail
  refine (unhide3 HMAY).mono ?_
  rintro en w1 ⟨rfl, rfl⟩
  go_wp2_with fail
  go_ret
  refine ⟨e0, S, rfl, .inl ⟨by rw [H0.out]; exact HZ.out, H0.out.symm, rfl⟩, H1.out, Turn.of_below HB0.out, fun i hi => .inl hi⟩
set_option maxRecDepth 100000 in
set_option maxHeartbeats 3200000 in
theorem ren_none (base d : Nat) (S : DS) (w : World) (h : DW w base d S) (old new : List UInt8) (ho : old.length ≤ 140737488351232) (hn : new.length ≤ 140737488351232) (h0 : mayE S [old, new] = 0) (he : getE old S.E = none) :
    Calls Try.prog 19 #[.pointer (some ⟨d, 0, none⟩), .string (str old), .string (str new)] w (RetD base d S (RenR S old new) w) := by
  generalize hW : w.alloc (.cells #[.string (str old), .string (str new)] 9) = W
  have hb0 : Below w.heap.size w W := by rw [← hW]; exact (Below.refl _ _).alloc (Nat.le_refl _) _
  have hW1 : DW W base d S := h.below hb0
  have hrd : Rd W W.heap.size 1 (some ⟨w.heap.size, 0, none⟩) 2 ([old, new].map sv) := by rw [← hW]; simpa [sv] using Rd.lit_new w ([old, new].map sv) 9
  have hmay := may_any base d S W hW1 (some ⟨w.heap.size, 0, none⟩) 2 2 [old, new] hrd (by omega) (by intro x hx; simp at hx; rcases hx with rfl | rfl <;> assumption)
  rw [h0] at hmay
  have HMAY := Lib.hid hmay
  have H1 := Lib.hid hW1
  have HB0 := Lib.hid hb0
  have hlook := look_run hW1 old (by assumption)
  rw [he] at hlook
  have hlk : (Instr.lookup 57 (.map (some S.m)) (.string (str old)) false).run Try.prog W = .ok (.pointer none) W := hlook
  have hcc := hW1.cell
  unfold dcells at hcc
  have c1 : W.cell? ⟨d, 1, none⟩ = some (.map (some S.m)) := hcc.cell 1
  have H0 := Lib.hid h0
  have HE := Lib.hid he
  clear h hW1 hcc hmay hlook hb0 h0 he hrd
  go_enter Try.func19, Try.ntmps19
  go_wp2_with fail
  refine (unhide3 HMAY).mono ?_
  rintro en w1 ⟨rfl, rfl⟩
  go_wp2_with fail
  go_ret
  refine ⟨7, S, rfl, .inr (.inl ⟨H0.out, HE.out, rfl, rfl⟩), H1.out, Turn.of_below HB0.out, fun i hi => .inl hi⟩
set_option maxRecDepth 100000 in
set_option maxHeartbeats 3200000 in
theorem ren_old (base d : Nat) (S : DS) (w : World) (h : DW w base d S) (old new : List UInt8) (ho : old.length ≤ 140737488351232) (hn : new.length ≤ 140737488351232) (h0 : mayE S [old, new] = 0) (e : FE) (he : getE old S.E = some e) :
    Calls Try.prog 19 #[.pointer (some ⟨d, 0, none⟩), .string (str old), .string (str new)] w (RetD base d S (RenR S old new) w) := by
  generalize hW : w.alloc (.cells #[.string (str old), .string (str new)] 9) = W
  have hb0 : Below w.heap.size w W := by rw [← hW]; exact (Below.refl _ _).alloc (Nat.le_refl _) _
  have hW1 : DW W base d S := h.below hb0
  have hrd : Rd W W.heap.size 1 (some ⟨w.heap.size, 0, none⟩) 2 ([old, new].map sv) := by rw [← hW]; simpa [sv] using Rd.lit_new w ([old, new].map sv) 9
  have hmay := may_any base d S W hW1 (some ⟨w.heap.size, 0, none⟩) 2 2 [old, new] hrd (by omega) (by intro x hx; simp at hx; rcases hx with rfl | rfl <;> assumption)
  rw [h0] at hmay
  have HMAY := Lib.hid hmay
  have H1 := Lib.hid hW1
  have HB0 := Lib.hid hb0
  have hlook := look_run hW1 old (by assumption)
  rw [he] at hlook
  have hlk : (Instr.lookup 57 (.map (some S.m)) (.string (str old)) false).run Try.prog W = .ok (.pointer (some ⟨e.g, 0, none⟩)) W := hlook
  have hcc := hW1.cell
  unfold dcells at hcc
  have c1 : W.cell? ⟨d, 1, none⟩ = some (.map (some S.m)) := hcc.cell 1
  have H0 := Lib.hid h0
  have HE := Lib.hid he
  have kold : keyOf Try.prog 9 (.string (str old)) = some (.string old) := key_str old ho
  have knew : keyOf Try.prog 9 (.string (str new)) = some (.string new) := key_str new hn
  obtain ⟨w1, hdel, hown1, hturn1⟩ := hW1.map.drop (Go.Maps.string_keyed Try.underlying9) Try.underlying57 kold 0
  have hg1 : W.grownBy w1 (some S.m) := hturn1.grown
  have hfew := hW1.few
  obtain ⟨w2, hupd, hown2, hg2⟩ := hown1.update (Go.Maps.string_keyed Try.underlying9) Try.underlying57 (by simp only [maxLen]; omega) knew (ptrR_mk (some e.g))
  have hupd2 : (Instr.mapUpdate 57 (.map (some S.m)) (.string (str new)) (.pointer (some ⟨e.g, 0, none⟩))).run Try.prog w1 = .ok () w2 := hupd
  have ht : Turn [S.m] W w2 := (Turn.of_grown hg1 (B := [S.m]) (fun i e => by injection e with e; exact .inl (by simp [e]))).trans (Turn.of_grown hg2 (B := [S.m]) (fun i e => by injection e with e; exact .inl (by simp [e]))) (fun i hi => .inl hi)
  have hdm : d ≠ S.m := by
    have h7 := hW1.nodup
    unfold DS.bl at h7
    rw [List.nodup_cons] at h7
    exact fun h8 => h7.1 (h8 ▸ List.mem_cons_self)
  have c2 : w1.cell? ⟨d, 1, none⟩ = some (.map (some S.m)) := (World.cell?_of_block (hg1.block d (hW1.ge d (bl_d d S)).2 (fun h8 => hdm (by injection h8)))).trans c1
  have HX := Lib.hid (hW1.ren_file he ht hown2)
  have HT := Lib.hid ht
  clear h hW1 hcc hmay hlook hb0 h0 he hrd hown1 hown2 hturn1 hg1 hg2 hupd ht kold knew hfew hdm
  go_enter Try.func19, Try.ntmps19
  go_wp2_with fail
  refine (unhide3 HMAY).mono ?_
  rintro en w9 ⟨rfl, rfl⟩
  have hbn := burns_any base d _ w2 HX.out.1 (may_zero H0.out)
  have HBN := Lib.hid hbn
  clear hbn
  go_wp2_with fail
  refine (unhide3 HBN).mono ?_
  rintro en w5 ⟨rfl, d5, t5⟩
  go_wp2_with fail
  go_ret
  refine ⟨0, _, rfl, .inr (.inr ⟨H0.out, e, HE.out, rfl, rfl⟩), d5, ?_, ?_⟩
  · have t1 : Turn (S.bl d) w w2 := (Turn.of_below HB0.out).trans HT.out (fun i hi => .inl (by simp at hi; subst hi; exact bl_m d S))
    exact t1.trans t5 (fun i hi => .inl (by simp at hi; subst hi; exact bl_d _ _))
  · intro i hi
    rw [burnS_bl] at hi
    exact .inl (HX.out.2 i hi)
set_option maxRecDepth 100000 in
set_option maxHeartbeats 3200000 in
theorem remo_bad (base d : Nat) (S : DS) (w : World) (h : DW w base d S) (s : List UInt8) (hs : s.length ≤ 140737488351232) (e0 : Nat) (h0 : mayE S [s] = e0) (he0 : ((e0 : Int) != 0) = true) :
    Calls Try.prog 18 #[.pointer (some ⟨d, 0, none⟩), .string (str s)] w (RetD base d S (RemR S s) w) := by
  generalize hW : w.alloc (.cells #[.string (str s)] 9) = W
  have hb0 : Below w.heap.size w W := by rw [← hW]; exact (Below.refl _ _).alloc (Nat.le_refl _) _
  have hW1 : DW W base d S := h.below hb0
  have hrd : Rd W W.heap.size 1 (some ⟨w.heap.size, 0, none⟩) 1 ([s].map sv) := by rw [← hW]; simpa [sv] using Rd.lit_new w ([s].map sv) 9
  have hmay := may_any base d S W hW1 (some ⟨w.heap.size, 0, none⟩) 1 1 [s] hrd (by omega) (by intro x hx; simp at hx; subst hx; exact hs)
  rw [h0] at hmay
  have HMAY := Lib.hid hmay
  have H1 := Lib.hid hW1
  have HB0 := Lib.hid hb0
  have hz : e0 ≠ 0 := by intro e; subst e; simp at he0
  have H0 := Lib.hid h0
  have HZ := Lib.hid hz
  clear h hW1 hmay hb0 h0 hrd hz
  go_enter Try.func18, Try.ntmps18
  go_wp2_with fail
  refine (unhide3 HMAY).mono ?_
  rintro en w1 ⟨rfl, rfl⟩
  go_wp2_with fail
  go_ret
  refine ⟨e0, S, rfl, .inl ⟨by rw [H0.out]; exact HZ.out, H0.out.symm, rfl⟩, H1.out, Turn.of_below HB0.out, fun i hi => .inl hi⟩
set_option maxRecDepth 100000 in
set_option maxHeartbeats 3200000 in
theorem remo_none (base d : Nat) (S : DS) (w : World) (h : DW w base d S) (s : List UInt8) (hs : s.length ≤ 140737488351232) (h0 : mayE S [s] = 0) (he : getE s S.E = none) :
    Calls Try.prog 18 #[.pointer (some ⟨d, 0, none⟩), .string (str s)] w (RetD base d S (RemR S s) w) := by
  generalize hW : w.alloc (.cells #[.string (str s)] 9) = W
  have hb0 : Below w.heap.size w W := by rw [← hW]; exact (Below.refl _ _).alloc (Nat.le_refl _) _
  have hW1 : DW W base d S := h.below hb0
  have hrd : Rd W W.heap.size 1 (some ⟨w.heap.size, 0, none⟩) 1 ([s].map sv) := by rw [← hW]; simpa [sv] using Rd.lit_new w ([s].map sv) 9
  have hmay := may_any base d S W hW1 (some ⟨w.heap.size, 0, none⟩) 1 1 [s] hrd (by omega) (by intro x hx; simp at hx; subst hx; exact hs)
  rw [h0] at hmay
  have HMAY := Lib.hid hmay
  have H1 := Lib.hid hW1
  have HB0 := Lib.hid hb0
  have hlook := look_run hW1 s (by assumption)
  rw [he] at hlook
  have hlk : (Instr.lookup 57 (.map (some S.m)) (.string (str s)) false).run Try.prog W = .ok (.pointer none) W := hlook
  have hcc := hW1.cell
  unfold dcells at hcc
  have c1 : W.cell? ⟨d, 1, none⟩ = some (.map (some S.m)) := hcc.cell 1
  have H0 := Lib.hid h0
  have HE := Lib.hid he
  clear h hW1 hcc hmay hlook hb0 h0 he hrd
  go_enter Try.func18, Try.ntmps18
  go_wp2_with fail
  refine (unhide3 HMAY).mono ?_
  rintro en w1 ⟨rfl, rfl⟩
  go_wp2_with fail
  go_ret
  refine ⟨7, S, rfl, .inr (.inl ⟨H0.out, HE.out, rfl, rfl⟩), H1.out, Turn.of_below HB0.out, fun i hi => .inl hi⟩
set_option maxRecDepth 100000 in
set_option maxHeartbeats 3200000 in
theorem remo_old (base d : Nat) (S : DS) (w : World) (h : DW w base d S) (s : List UInt8) (hs : s.length ≤ 140737488351232) (h0 : mayE S [s] = 0) (e : FE) (he : getE s S.E = some e) :
    Calls Try.prog 18 #[.pointer (some ⟨d, 0, none⟩), .string (str s)] w (RetD base d S (RemR S s) w) := by
  generalize hW : w.alloc (.cells #[.string (str s)] 9) = W
  have hb0 : Below w.heap.size w W := by rw [← hW]; exact (Below.refl _ _).alloc (Nat.le_refl _) _
  have hW1 : DW W base d S := h.below hb0
  have hrd : Rd W W.heap.size 1 (some ⟨w.heap.size, 0, none⟩) 1 ([s].map sv) := by rw [← hW]; simpa [sv] using Rd.lit_new w ([s].map sv) 9
  have hmay := may_any base d S W hW1 (some ⟨w.heap.size, 0, none⟩) 1 1 [s] hrd (by omega) (by intro x hx; simp at hx; subst hx; exact hs)
  rw [h0] at hmay
  have HMAY := Lib.hid hmay
  have H1 := Lib.hid hW1
  have HB0 := Lib.hid hb0
  have hlook := look_run hW1 s (by assumption)
  rw [he] at hlook
  have hlk : (Instr.lookup 57 (.map (some S.m)) (.string (str s)) false).run Try.prog W = .ok (.pointer (some ⟨e.g, 0, none⟩)) W := hlook
  have hcc := hW1.cell
  unfold dcells at hcc
  have c1 : W.cell? ⟨d, 1, none⟩ = some (.map (some S.m)) := hcc.cell 1
  have H0 := Lib.hid h0
  have HE := Lib.hid he
  obtain ⟨w1, hdel, hown1, hturn1⟩ := hW1.map.drop (Go.Maps.string_keyed Try.underlying9) Try.underlying57 (key_str s hs) 0
  have hg1 : W.grownBy w1 (some S.m) := hturn1.grown
  have ht : Turn [S.m] W w1 := Turn.of_grown hg1 (B := [S.m]) (fun i e => by injection e with e; exact .inl (by simp [e]))
  have HX := Lib.hid (hW1.rem_file he ht hown1)
  have HT := Lib.hid ht
  clear h hW1 hcc hmay hlook hb0 h0 he hrd hown1 hturn1 hg1 ht
  go_enter Try.func18, Try.ntmps18
  go_wp2_with fail
  refine (unhide3 HMAY).mono ?_
  rintro en w9 ⟨rfl, rfl⟩
  have hbn := burns_any base d _ w1 HX.out.1 (may_zero H0.out)
  have HBN := Lib.hid hbn
  clear hbn
  go_wp2_with fail
  refine (unhide3 HBN).mono ?_
  rintro en w5 ⟨rfl, d5, t5⟩
  go_wp2_with fail
  go_ret
  refine ⟨0, _, rfl, .inr (.inr ⟨H0.out, e, HE.out, rfl, rfl⟩), d5, ?_, ?_⟩
  · have t1 : Turn (S.bl d) w w1 := (Turn.of_below HB0.out).trans HT.out (fun i hi => .inl (by simp at hi; subst hi; exact bl_m d S))
    exact t1.trans t5 (fun i hi => .inl (by simp at hi; subst hi; exact bl_d _ _))
  · intro i hi
    rw [burnS_bl] at hi
    exact .inl (HX.out.2 i hi)
theorem rename_any (base d : Nat) (S : DS) (w : World) (h : DW w base d S) (old new : List UInt8) (ho : old.length ≤ 140737488351232) (hn : new.length ≤ 140737488351232) :
    Calls Try.prog 19 #[.pointer (some ⟨d, 0, none⟩), .string (str old), .string (str new)] w (RetD base d S (RenR S old new) w) := by
  rcases Nat.eq_zero_or_pos (mayE S [old, new]) with h0 | h0
  · rcases he : getE old S.E with _ | e
    · exact ren_none base d S w h old new ho hn h0 he
    · exact ren_old base d S w h old new ho hn h0 e he
  · exact ren_bad base d S w h old new ho hn _ rfl (by simp; omega)
theorem remove_any (base d : Nat) (S : DS) (w : World) (h : DW w base d S) (s : List UInt8) (hs : s.length ≤ 140737488351232) :
    Calls Try.prog 18 #[.pointer (some ⟨d, 0, none⟩), .string (str s)] w (RetD base d S (RemR S s) w) := by
  rcases Nat.eq_zero_or_pos (mayE S [s]) with h0 | h0
  · rcases he : getE s S.E with _ | e
    · exact remo_none base d S w h s hs h0 he
    · exact remo_old base d S w h s hs h0 e he
  · exact remo_bad base d S w h s hs _ rfl (by simp; omega)
end Go.Proofs.Ytcoimlenejffpaa
