/- disk: the two disks side by side: what each step makes of both. No program is walked. -/
import Derived.Test.YtcoimlenejffpaaRdiskJ
import Derived.Test.YtcoimlenejffpaaRdiskD
import Derived.Test.YtcoimlenejffpaaDiskL
import Derived.Test.YtcoimlenejffpaaDiskRoomA
import Derived.WideAt
import Derived.Sort.KeysCollected
namespace Go.Proofs.Ytcoimlenejffpaa
set_option linter.all false
open Go.RowKit
/-- A file as a plain thing: its name, its bytes, how many last. -/
abbrev Tr := List UInt8 × List UInt8 × Nat
def NdT (T : List Tr) : Prop := T.Pairwise fun p q => p.1 ≠ q.1
def SoT (T : List Tr) : Prop := T.Pairwise fun p q => bytesBefore p.1 q.1 = true
def lookT (s : List UInt8) (T : List Tr) : Option Tr := T.find? fun p => p.1 == s
def putT (s : List UInt8) (q : Tr) (T : List Tr) : List Tr := T.map fun p => if p.1 == s then q else p
def delT (s : List UInt8) (T : List Tr) : List Tr := T.filter fun p => !(p.1 == s)
def spotT (s : List UInt8) (T : List Tr) : Nat := (T.takeWhile fun p => bytesBefore p.1 s).length
theorem bb_ne {a b : List UInt8} (h : bytesBefore a b = true) : a ≠ b := fun e => by subst e; rw [WideAt.bytes_irrefl] at h; cases h
theorem SoT.nd {T : List Tr} (h : SoT T) : NdT T := List.Pairwise.imp (fun h => bb_ne h) h
theorem NdT.perm {T U : List Tr} (h : NdT T) (p : T.Perm U) : NdT U := p.pairwise h (fun h e => h e.symm)
theorem lookT_mem {s : List UInt8} {T : List Tr} {p : Tr} (h : lookT s T = some p) : p ∈ T ∧ p.1 = s := by
  unfold lookT at h
  exact ⟨List.mem_of_find?_eq_some h, by have := List.find?_some h; simpa using this⟩
theorem lookT_of {s : List UInt8} {T : List Tr} {p : Tr} (hn : NdT T) (hm : p ∈ T) (hs : p.1 = s) : lookT s T = some p := by
  induction T with
  | nil => cases hm
  | cons x r ih =>
    obtain ⟨h1, h2⟩ := List.pairwise_cons.1 hn
    unfold lookT
    rw [List.find?_cons]
    rcases List.mem_cons.1 hm with rfl | hm
    · simp [hs]
    · have : (x.1 == s) = false := by have := h1 p hm; rw [hs] at this; simpa using this
      rw [this]
      exact ih h2 hm
theorem lookT_none {s : List UInt8} {T : List Tr} : lookT s T = none ↔ ∀ p ∈ T, p.1 ≠ s := by
  unfold lookT
  rw [List.find?_eq_none]
  simp
theorem lookT_perm {s : List UInt8} {T U : List Tr} (hn : NdT T) (p : T.Perm U) : lookT s T = lookT s U := by
  rcases h : lookT s T with _ | q
  · symm
    rw [lookT_none] at h ⊢
    exact fun x hx => h x (p.mem_iff.2 hx)
  · obtain ⟨h1, h2⟩ := lookT_mem h
    exact (lookT_of (hn.perm p) (p.mem_iff.1 h1) h2).symm
theorem getE_look (s : List UInt8) (E : List FE) : lookT s (E.map absE) = (getE s E).map absE := by
  unfold lookT getE
  rw [List.find?_map]
  rfl
theorem spotI_T (s : List UInt8) (L : List RFE) : spotI s L = spotT s (L.map absF) := by
  unfold spotI spotT
  rw [List.takeWhile_map, List.length_map]
  rfl
/-- What stands in front of a name's place, and behind it. -/
theorem spot_lt {s : List UInt8} : ∀ {T : List Tr} {p : Tr}, p ∈ T.take (spotT s T) → bytesBefore p.1 s = true
  | [], p, h => by simp at h
  | x :: r, p, h => by
    unfold spotT at h
    rw [List.takeWhile_cons] at h
    split at h
    · rename_i hx
      rw [List.length_cons, List.take_succ_cons] at h
      rcases List.mem_cons.1 h with rfl | h
      · exact hx
      · exact spot_lt (T := r) h
    · simp at h
theorem spot_ge {s : List UInt8} : ∀ {T : List Tr} {p : Tr}, SoT T → p ∈ T.drop (spotT s T) → bytesBefore p.1 s = false
  | [], p, _, h => by simp at h
  | x :: r, p, hs, h => by
    obtain ⟨h1, h2⟩ := List.pairwise_cons.1 hs
    unfold spotT at h
    rw [List.takeWhile_cons] at h
    split at h
    · rw [List.length_cons, List.drop_succ_cons] at h
      exact spot_ge (T := r) h2 h
    · rename_i hx
      simp only [List.length_nil, List.drop_zero] at h
      rcases List.mem_cons.1 h with rfl | h
      · simpa using hx
      · rcases hb : bytesBefore p.1 s with _ | _
        · rfl
        · exact absurd (WideShapes.bytes_trans _ _ _ (h1 p h) hb) (by simpa using hx)
theorem take_drop_mem {T : List Tr} {k : Nat} {p : Tr} (h : p ∈ T) : p ∈ T.take k ∨ p ∈ T.drop k := by
  rw [← List.take_append_drop k T] at h
  exact List.mem_append.1 h
/-- A name that is there stands at its place. -/
theorem spot_is {s : List UInt8} {T : List Tr} {p : Tr} (hs : SoT T) (hm : p ∈ T) (hp : p.1 = s) : T[spotT s T]? = some p := by
  have hd : p ∈ T.drop (spotT s T) := by
    rcases take_drop_mem (k := spotT s T) hm with h | h
    · have := spot_lt h; rw [hp, WideAt.bytes_irrefl] at this; cases this
    · exact h
  rcases hx : T.drop (spotT s T) with _ | ⟨x, r⟩
  · rw [hx] at hd; cases hd
  · have hx0 : T[spotT s T]? = some x := by
      have : (T.drop (spotT s T))[0]? = some x := by rw [hx]; rfl
      rwa [List.getElem?_drop, Nat.add_zero] at this
    have hsd : SoT (x :: r) := by rw [← hx]; exact List.Pairwise.drop hs
    rw [hx] at hd
    rcases List.mem_cons.1 hd with rfl | hd
    · exact hx0
    · have h1 := (List.pairwise_cons.1 hsd).1 p hd
      have h2 := spot_ge hs (p := x) (by rw [hx]; exact List.mem_cons_self)
      rw [hp] at h1
      rw [h1] at h2; cases h2
/-- The look at a name, by its place. -/
theorem spot_look {s : List UInt8} {T : List Tr} (hs : SoT T) : lookT s T = match T[spotT s T]? with | some p => if p.1 == s then some p else none | none => none := by
  rcases h : lookT s T with _ | p
  · rw [lookT_none] at h
    split
    · rename_i p hp
      rw [if_neg]
      simpa using h p (List.mem_of_getElem? hp)
    · rfl
  · obtain ⟨h1, h2⟩ := lookT_mem h
    rw [spot_is hs h1 h2]
    simp [h2]
theorem spotB_look (s : List UInt8) {L : List RFE} (hs : SoT (L.map absF)) : spotB s L = (lookT s (L.map absF)).isSome := by
  rw [spot_look hs, ← spotI_T, List.getElem?_map]
  unfold spotB
  rcases L[spotI s L]? with _ | f
  · rfl
  · show (f.s == s) = _
    simp only [Option.map_some]
    show (f.s == s) = Option.isSome (if (f.s == s) = true then some (absF f) else none)
    rcases hb : (f.s == s) with _ | _ <;> simp
theorem spot_file {s : List UInt8} {L : List RFE} {i : Nat} {f : RFE} (hs : SoT (L.map absF)) (hb : spotB s L = true) (hi : spotI s L = i) (hf : L[i]? = some f) : lookT s (L.map absF) = some (absF f) ∧ f.s = s := by
  have hn : f.s = s := by
    unfold spotB at hb
    rw [hi, hf] at hb
    simpa using hb
  exact ⟨lookT_of hs.nd (List.mem_map.2 ⟨f, List.mem_of_getElem? hf, rfl⟩) hn, hn⟩
theorem putT_perm (s : List UInt8) (q : Tr) {T U : List Tr} (p : T.Perm U) : (putT s q T).Perm (putT s q U) := p.map _
theorem putT_so {s : List UInt8} {q : Tr} {T : List Tr} (hq : q.1 = s) (h : SoT T) : SoT (putT s q T) := by
  unfold SoT putT
  rw [List.pairwise_map]
  refine List.Pairwise.imp (fun {a b} hab => ?_) h
  have e : ∀ p : Tr, (if (p.1 == s) = true then q else p).1 = p.1 := fun p => by
    rcases hb : (p.1 == s) with _ | _
    · simp
    · simp only [if_true]; rw [hq]; exact (by simpa using hb : p.1 = s).symm
  rw [e, e]; exact hab
theorem set_putT {s : List UInt8} {i : Nat} {T : List Tr} {p q : Tr} (hn : NdT T) (hp : T[i]? = some p) (hs : p.1 = s) : T.set i q = putT s q T := by
  unfold putT
  apply List.ext_getElem?
  intro k
  rw [List.getElem?_map]
  rcases Nat.lt_trichotomy k i with h | h | h
  · rw [List.getElem?_set_ne (by omega)]
    have hk : k < T.length := by have := (List.getElem?_eq_some_iff.1 hp).1; omega
    have e1 := List.getElem?_eq_getElem (l := T) hk
    rw [e1]
    obtain ⟨hi, e⟩ := List.getElem?_eq_some_iff.1 hp
    have := List.pairwise_iff_getElem.1 hn k i hk hi h
    rw [e, hs] at this
    simp only [Option.map_some, Option.some.injEq]
    rw [if_neg (by simpa using this)]
  · subst h
    rw [List.getElem?_set_self' , hp]
    simp [hs]
  · rw [List.getElem?_set_ne (by omega)]
    rcases Nat.lt_or_ge k T.length with hk | hk
    · have e1 := List.getElem?_eq_getElem (l := T) hk
      rw [e1]
      obtain ⟨hi, e⟩ := List.getElem?_eq_some_iff.1 hp
      have := List.pairwise_iff_getElem.1 hn i k hi hk h
      rw [e, hs] at this
      simp only [Option.map_some, Option.some.injEq]
      rw [if_neg (by simpa using fun e' : (T[k]).1 = s => this e'.symm)]
    · rw [List.getElem?_eq_none hk]; rfl
theorem delT_perm (s : List UInt8) {T U : List Tr} (p : T.Perm U) : (delT s T).Perm (delT s U) := p.filter _
theorem delT_so (s : List UInt8) {T : List Tr} (h : SoT T) : SoT (delT s T) := List.Pairwise.filter _ h
theorem delT_none {s : List UInt8} {T : List Tr} (h : lookT s T = none) : delT s T = T := by
  rw [lookT_none] at h
  exact List.filter_eq_self.2 fun p hp => by simpa using h p hp
theorem cut_delT {s : List UInt8} : ∀ {T : List Tr} {i : Nat} {p : Tr}, NdT T → T[i]? = some p → p.1 = s → T.take i ++ T.drop (i + 1) = delT s T
  | [], i, p, _, h, _ => by simp at h
  | x :: r, 0, p, hn, h, hs => by
    obtain ⟨h1, h2⟩ := List.pairwise_cons.1 hn
    simp only [List.getElem?_cons_zero, Option.some.injEq] at h
    subst h
    unfold delT
    rw [List.filter_cons]
    simp only [hs, beq_self_eq_true, Bool.not_true, Bool.false_eq_true, if_false, List.take_zero, List.nil_append, Nat.zero_add, List.drop_succ_cons, List.drop_zero]
    exact (List.filter_eq_self.2 fun q hq => by have := h1 q hq; rw [hs] at this; simpa using this.symm).symm
  | x :: r, i + 1, p, hn, h, hs => by
    obtain ⟨h1, h2⟩ := List.pairwise_cons.1 hn
    simp only [List.getElem?_cons_succ] at h
    have ih := cut_delT h2 h hs
    have hx : (x.1 == s) = false := by have := h1 p (List.mem_of_getElem? h); rw [hs] at this; simpa using this
    unfold delT at ih ⊢
    rw [List.filter_cons, hx]
    simp only [Bool.not_false, if_true, List.take_succ_cons, List.drop_succ_cons, List.cons_append]
    rw [ih]
/-- A new name at its place. -/
theorem ins_so {s : List UInt8} {T : List Tr} {q : Tr} (hq : q.1 = s) (hs : SoT T) (hn : lookT s T = none) : SoT (T.take (spotT s T) ++ q :: T.drop (spotT s T)) := by
  have h0 := hs
  unfold SoT at *
  rw [List.pairwise_append]
  refine ⟨List.Pairwise.take hs, ?_, ?_⟩
  · rw [List.pairwise_cons]
    refine ⟨fun p hp => ?_, List.Pairwise.drop hs⟩
    have h1 := spot_ge h0 hp
    have h2 : p.1 ≠ s := lookT_none.1 hn p (List.drop_subset _ _ hp)
    rw [hq]
    rcases WideAt.bytes_total _ _ h2 with h3 | h3
    · rw [h3] at h1; cases h1
    · exact h3
  · intro a ha b hb
    have h1 := spot_lt ha
    rcases List.mem_cons.1 hb with rfl | hb
    · rw [hq]; exact h1
    · have h2 := spot_ge h0 hb
      have h3 : b.1 ≠ s := lookT_none.1 hn b (List.drop_subset _ _ hb)
      rcases WideAt.bytes_total _ _ h3 with h4 | h4
      · rw [h4] at h2; cases h2
      · exact WideShapes.bytes_trans _ _ _ h1 h4
theorem ins_perm (T : List Tr) (q : Tr) (i : Nat) : (T.take i ++ q :: T.drop i).Perm (q :: T) := by
  have := List.perm_middle (a := q) (l₁ := T.take i) (l₂ := T.drop i)
  rwa [List.take_append_drop] at this
theorem lookT_del (s : List UInt8) (T : List Tr) : lookT s (delT s T) = none := by
  rw [lookT_none]
  intro p hp
  have := (List.mem_filter.1 hp).2
  simpa using this
theorem del_cons {s : List UInt8} {T : List Tr} {p : Tr} (hn : NdT T) (h : lookT s T = some p) : (p :: delT s T).Perm T := by
  obtain ⟨hm, hs⟩ := lookT_mem h
  obtain ⟨i, hi⟩ := List.mem_iff_getElem?.1 hm
  rw [← cut_delT hn hi hs]
  have e : T = T.take i ++ p :: T.drop (i + 1) := by
    conv => lhs; rw [← List.take_append_drop i T]
    obtain ⟨h1, e⟩ := List.getElem?_eq_some_iff.1 hi
    rw [List.drop_eq_getElem_cons h1, e]
  conv => rhs; rw [e]
  exact (List.perm_middle).symm
/-- The program's disk and the document's. -/
structure Sim (S : DS) (X : RDS) : Prop where
  room : S.room = X.room
  left : X.left = if S.fused then (S.left : Int) else -1
  perm : (S.E.map absE).Perm (X.L.map absF)
  so : SoT (X.L.map absF)
theorem Sim.nd {S : DS} {X : RDS} (h : Sim S X) : NdT (S.E.map absE) := h.so.nd.perm h.perm.symm
theorem Sim.look {S : DS} {X : RDS} (h : Sim S X) (s : List UInt8) : (getE s S.E).map absE = lookT s (X.L.map absF) := by
  rw [← getE_look, lookT_perm h.nd h.perm]
theorem Sim.used {S : DS} {X : RDS} (h : Sim S X) : S.used = X.used := by
  have h1 := (h.perm.map fun p : Tr => p.2.1.length).sum_nat
  simp only [List.map_map] at h1
  exact h1
theorem Sim.len {S : DS} {X : RDS} (h : Sim S X) : S.E.length = X.L.length := by
  have := h.perm.length_eq
  simpa using this
theorem Sim.may {S : DS} {X : RDS} (h : Sim S X) (l : List (List UInt8)) : mayE S l = rmayE X.left l := by
  unfold mayE rmayE
  rw [h.left]
  rcases hf : S.fused with _ | _
  · simp
  · simp only [true_and, if_true]
    by_cases h0 : S.left = 0
    · simp [h0]
    · have h1 : ¬ ((S.left : Int) = 0) := by omega
      simp only [h0, h1, if_false]
theorem Sim.isNone {S : DS} {X : RDS} (h : Sim S X) (s : List UInt8) : getE s S.E = none ↔ spotB s X.L = false := by
  rw [spotB_look s h.so, ← h.look s]
  cases getE s S.E <;> simp
theorem Sim.agree {S : DS} {X : RDS} (h : Sim S X) {s : List UInt8} {e : FE} {i : Nat} {f : RFE} (he : getE s S.E = some e) (hi : spotI s X.L = i) (hf : X.L[i]? = some f) : absE e = absF f ∧ f.s = s := by
  have hb : spotB s X.L = true := by
    rcases hb : spotB s X.L with _ | _
    · rw [← h.isNone] at hb; rw [hb] at he; cases he
    · rfl
  obtain ⟨h1, h2⟩ := spot_file h.so hb hi hf
  have := h.look s
  rw [he, h1] at this
  exact ⟨by simpa using this, h2⟩
/-- Both have done one of the five. -/
theorem Sim.did {S S1 : DS} {X X1 : RDS} {l : List (List UInt8)} (h : Sim S X) (h0 : mayE S l = 0) (e1 : S1.fused = S.fused) (e2 : S1.left = S.left) (e3 : X1.left = X.left) (e4 : S1.room = S.room) (e5 : X1.room = X.room)
    (hp : (S1.E.map absE).Perm (X1.L.map absF)) (hs : SoT (X1.L.map absF)) : Sim (burnS S1) (didX X1) := by
  have hz := may_zero h0
  have hl := h.left
  refine ⟨?_, ?_, ?_, ?_⟩
  · rw [didX_room, e5, ← h.room, ← e4]; unfold burnS; split <;> rfl
  · unfold burnS didX
    rw [e3, hl, e1]
    rcases hf : S.fused with _ | _
    · simp [e1, hf, e3, hl]
    · have := hz hf
      simp only [if_true, e1, hf, e2]
      rw [if_pos (by omega)]
      simp only [e3, hl, hf, if_true]
      omega
  · rw [burnS_E, didX_L]; exact hp
  · rw [didX_L]; exact hs
theorem setE_abs {s : List UInt8} {e' : FE} (E : List FE) : (setE s (fun _ => e') E).map absE = putT s (absE e') (E.map absE) := by
  unfold setE putT
  rw [List.map_map, List.map_map]
  apply List.map_congr_left
  intro x _
  simp only [Function.comp]
  show absE (if (x.s == s) = true then e' else x) = if (x.s == s) = true then absE e' else absE x
  split <;> rfl
theorem insE_abs (x : FE) (E : List FE) : ((insE x E).map absE).Perm (absE x :: E.map absE) := (insE_perm x E).map absE
theorem remE_abs (s : List UInt8) (E : List FE) : (remE s E).map absE = delT s (E.map absE) := by
  unfold remE delT
  rw [List.filter_map]
  rfl
theorem set_abs {L : List RFE} {i : Nat} {f f' : RFE} {s : List UInt8} (hs : SoT (L.map absF)) (hf : L[i]? = some f) (h : f.s = s) : (L.set i f').map absF = putT s (absF f') (L.map absF) := by
  rw [List.map_set]
  exact set_putT hs.nd (by rw [List.getElem?_map, hf]; rfl) h
/-- One file is another one, in both. -/
theorem Sim.set {S : DS} {X : RDS} {l : List (List UInt8)} {s : List UInt8} {e e' : FE} {i : Nat} {f f' : RFE} (h : Sim S X) (h0 : mayE S l = 0) (he : getE s S.E = some e) (hi : spotI s X.L = i) (hf : X.L[i]? = some f)
    (hq : absE e' = absF f') (hn : f'.s = s) : Sim (burnS (setF S s e')) (didX { X with L := X.L.set i f' }) := by
  have hsm := h.agree he hi hf
  have e1 := set_abs (f' := f') h.so hf hsm.2
  refine h.did h0 rfl rfl rfl rfl rfl ?_ ?_
  · show ((setE s (fun _ => e') S.E).map absE).Perm ((X.L.set i f').map absF)
    rw [setE_abs, e1, hq]
    exact putT_perm s _ h.perm
  · show SoT ((X.L.set i f').map absF)
    rw [e1]
    exact putT_so hn h.so
theorem sim_sync {S S' : DS} {X X' : RDS} {s : List UInt8} {c c' : Nat} (h : Sim S X) (p : SyncR S s c S') (q : RSyncR X s c' X') : c = c' ∧ Sim S' X' := by
  have hm := h.may [s]
  rcases p with ⟨p1, p2, rfl⟩ | ⟨p1, p2, p3, rfl⟩ | ⟨p1, e, p2, p3, rfl⟩ <;> rcases q with ⟨q1, q2, rfl⟩ | ⟨q1, q2, q3, rfl⟩ | ⟨q1, q2, i, f, q3, q4, q5, rfl⟩
  · exact ⟨by rw [p2, q2, hm], h⟩
  · rw [hm] at p1; exact absurd q1 p1
  · rw [hm] at p1; exact absurd q1 p1
  · rw [hm] at p1; exact absurd p1 q1
  · exact ⟨by rw [p3, q3], h⟩
  · rw [h.isNone, q2] at p2; cases p2
  · rw [hm] at p1; exact absurd p1 q1
  · rw [← h.isNone, p2] at q2; cases q2
  · obtain ⟨k1, k2⟩ := h.agree p2 q3 q4
    refine ⟨by rw [p3, q5], ?_⟩
    have hs : e.s = s := (getE_mem p2).2
    have hb : e.b = f.b := congrArg (fun x : Tr => x.2.1) k1
    exact h.set p1 p2 q3 q4 (by show (e.s, e.b, e.b.length) = (f.s, f.b, f.b.length); rw [hs, k2, hb]) k2
theorem sim_trunc {S S' : DS} {X X' : RDS} {s : List UInt8} {m : Int} {c c' : Nat} (h : Sim S X) (p : TruncR S s m c S') (q : RTruncR X s m c' X') : c = c' ∧ Sim S' X' := by
  have hm := h.may [s]
  rcases p with ⟨p1, p2, rfl⟩ | ⟨p1, p2, p3, rfl⟩ | ⟨p1, e, p2, p3⟩ <;> rcases q with ⟨q1, q2, rfl⟩ | ⟨q1, q2, q3, rfl⟩ | ⟨q1, q2, i, f, q3, q4, q5⟩
  · exact ⟨by rw [p2, q2, hm], h⟩
  · rw [hm] at p1; exact absurd q1 p1
  · rw [hm] at p1; exact absurd q1 p1
  · rw [hm] at p1; exact absurd p1 q1
  · exact ⟨by rw [p3, q3], h⟩
  · rw [h.isNone, q2] at p2; cases p2
  · rw [hm] at p1; exact absurd p1 q1
  · rw [← h.isNone, p2] at q2; cases q2
  · obtain ⟨k1, k2⟩ := h.agree p2 q3 q4
    have hs : e.s = s := (getE_mem p2).2
    have hb : e.b = f.b := congrArg (fun x : Tr => x.2.1) k1
    have hl : e.l = f.l := congrArg (fun x : Tr => x.2.2) k1
    rw [hb] at p3
    rcases p3 with ⟨p3, p4, rfl⟩ | ⟨p3, p4, p5, rfl⟩ <;> rcases q5 with ⟨q5, q6, rfl⟩ | ⟨q5, q6, q7, A, c9, rfl⟩
    · exact ⟨by rw [p4, q6], h⟩
    · exact absurd p3 (by omega)
    · exact absurd q5 (by omega)
    · refine ⟨by rw [p5, q7], ?_⟩
      exact h.set p1 p2 q3 q4 (by show (e.s, e.b.take m.toNat, Nat.min e.l m.toNat) = (f.s, f.b.take m.toNat, Nat.min f.l m.toNat); rw [hs, k2, hb, hl]) k2
theorem sim_remove {S S' : DS} {X X' : RDS} {s : List UInt8} {c c' : Nat} (h : Sim S X) (p : RemR S s c S') (q : RRemR X s c' X') : c = c' ∧ Sim S' X' := by
  have hm := h.may [s]
  rcases p with ⟨p1, p2, rfl⟩ | ⟨p1, p2, p3, rfl⟩ | ⟨p1, e, p2, p3, rfl⟩ <;> rcases q with ⟨q1, q2, rfl⟩ | ⟨q1, q2, q3, rfl⟩ | ⟨q1, q2, q3, A, c9, rfl⟩
  · exact ⟨by rw [p2, q2, hm], h⟩
  · rw [hm] at p1; exact absurd q1 p1
  · rw [hm] at p1; exact absurd q1 p1
  · rw [hm] at p1; exact absurd p1 q1
  · exact ⟨by rw [p3, q3], h⟩
  · rw [h.isNone, q2] at p2; cases p2
  · rw [hm] at p1; exact absurd p1 q1
  · rw [← h.isNone, p2] at q2; cases q2
  · refine ⟨by rw [p3, q3], ?_⟩
    have h1 : lookT s (X.L.map absF) = some (absE e) := by rw [← h.look, p2]; rfl
    have h2 : (X.L.map absF)[spotI s X.L]? = some (absE e) := by
      obtain ⟨m1, m2⟩ := lookT_mem h1
      rw [spotI_T]; exact spot_is h.so m1 m2
    have e1 : (X.L.take (spotI s X.L) ++ X.L.drop (spotI s X.L + 1)).map absF = delT s (X.L.map absF) := by
      rw [List.map_append, List.map_take, List.map_drop]
      exact cut_delT h.so.nd h2 (lookT_mem h1).2
    refine h.did p1 rfl rfl rfl rfl rfl ?_ ?_
    · show ((remE s S.E).map absE).Perm ((X.L.take (spotI s X.L) ++ X.L.drop (spotI s X.L + 1)).map absF)
      rw [remE_abs, e1]
      exact delT_perm s h.perm
    · show SoT ((X.L.take (spotI s X.L) ++ X.L.drop (spotI s X.L + 1)).map absF)
      rw [e1]; exact delT_so s h.so
theorem del_abs {X X2 : RDS} {s : List UInt8} (hs : SoT (X.L.map absF)) (h : DelR X s X2) : X2.L.map absF = delT s (X.L.map absF) ∧ X2.left = X.left ∧ X2.room = X.room := by
  rcases h with ⟨h, rfl⟩ | ⟨h, A, c, rfl⟩
  · rw [spotB_look s hs] at h
    exact ⟨(delT_none (by simpa using h)).symm, rfl, rfl⟩
  · refine ⟨?_, rfl, rfl⟩
    rw [spotB_look s hs] at h
    obtain ⟨p, hp⟩ := Option.isSome_iff_exists.1 h
    obtain ⟨m1, m2⟩ := lookT_mem hp
    show (X.L.take (spotI s X.L) ++ X.L.drop (spotI s X.L + 1)).map absF = _
    rw [List.map_append, List.map_take, List.map_drop]
    exact cut_delT hs.nd (by rw [spotI_T]; exact spot_is hs m1 m2) m2
theorem sim_rename {S S' : DS} {X X' : RDS} {old new : List UInt8} {c c' : Nat} (h : Sim S X) (p : RenR S old new c S') (q : RRenR X old new c' X') : c = c' ∧ Sim S' X' := by
  have hm := h.may [old, new]
  rcases p with ⟨p1, p2, rfl⟩ | ⟨p1, p2, p3, rfl⟩ | ⟨p1, e, p2, p3, rfl⟩ <;> rcases q with ⟨q1, q2, rfl⟩ | ⟨q1, q2, q3, rfl⟩ | ⟨q1, q2, q3, q4⟩
  · exact ⟨by rw [p2, q2, hm], h⟩
  · rw [hm] at p1; exact absurd q1 p1
  · rw [hm] at p1; exact absurd q1 p1
  · rw [hm] at p1; exact absurd p1 q1
  · exact ⟨by rw [p3, q3], h⟩
  · rw [h.isNone, q2] at p2; cases p2
  · rw [hm] at p1; exact absurd p1 q1
  · rw [← h.isNone, p2] at q2; cases q2
  · refine ⟨by rw [p3, q3], ?_⟩
    have hs : e.s = old := (getE_mem p2).2
    have h1 : lookT old (S.E.map absE) = some (absE e) := by rw [getE_look, p2]; rfl
    have hE : ((renE old new e S.E).map absE).Perm (absE { e with s := new } :: delT new (delT old (S.E.map absE))) := by
      have := insE_abs { e with s := new } (remE new (remE old S.E))
      rwa [remE_abs, remE_abs] at this
    rcases q4 with ⟨q4, rfl⟩ | ⟨q4, f, X2, X3, A, c9, q5, q6, q7, rfl⟩
    · subst q4
      refine h.did p1 rfl rfl rfl rfl rfl ?_ h.so
      show ((renE old old e S.E).map absE).Perm (X.L.map absF)
      refine hE.trans (List.Perm.trans ?_ h.perm)
      have e2 : ({ e with s := old } : FE) = e := by cases e; simp_all
      rw [e2, delT_none (lookT_del old _)]
      exact del_cons h.nd h1
    · obtain ⟨k1, k2⟩ := h.agree p2 rfl q5
      obtain ⟨d1, d2, d3⟩ := del_abs h.so q6
      have so2 : SoT (X2.L.map absF) := by rw [d1]; exact delT_so _ h.so
      obtain ⟨d4, d5, d6⟩ := del_abs so2 q7
      have so3 : SoT (X3.L.map absF) := by rw [d4]; exact delT_so _ so2
      have hn3 : lookT new (X3.L.map absF) = none := by rw [d4]; exact lookT_del _ _
      have hb : e.b = f.b := congrArg (fun x : Tr => x.2.1) k1
      have hl : e.l = f.l := congrArg (fun x : Tr => x.2.2) k1
      have e3 : absE { e with s := new } = absF (renF2 f new) := by show (new, e.b, e.l) = (new, f.b, f.l); rw [hb, hl]
      have e4 : (X3.L.take (spotI new X3.L) ++ renF2 f new :: X3.L.drop (spotI new X3.L)).map absF = (X3.L.map absF).take (spotT new (X3.L.map absF)) ++ absF (renF2 f new) :: (X3.L.map absF).drop (spotT new (X3.L.map absF)) := by
        rw [List.map_append, List.map_take, List.map_cons, List.map_drop, spotI_T]
      refine h.did p1 rfl rfl (d5.trans d2) rfl (d6.trans d3) ?_ ?_
      · show ((renE old new e S.E).map absE).Perm ((X3.L.take (spotI new X3.L) ++ renF2 f new :: X3.L.drop (spotI new X3.L)).map absF)
        rw [e4, ← e3]
        refine hE.trans (List.Perm.trans ?_ (ins_perm _ _ _).symm)
        rw [d4, d1]
        exact (delT_perm _ (delT_perm _ h.perm)).cons _
      · show SoT ((X3.L.take (spotI new X3.L) ++ renF2 f new :: X3.L.drop (spotI new X3.L)).map absF)
        rw [e4]
        exact ins_so rfl so3 hn3
theorem sim_append {S S' : DS} {X X' : RDS} {s nb : List UInt8} {c c' : Nat} (h : Sim S X) (hfew : S.E.length < 4096) (p : AppR S s nb c S') (q : RAppR X s nb c' X') : c = c' ∧ Sim S' X' := by
  have hm := h.may [s]
  have hu := h.used
  have hro := h.room
  rcases p with ⟨p1, p2, rfl⟩ | ⟨p1, p2, p3, rfl⟩ | ⟨p1, p2, p3, p4⟩ <;> rcases q with ⟨q1, q2, rfl⟩ | ⟨q1, q2, q3, rfl⟩ | ⟨q1, q2, q3, q4⟩
  · exact ⟨by rw [p2, q2, hm], h⟩
  · rw [hm] at p1; exact absurd q1 p1
  · rw [hm] at p1; exact absurd q1 p1
  · rw [hm] at p1; exact absurd p1 q1
  · exact ⟨by rw [p3, q3], h⟩
  · rcases p2 with p2 | p2
    · omega
    · omega
  · rw [hm] at p1; exact absurd p1 q1
  · omega
  · refine ⟨by rw [p3, q3], ?_⟩
    rcases p4 with ⟨e, v', p4, rfl⟩ | ⟨p4, p5, g, v', rfl⟩ <;> rcases q4 with ⟨q4, i, f, q5, q6, A, c9, rfl⟩ | ⟨q4, A1, c1, A, c9, rfl⟩
    · obtain ⟨k1, k2⟩ := h.agree p4 q5 q6
      have hs : e.s = s := (getE_mem p4).2
      have hb : e.b = f.b := congrArg (fun x : Tr => x.2.1) k1
      have hl : e.l = f.l := congrArg (fun x : Tr => x.2.2) k1
      exact h.set p1 p4 q5 q6 (by show (e.s, e.b ++ nb, e.l) = (f.s, f.b ++ nb, f.l); rw [hs, k2, hb, hl]) k2
    · rw [← h.isNone, p4] at q4; cases q4
    · rw [h.isNone, q4] at p4; cases p4
    · have hn : lookT s (X.L.map absF) = none := by rw [← h.look, p4]; rfl
      have hle : spotI s X.L ≤ X.L.length := spot_le s X.L
      have e1 : ((insX X s (spotI s X.L) A1 c1).L.set (spotI s X.L) (appF (newF s) A c9 nb)).map absF = (X.L.map absF).take (spotT s (X.L.map absF)) ++ (s, nb, 0) :: (X.L.map absF).drop (spotT s (X.L.map absF)) := by
        unfold insX
        simp only
        rw [List.set_append_right _ _ (by rw [List.length_take]; omega), List.length_take, Nat.min_eq_left hle, Nat.sub_self, List.set_cons_zero, List.map_append, List.map_take, List.map_cons, List.map_drop, ← spotI_T]
        rfl
      refine h.did p1 rfl rfl rfl rfl rfl ?_ ?_
      · show ((setE s (fun _ => (⟨s, g, v', nb, 0⟩ : FE)) (insE ⟨s, g, .slice none 0 0, [], 0⟩ S.E)).map absE).Perm (((insX X s (spotI s X.L) A1 c1).L.set (spotI s X.L) (appF (newF s) A c9 nb)).map absF)
        rw [setE_abs, e1]
        refine List.Perm.trans ?_ (ins_perm _ _ _).symm
        refine (putT_perm s _ (insE_abs _ S.E)).trans ?_
        have hn2 : lookT s (S.E.map absE) = none := by rw [lookT_perm h.nd h.perm]; exact hn
        have e2 : putT s (s, nb, 0) ((absE ⟨s, g, .slice none 0 0, [], 0⟩) :: S.E.map absE) = (s, nb, 0) :: S.E.map absE := by
          unfold putT
          rw [List.map_cons]
          have : (S.E.map absE).map (fun p => if (p.1 == s) = true then ((s, nb, 0) : Tr) else p) = S.E.map absE := by
            conv => rhs; rw [← List.map_id (S.E.map absE)]
            apply List.map_congr_left
            intro x hx
            rw [if_neg (by simpa using lookT_none.1 hn2 x hx)]; rfl
          rw [this]
          simp [absE]
        exact (List.Perm.of_eq e2).trans (h.perm.cons _)
      · show SoT (((insX X s (spotI s X.L) A1 c1).L.set (spotI s X.L) (appF (newF s) A c9 nb)).map absF)
        rw [e1]
        exact ins_so rfl h.so hn
theorem sim_fuse {S : DS} {X : RDS} (h : Sim S X) (n : Int) : Sim (fuseS S n) { X with left := if -1 < n then n else -1 } := by
  refine ⟨h.room, ?_, h.perm, h.so⟩
  unfold fuseS
  simp only
  rcases Int.lt_or_le n 0 with hn | hn
  · rw [if_neg (by omega), decide_eq_false (by omega)]; rfl
  · rw [if_pos (by omega), decide_eq_true hn]; simp; omega
theorem cut_abs (k : Nat) (e : FE) : absE (cutE k e) = cutA k (absE e) := rfl
theorem sim_crash {S : DS} {X X' : RDS} (h : Sim S X) (n : Int) (h1 : X'.room = X.room) (h2 : X'.left = -1) (h3 : X'.L.map absF = (X.L.map absF).map (cutA n.toNat)) : Sim (crashS S n) X' := by
  refine ⟨h.room.trans h1.symm, h2, ?_, ?_⟩
  · rw [h3]
    show ((S.E.map (cutE n.toNat)).map absE).Perm _
    rw [List.map_map, show absE ∘ cutE n.toNat = cutA n.toNat ∘ absE from rfl, ← List.map_map]
    exact h.perm.map _
  · rw [h3]
    unfold SoT
    rw [List.pairwise_map]
    exact h.so
theorem sim_copy {S T : DS} {X Y : RDS} (h : Sim S X) (h1 : T.room = S.room) (h2 : T.fused = false) (h3 : (T.E.map absE).Perm (S.E.map absE)) (h4 : Y.room = X.room) (h5 : Y.left = -1) (h6 : Y.L.map absF = X.L.map absF) : Sim T Y :=
  ⟨by rw [h1, h4, h.room], by rw [h5, h2]; rfl, by rw [h6]; exact h3.trans h.perm, by rw [h6]; exact h.so⟩
theorem sim_new (room m : Nat) : Sim (newS room m) (rnewX room) := ⟨rfl, rfl, List.Perm.refl _, List.Pairwise.nil⟩
theorem sim_cont {S : DS} {X : RDS} (h : Sim S X) (s : List UInt8) : cont S s = contX X s ∧ (getE s S.E).isSome = spotB s X.L := by
  have hb := spotB_look s h.so
  have hl := h.look s
  refine ⟨?_, ?_⟩
  · unfold cont contX
    rcases he : getE s S.E with _ | e
    · rw [he] at hl
      rw [hb, ← hl]; rfl
    · rw [he] at hl
      rw [hb, ← hl]
      obtain ⟨m1, m2⟩ := lookT_mem hl.symm
      have h3 := spot_is h.so m1 m2
      rw [← spotI_T, List.getElem?_map] at h3
      simp only [Option.map_some, Option.isSome_some, if_true]
      rcases hx : X.L[spotI s X.L]? with _ | f
      · rw [hx] at h3; cases h3
      · rw [hx] at h3
        simp only [Option.map_some, Option.some.injEq] at h3
        exact (congrArg (fun x : Tr => x.2.1) h3).symm
  · rw [hb, ← hl]; cases getE s S.E <;> rfl
/-- Two lists, in order, of the same: one list. -/
theorem sorted_eq : ∀ {a b : List (List UInt8)}, (a.Pairwise fun x y => bytesBefore x y = true) → (b.Pairwise fun x y => bytesBefore x y = true) → a.Perm b → a = b
  | [], b, _, _, h => (List.Perm.nil_eq h)
  | x :: r, [], _, _, h => by have := h.length_eq; simp at this
  | x :: r, y :: t, h1, h2, h => by
    obtain ⟨k1, k2⟩ := List.pairwise_cons.1 h1
    obtain ⟨k3, k4⟩ := List.pairwise_cons.1 h2
    have e : x = y := by
      rcases List.mem_cons.1 (h.mem_iff.1 (List.mem_cons_self (a := x) (l := r))) with e | hx
      · exact e
      · rcases List.mem_cons.1 (h.mem_iff.2 (List.mem_cons_self (a := y) (l := t))) with e | hy
        · exact e.symm
        · have := WideShapes.bytes_trans _ _ _ (k1 y hy) (k3 x hx)
          rw [WideAt.bytes_irrefl] at this; cases this
    subst e
    rw [sorted_eq k2 k4 (List.Perm.cons_inv h)]
theorem bb_lt : ∀ {a b : List UInt8}, bytesBefore a b = true → a < b
  | [], [], h => by cases h
  | [], b :: s, _ => List.nil_lt_cons b s
  | a :: r, [], h => by cases h
  | a :: r, b :: s, h => by
    unfold bytesBefore at h
    rw [List.cons_lt_cons_iff]
    simp only [Bool.or_eq_true, decide_eq_true_eq, Bool.and_eq_true, beq_iff_eq] at h
    rcases h with h | ⟨h1, h2⟩
    · exact .inl h
    · exact .inr ⟨h1, bb_lt h2⟩
theorem sort_names {ss : List (List UInt8)} {T : List Tr} (hs : SoT T) (h : ss.Perm (T.map (·.1))) : ss.mergeSort (fun x y => decide (x ≤ y)) = T.map (·.1) := by
  have hp : (ss.mergeSort (fun x y => decide (x ≤ y))).Perm (T.map (·.1)) := (List.mergeSort_perm ss _).trans h
  have hT : (T.map (·.1)).Pairwise fun x y => bytesBefore x y = true := by rw [List.pairwise_map]; exact hs
  have hnd : (ss.mergeSort (fun x y => decide (x ≤ y))).Pairwise (· ≠ ·) := hp.symm.pairwise (List.Pairwise.imp (fun h => bb_ne h) hT) (fun h e => h e.symm)
  refine sorted_eq ?_ hT hp
  have hso := List.pairwise_mergeSort (le := fun x y : List UInt8 => decide (x ≤ y)) (fun a b c h1 h2 => by simpa using List.le_trans (by simpa using h1) (by simpa using h2)) (fun a b => by simpa using List.le_total a b) ss
  refine (hso.and hnd).imp ?_
  intro a b h
  rcases WideAt.bytes_total a b h.2 with h3 | h3
  · exact h3
  · have h4 : a ≤ b := by simpa using h.1
    exact absurd (bb_lt h3) (by simpa using h4)
theorem keys_abs (E : List FE) : Go.strKeys (DL (enOf E)) = (E.map absE).map (·.1) := by
  unfold DL enOf Go.strKeys
  simp [List.map_map, Function.comp_def, enL, enE, absE]
  intro a _
  rfl
theorem sim_names {S : DS} {X : RDS} (h : Sim S X) {ss : List (List UInt8)} (hp : ss.Perm (Go.strKeys (DL (enOf S.E)))) : ss.mergeSort (fun x y => decide (x ≤ y)) = X.L.map (·.s) := by
  rw [keys_abs] at hp
  rw [sort_names h.so (hp.trans (h.perm.map _)), List.map_map]
  rfl
theorem rtrunc_any (base r : Nat) (X : RDS) (w : World) (h : RW w base r X) (s : List UInt8) (hs : s.length ≤ 140737488351232) (m : Int) (m1 : -9223372036854775808 ≤ m) (m2 : m ≤ 9223372036854775807) :
    Calls Try.prog 40 #[.pointer (some ⟨r, 0, none⟩), .string (str s), .int .i64 m] w (RetX base r X (RTruncR X s m) w) := by
  rcases Nat.eq_zero_or_pos (rmayE X.left [s]) with h0 | h0
  · rcases he : spotB s X.L with _ | _
    · exact rtrunc_none base r X w h s hs m m1 m2 h0 he
    · obtain ⟨f, hf⟩ : ∃ f, X.L[spotI s X.L]? = some f := by
        have h9 := he
        unfold spotB at h9
        split at h9
        · exact ⟨_, by assumption⟩
        · cases h9
      rcases Int.lt_or_le m 0 with hm | hm
      · exact rtrunc_neg base r X w h s hs m m1 m2 h0 he hm
      · rcases Int.lt_or_le (f.b.length : Int) m with hb | hb
        · exact rtrunc_big base r X w h s hs m m1 m2 h0 he hm (fun i f' h1 h2 => by subst h2; rw [hf] at h1; injection h1 with h1; subst h1; exact hb)
        · exact rtrunc_old base r X w h s hs m m1 m2 h0 he m.toNat (by omega) (fun i f' h1 h2 => by subst h2; rw [hf] at h1; injection h1 with h1; subst h1; omega)
  · exact rtrunc_bad base r X w h s hs m m1 m2 _ rfl (by simp; omega)
end Go.Proofs.Ytcoimlenejffpaa
