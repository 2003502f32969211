/- disk: what is read of a name; what Append makes of it. -/
import Derived.Test.YtcoimlenejffpaaDiskKeepsW
namespace Go.Proofs.Ytcoimlenejffpaa
set_option linter.all false
open Go.RowKit
/-- A name's bytes: none, where there is no such file. -/
def cont (S : DS) (nm : List UInt8) : List UInt8 := match getE nm S.E with | some e => e.b | none => []
def RetReadG (b : List UInt8) (w : World) (en : Ending) (w' : World) : Prop :=
  ∃ A c code, en = .returned (.tuple #[.slice A b.length c, .int .i64 code]) ∧ Row w' (.slice A b.length c) b ∧ (∀ i, (Value.slice A b.length c).ownBlock = some i → w.heap.size ≤ i) ∧ Below w.heap.size w w' ∧ b.length ≤ c ∧ c ≤ 9223372036854775807
theorem read_any (base d : Nat) (S : DS) (w : World) (h : DW w base d S) (s : List UInt8) (hs : s.length ≤ 140737488351232) :
    Calls Try.prog 14 #[.pointer (some ⟨d, 0, none⟩), .string (str s)] w (RetReadG (cont S s) w) := by
  rcases he : getE s S.E with _ | e
  · refine (read_none base d S w h s hs he).mono ?_
    rintro en w' ⟨rfl, rfl⟩
    unfold cont
    rw [he]
    exact ⟨none, 0, 7, rfl, Row.nil _, fun i hi => by simp [Value.ownBlock] at hi, Below.refl _ _, by simp, by omega⟩
  · refine (read_some base d S w h s hs e he).mono ?_
    rintro en w' ⟨A, c, rfl, o, b, h1, h2⟩
    unfold cont
    rw [he]
    refine ⟨A, c, 0, rfl, row_of_own o, fun i hi => (o.lt i hi).1, b, h1, h2⟩
theorem Own.of_read {w w' : World} {base d : Nat} {S : DS} {v : Value} {b : List UInt8} (h : DW w base d S) (hr : Row w' v b) (ho : ∀ i, v.ownBlock = some i → w.heap.size ≤ i) : Own w' base d S v b :=
  ⟨hr, fun i hi => ⟨Nat.le_trans h.base_le (ho i hi), fun h9 => by have := (h.ge i h9).2; have := ho i hi; omega⟩⟩
theorem getE_setE_self {s : List UInt8} {f : FE → FE} (hf : ∀ e, (f e).s = e.s) (E : List FE) : getE s (setE s f E) = (getE s E).map f := by
  induction E with
  | nil => rfl
  | cons x r ih =>
    unfold getE setE at *
    rw [List.map_cons, List.find?_cons, List.find?_cons]
    rcases hx : (x.s == s) with _ | _
    · simp only [Bool.false_eq_true, if_false, hx]; exact ih
    · simp only [if_true, hf, hx]; rfl
theorem getE_ins {x : FE} : ∀ {E : List FE}, getE x.s E = none → getE x.s (insE x E) = some x
  | [], _ => by simp [getE, insE]
  | y :: r, h => by
    unfold getE at h
    rw [List.find?_cons] at h
    rcases hy : (y.s == x.s) with _ | _
    · rw [hy] at h
      simp only [insE]
      split
      · simp [getE]
      · unfold getE
        rw [List.find?_cons, hy]
        exact getE_ins h
    · rw [hy] at h; cases h
theorem used_burn (S : DS) : (burnS S).used = S.used := by unfold DS.used; rw [burnS_E]
theorem set_used {S : DS} {s : List UInt8} {e e' : FE} (hn : Nd1 (enOf S.E)) (h : getE s S.E = some e) : (setF S s e').used + e.b.length = S.used + e'.b.length := by
  obtain ⟨E1, E2, e1, e2⟩ := split_at hn h
  unfold DS.used
  rw [show (setF S s e').E = E1 ++ e' :: E2 from e2 fun _ => e', e1]
  simp; omega
theorem app_fit {w : World} {base d : Nat} {S S' : DS} {nm nb : List UInt8} {code : Nat} (hd : DW w base d S) (h : AppR S nm nb code S') (hm : mayE S [nm] = 0) (hfit : S.used + nb.length ≤ S.room) (hfew : S.E.length < 4096) :
    code = 0 ∧ cont S' nm = cont S nm ++ nb ∧ S'.used = S.used + nb.length ∧ S'.fused = S.fused ∧ S'.room = S.room ∧ S'.E.length ≤ S.E.length + 1 := by
  rcases h with h | h | ⟨_, _, h0, h⟩
  · exact absurd hm h.1
  · rcases h.2.1 with h1 | h1 <;> omega
  · refine ⟨h0, ?_⟩
    rcases h with ⟨e, v', he, rfl⟩ | ⟨he, _, g, v', rfl⟩
    · refine ⟨?_, ?_, by rw [burnS_fused]; rfl, by rw [burnS_room]; rfl, ?_⟩
      · unfold cont
        rw [burnS_E, he]
        have hes := (getE_mem he).2
        have hsp : getE nm (setF S nm ⟨e.s, e.g, v', e.b ++ nb, e.l⟩).E = some ⟨e.s, e.g, v', e.b ++ nb, e.l⟩ := by
          obtain ⟨E1, E2, e1, e2⟩ := split_at hd.nd he
          have hnd : Nd1 (enOf (setF S nm ⟨e.s, e.g, v', e.b ++ nb, e.l⟩).E) := by
            have : enOf (setF S nm ⟨e.s, e.g, v', e.b ++ nb, e.l⟩).E = enOf S.E := by
              rw [show (setF S nm ⟨e.s, e.g, v', e.b ++ nb, e.l⟩).E = E1 ++ ⟨e.s, e.g, v', e.b ++ nb, e.l⟩ :: E2 from e2 fun _ => _, e1]
              simp [enOf, enE]
            rw [this]; exact hd.nd
          have := getE_of_mem hnd (e := ⟨e.s, e.g, v', e.b ++ nb, e.l⟩) (by
            rw [show (setF S nm ⟨e.s, e.g, v', e.b ++ nb, e.l⟩).E = E1 ++ ⟨e.s, e.g, v', e.b ++ nb, e.l⟩ :: E2 from e2 fun _ => _]; simp)
          simp only [hes] at this ⊢
          exact this
        rw [hsp]
      · rw [used_burn]
        have := set_used (e' := ⟨e.s, e.g, v', e.b ++ nb, e.l⟩) hd.nd he
        simp at this
        omega
      · rw [burnS_E]; show (setE _ _ S.E).length ≤ _; rw [setE_len]; omega
    · have hg1 : getE nm (insF S ⟨nm, g, .slice none 0 0, [], 0⟩).E = some ⟨nm, g, .slice none 0 0, [], 0⟩ := getE_ins (x := ⟨nm, g, .slice none 0 0, [], 0⟩) he
      refine ⟨?_, ?_, by rw [burnS_fused]; rfl, by rw [burnS_room]; rfl, ?_⟩
      · unfold cont
        rw [burnS_E, he]
        have : getE nm (setF (insF S ⟨nm, g, .slice none 0 0, [], 0⟩) nm ⟨nm, g, v', nb, 0⟩).E = some ⟨nm, g, v', nb, 0⟩ := by
          have hp : ∀ E : List FE, getE nm E = some ⟨nm, g, .slice none 0 0, [], 0⟩ → getE nm (setE nm (fun _ => ⟨nm, g, v', nb, 0⟩) E) = some ⟨nm, g, v', nb, 0⟩ := by
            intro E
            induction E with
            | nil => intro h; cases h
            | cons x r ih =>
              intro h
              unfold getE setE at *
              rw [List.find?_cons] at h
              rw [List.map_cons, List.find?_cons]
              rcases hx : (x.s == nm) with _ | _
              · rw [hx] at h
                simp only [Bool.false_eq_true, if_false, hx]; exact ih h
              · simp
          exact hp _ hg1
        rw [this]; rfl
      · rw [used_burn]
        have hu : ∀ E : List FE, getE nm E = some ⟨nm, g, .slice none 0 0, [], 0⟩ → Nd1 (enOf E) → ((setE nm (fun _ => ⟨nm, g, v', nb, 0⟩) E).map fun e => e.b.length).sum = (E.map fun e => e.b.length).sum + nb.length := by
          intro E h hn
          have := used_setE (f := fun _ => ⟨nm, g, v', nb, 0⟩) hn h
          simpa using this
        have hnd : Nd1 (enOf (insF S ⟨nm, g, .slice none 0 0, [], 0⟩).E) := by
          unfold insF
          rw [insE_en]
          have h1 := hd.nd
          have h2 := getL_getE nm S.E
          rw [he] at h2
          have h3 := getL_none (L := enOf S.E) h2
          unfold Nd1 at h1 ⊢
          have hperm : (insL (enE ⟨nm, g, .slice none 0 0, [], 0⟩) (enOf S.E)).Perm (enE ⟨nm, g, .slice none 0 0, [], 0⟩ :: enOf S.E) := by
            rw [← insE_en]
            exact (insE_perm _ _).map enE
          rw [hperm.pairwise_iff (fun h => fun e => h e.symm)]
          exact List.pairwise_cons.2 ⟨fun p hp e => h3 p hp e.symm, h1⟩
        have := hu _ hg1 hnd
        have h4 := used_ins S ⟨nm, g, .slice none 0 0, [], 0⟩
        unfold DS.used setF
        simp only
        rw [this]
        have h5 : ((insF S ⟨nm, g, .slice none 0 0, [], 0⟩).E.map fun e => e.b.length).sum = S.used := h4
        rw [h5]
        rfl
      · rw [burnS_E]; show (setE _ _ _).length ≤ _; rw [setE_len]; show (insE _ _).length ≤ _; rw [(insE_perm _ _).length_eq]; simp
theorem app_full {S S' : DS} {nm nb : List UInt8} {code : Nat} (h : AppR S nm nb code S') (hm : mayE S [nm] = 0) (hfit : S.room < S.used + nb.length) : code = 6 ∧ S' = S := by
  rcases h with h | h | h
  · exact absurd hm h.1
  · exact h.2.2
  · omega
end Go.Proofs.Ytcoimlenejffpaa
