/- Maps from texts to pointers: how such a map reads (a pointer reads as its block's number); the list that it is. No program in sight. -/
import Derived.Test.YtcoimlenejffpaaBlk
import Derived.Maps.RangeWalk
import Derived.Maps.OwnSet
namespace Go.Proofs.Ytcoimlenejffpaa
set_option linter.all false
open Go.RowKit
/-- A pointer reads as its block's number. -/
def ptrR (v : Value) : Option (DataW Unit × List MemPlace) :=
  match v with
  | .pointer none => some (.nil, [])
  | .pointer (some ⟨g, 0, none⟩) => some (.lit (.int .u64 (g : Int)), [])
  | _ => none
/-- A pointer to a block, or none. -/
def mkP : Option Nat → Value
  | none => .pointer none
  | some g => .pointer (some ⟨g, 0, none⟩)
def mkD : Option Nat → DataW Unit
  | none => .nil
  | some g => .lit (.int .u64 (g : Int))
theorem ptrR_mk (c : Option Nat) : ptrR (mkP c) = some (mkD c, []) := by cases c <;> rfl
theorem ptrR_inv {v : Value} {y : DataW Unit × List MemPlace} (h : ptrR v = some y) : ∃ c, v = mkP c ∧ y = (mkD c, []) := by
  unfold ptrR at h
  split at h
  · exact ⟨none, rfl, by injection h with h; exact h.symm⟩
  · rename_i g; exact ⟨some g, rfl, by injection h with h; exact h.symm⟩
  · cases h
theorem mkD_inj {c d : Option Nat} (h : mkD c = mkD d) : c = d := by
  cases c <;> cases d <;> simp [mkD] at h ⊢
  omega
abbrev En := List (List UInt8 × Nat)
def enL (p : List UInt8 × Nat) : Lit × DataW Unit := (.string p.1, .lit (.int .u64 (p.2 : Int)))
def DL (L : En) : DataW Unit := .map (L.map enL)
def insL (x : List UInt8 × Nat) : En → En
  | [] => [x]
  | y :: r => if bytesBefore x.1 y.1 then x :: y :: r else y :: insL x r
def delL (s : List UInt8) (L : En) : En := L.filter fun p => !(p.1 == s)
def putL (s : List UInt8) (g : Nat) (L : En) : En := insL (s, g) (delL s L)
def getL (s : List UInt8) (L : En) : Option Nat := (L.find? fun p => p.1 == s).map (·.2)
theorem filt_en (s : List UInt8) (L : En) : (L.map enL).filter (fun p => !p.1.sameKey (.string s)) = (delL s L).map enL := by
  unfold delL
  rw [List.filter_map]
  rfl
theorem ins_en (x : List UInt8 × Nat) : ∀ L : En, DataW.insert (enL x) (L.map enL) = (insL x L).map enL
  | [] => rfl
  | y :: r => by
    simp only [List.map_cons, DataW.insert, insL]
    rw [show (enL x).1.before (enL y).1 = bytesBefore x.1 y.1 from rfl]
    split
    · rfl
    · rw [ins_en x r]; rfl
theorem DL_put (s : List UInt8) (g : Nat) (L : En) : (DL L).put (.string s) (mkD (some g)) = DL (putL s g L) := by
  unfold DL DataW.put putL
  simp only
  rw [filt_en]
  exact congrArg DataW.map (ins_en (s, g) (delL s L))
theorem DL_del (s : List UInt8) (L : En) : (DL L).del (.string s) = DL (delL s L) := by
  unfold DL DataW.del
  simp only
  rw [filt_en]
theorem DL_at (s : List UInt8) (L : En) : (DL L).atKey (.string s) .nil = mkD (getL s L) := by
  unfold DL DataW.atKey getL
  simp only [List.find?_map]
  have e : (fun p : Lit × DataW Unit => p.1.sameKey (.string s)) ∘ enL = fun p => p.1 == s := rfl
  rw [e]
  cases L.find? fun p => p.1 == s <;> rfl
theorem DL_size (L : En) : Maps.size (DL L) = L.length := by simp [DL, Maps.size]
theorem DL_has (s : List UInt8) (L : En) : Maps.has (DL L) (.string s) = L.any fun p => p.1 == s := by
  show (L.map enL).any (fun p => p.1.sameKey (.string s)) = _
  rw [List.any_map]; rfl
/-- No name stands twice. -/
def Nd1 (L : En) : Prop := L.Pairwise fun p q => p.1 ≠ q.1
theorem nd_of {P : Program} {k : TypeId} {w : World} {b n : Nat} {L : En} (h : w.ownsMap P k ptrR b n (DL L)) (K : Go.Maps.Keyed P k) : Nd1 L := by
  obtain ⟨es, e, hp, _⟩ := h.entries K
  have e' : L.map enL = es := by unfold DL at e; injection e
  subst e'
  unfold Nd1
  rw [List.pairwise_map] at hp
  exact hp.imp fun h e => h (by unfold enL; simp [e])
theorem getL_mem {s : List UInt8} {g : Nat} {L : En} (h : getL s L = some g) : (s, g) ∈ L := by
  unfold getL at h
  rw [Option.map_eq_some_iff] at h
  obtain ⟨p, h1, h2⟩ := h
  have := List.find?_some h1
  have hm := List.mem_of_find?_eq_some h1
  obtain ⟨a, b⟩ := p
  simp at this h2
  subst this; subst h2; exact hm
theorem getL_of_mem {s : List UInt8} {g : Nat} : ∀ {L : En}, Nd1 L → (s, g) ∈ L → getL s L = some g
  | [], _, h => by simp at h
  | p :: r, hn, h => by
    obtain ⟨h1, h2⟩ := List.pairwise_cons.1 hn
    unfold getL
    rw [List.find?_cons]
    rcases List.mem_cons.1 h with e | hm
    · subst e; simp
    · have hne : p.1 ≠ s := h1 _ hm
      have : (p.1 == s) = false := by simpa using hne
      rw [this]
      exact getL_of_mem h2 hm
theorem getL_none {s : List UInt8} {L : En} (h : getL s L = none) : ∀ p ∈ L, p.1 ≠ s := by
  unfold getL at h
  simp only [Option.map_eq_none_iff, List.find?_eq_none] at h
  intro p hp e
  exact h p hp (by simp [e])
theorem mem_insL {x y : List UInt8 × Nat} : ∀ {L : En}, y ∈ insL x L ↔ y = x ∨ y ∈ L
  | [] => by simp [insL]
  | z :: r => by
    simp only [insL]
    split
    · simp
    · simp only [List.mem_cons, mem_insL (L := r)]
      constructor
      · rintro (h | h | h)
        · exact .inr (.inl h)
        · exact .inl h
        · exact .inr (.inr h)
      · rintro (h | h | h)
        · exact .inr (.inl h)
        · exact .inl h
        · exact .inr (.inr h)
theorem mem_delL {s : List UInt8} {y : List UInt8 × Nat} {L : En} : y ∈ delL s L ↔ y ∈ L ∧ y.1 ≠ s := by simp [delL]
theorem mem_putL {s : List UInt8} {g : Nat} {y : List UInt8 × Nat} {L : En} : y ∈ putL s g L ↔ y = (s, g) ∨ (y ∈ L ∧ y.1 ≠ s) := by
  unfold putL; rw [mem_insL, mem_delL]
theorem len_insL (x : List UInt8 × Nat) : ∀ L : En, (insL x L).length = L.length + 1
  | [] => rfl
  | z :: r => by
    simp only [insL]
    split
    · rfl
    · simp [len_insL x r]
theorem delL_none {s : List UInt8} {L : En} (h : getL s L = none) : delL s L = L := by
  unfold delL
  rw [List.filter_eq_self]
  intro p hp
  have := getL_none h p hp
  simpa using this
/-- A sum over the entries. -/
def sumL (f : List UInt8 × Nat → Nat) : En → Nat
  | [] => 0
  | p :: r => f p + sumL f r
theorem sumL_ins (f : List UInt8 × Nat → Nat) (x : List UInt8 × Nat) : ∀ L : En, sumL f (insL x L) = f x + sumL f L
  | [] => rfl
  | z :: r => by
    simp only [insL]
    split
    · rfl
    · simp only [sumL, sumL_ins f x r]; omega
theorem sumL_del (f : List UInt8 × Nat → Nat) {s : List UInt8} {g : Nat} : ∀ {L : En}, Nd1 L → (s, g) ∈ L → sumL f L = f (s, g) + sumL f (delL s L)
  | [], _, h => by simp at h
  | p :: r, hn, h => by
    obtain ⟨h1, h2⟩ := List.pairwise_cons.1 hn
    rcases List.mem_cons.1 h with e | hm
    · subst e
      have : delL s ((s, g) :: r) = r := by
        unfold delL
        rw [List.filter_cons_of_neg (by simp), List.filter_eq_self]
        intro q hq
        have := h1 q hq
        simp
        exact fun e => this e.symm
      rw [this]; rfl
    · have hne : p.1 ≠ s := h1 _ hm
      have : delL s (p :: r) = p :: delL s r := by unfold delL; rw [List.filter_cons_of_pos (by simpa using hne)]
      rw [this]
      simp only [sumL, sumL_del f h2 hm]; omega
theorem sumL_congr {f h : List UInt8 × Nat → Nat} : ∀ {L : En}, (∀ p ∈ L, f p = h p) → sumL f L = sumL h L
  | [], _ => rfl
  | p :: r, hh => by
    simp only [sumL]
    rw [hh p (by simp), sumL_congr fun q hq => hh q (by simp [hq])]
/-- What is done of a sum, where 'left' says who is still to come. -/
def doneL (left : Lit → Bool) (f : List UInt8 × Nat → Nat) (L : En) : Nat := sumL (fun p => if left (.string p.1) then 0 else f p) L
theorem doneL_all (f : List UInt8 × Nat → Nat) (left : Lit → Bool) (L : En) (h : ∀ kl, left kl = false) : doneL left f L = sumL f L :=
  sumL_congr fun p _ => by simp [h]
theorem doneL_none (f : List UInt8 × Nat → Nat) (L : En) : doneL (Maps.has (DL L)) f L = 0 := by
  have : ∀ M : En, (∀ p ∈ M, Maps.has (DL L) (.string p.1) = true) → sumL (fun p => if Maps.has (DL L) (.string p.1) then 0 else f p) M = 0 := by
    intro M
    induction M with
    | nil => intro _; rfl
    | cons p r ih =>
      intro h
      simp only [sumL]
      rw [if_pos (h p (by simp)), ih fun q hq => h q (by simp [hq])]
  exact this L fun p hp => by rw [DL_has]; exact List.any_eq_true.2 ⟨p, hp, by simp⟩
theorem doneL_step (f : List UInt8 × Nat → Nat) {left : Lit → Bool} {s : List UInt8} {g : Nat} : ∀ {L : En}, Nd1 L → (s, g) ∈ L → left (.string s) = true →
    doneL (fun z => left z && !z.sameKey (.string s)) f L = doneL left f L + f (s, g)
  | [], _, h, _ => by simp at h
  | p :: r, hn, h, hl => by
    obtain ⟨h1, h2⟩ := List.pairwise_cons.1 hn
    unfold doneL
    simp only [sumL]
    rcases List.mem_cons.1 h with e | hm
    · subst e
      have hr : sumL (fun p => if (left (.string p.1) && !(Lit.string p.1).sameKey (.string s)) = true then 0 else f p) r = sumL (fun p => if left (.string p.1) = true then 0 else f p) r := by
        refine sumL_congr fun q hq => ?_
        have hne : q.1 ≠ s := fun e => h1 q hq e.symm
        have : (Lit.string q.1).sameKey (.string s) = false := by simpa [Lit.sameKey] using hne
        simp only [this, Bool.not_false, Bool.and_true]
      rw [hr]
      simp [hl, Lit.sameKey]; omega
    · have hne : p.1 ≠ s := h1 _ hm
      have : (Lit.string p.1).sameKey (.string s) = false := by simpa [Lit.sameKey] using hne
      have ih := doneL_step f (left := left) h2 hm hl
      unfold doneL at ih
      rw [ih]
      simp only [this, Bool.not_false, Bool.and_true]; omega
end Go.Proofs.Ytcoimlenejffpaa
