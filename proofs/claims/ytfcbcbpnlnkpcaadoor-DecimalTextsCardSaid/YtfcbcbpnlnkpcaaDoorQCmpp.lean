/- The order of two values: the plain law. No program in sight. -/
import Derived.Test.YtfcbcbpnlnkpcaaDoorQRa
namespace Go.Proofs.YtfcbcbpnlnkpcaaDoor
set_option linter.all false
open Go.RowKit
def cmpI (a b : Int) : Int := if a < b then -1 else if b < a then 1 else 0
def cmpB (a b : List UInt8) : Int := if Op.bytesLess a b then -1 else if Op.bytesLess b a then 1 else 0
def orI (a b : Int) : Int := if a = 0 then b else a
/-- A number with s digits behind the point, us so many parts of ten to the eighteenth. -/
def nV (i s : Int) : Int := i * 10 ^ (18 - s).toNat
def cls (k : Int) : Int := if k = 4 then 3 else k
/-- Two nodes; c is how their kids compare. -/
def nodeCmp (n m : Nd) (c : Int) : Int :=
  orI (cmpI (cls n.kind) (cls m.kind))
    (if cls n.kind = 3 then cmpI (nV n.int n.scale) (nV m.int m.scale)
    else if n.kind = 6 ∨ n.kind = 7 then cmpB n.text m.text
    else if n.kind = 8 ∨ n.kind = 9 then c
    else cmpI n.int m.int)
def cmpF (st : Bool) : F → List (List UInt8) → F → List (List UInt8) → Int
  | .nil, _, .nil, _ => 0
  | .nil, _, .cons _ _ _, _ => -1
  | .cons _ _ _, _, .nil, _ => 1
  | .cons n k r, us, .cons m q s, bs =>
    orI (if st then cmpB (us.headD []) (bs.headD []) else 0) (orI (nodeCmp n m (cmpF (n.kind == 9) k n.names q m.names)) (cmpF st r us.tail s bs.tail))
def cmpV (n : Nd) (k : F) (m : Nd) (q : F) : Int := nodeCmp n m (cmpF (n.kind == 9) k n.names q m.names)
/-- Of three: what is below what is below is below. -/
def Tr (a b c : Int) : Prop := (a ≤ 0 → b ≤ 0 → c ≤ 0 ∧ (c = 0 → a = 0 ∧ b = 0)) ∧ (a = 0 → b = 0 → c = 0)
theorem Tr.or {a b c a' b' c' : Int} (h : Tr a b c) (h' : a = 0 → b = 0 → Tr a' b' c') : Tr (orI a a') (orI b b') (orI c c') := by
  obtain ⟨h1, h2⟩ := h
  unfold orI
  by_cases ha : a = 0
  · by_cases hb : b = 0
    · have hc := h2 ha hb
      rw [if_pos ha, if_pos hb, if_pos hc]
      exact h' ha hb
    · rw [if_pos ha, if_neg hb]
      refine ⟨fun x y => ?_, fun x y => absurd y hb⟩
      obtain ⟨p, q⟩ := h1 (by omega) y
      have : c ≠ 0 := fun e => hb (q e).2
      rw [if_neg this]; exact ⟨p, fun e => absurd e this⟩
  · rw [if_neg ha]
    refine ⟨fun x y => ?_, fun x => absurd x ha⟩
    by_cases hb : b = 0
    · obtain ⟨p, q⟩ := h1 x (by omega)
      have : c ≠ 0 := fun e => ha (q e).1
      rw [if_neg this]; exact ⟨p, fun e => absurd e this⟩
    · rw [if_neg hb] at y
      obtain ⟨p, q⟩ := h1 x y
      have : c ≠ 0 := fun e => ha (q e).1
      rw [if_neg this]; exact ⟨p, fun e => absurd e this⟩
theorem Tr.i (a b c : Int) : Tr (cmpI a b) (cmpI b c) (cmpI a c) := by
  unfold Tr cmpI
  (repeat' split) <;> omega
theorem Tr.zero : Tr 0 0 0 := by unfold Tr; omega
theorem cmpB_nil : cmpB [] [] = 0 := rfl
theorem cmpB_nc (b : UInt8) (y : List UInt8) : cmpB [] (b :: y) = -1 := rfl
theorem cmpB_cn (b : UInt8) (y : List UInt8) : cmpB (b :: y) [] = 1 := rfl
theorem cmpB_cons (a b : UInt8) (x y : List UInt8) : cmpB (a :: x) (b :: y) = orI (cmpI a.toNat b.toNat) (cmpB x y) := by
  unfold cmpB orI cmpI
  simp only [Op.bytesLess, UInt8.lt_iff_toNat_lt, Bool.or_eq_true, Bool.and_eq_true, decide_eq_true_eq, beq_iff_eq]
  have e : a = b → a.toNat = b.toNat := fun h => by rw [h]
  have e' : b = a → a.toNat = b.toNat := fun h => by rw [h]
  rcases Nat.lt_trichotomy a.toNat b.toNat with h | h | h
  · rw [if_pos (Or.inl h), if_pos (show (a.toNat : Int) < b.toNat by omega), if_neg (by omega)]
  · have h1 : a = b := UInt8.toNat_inj.1 h
    subst h1
    simp
  · have n1 : ¬ (a.toNat < b.toNat ∨ a = b ∧ Op.bytesLess x y = true) := by
      rintro (h1 | ⟨h1, _⟩)
      · omega
      · have := e h1; omega
    rw [if_neg n1, if_pos (Or.inl h), if_neg (show ¬ (a.toNat : Int) < b.toNat by omega), if_pos (show (b.toNat : Int) < a.toNat by omega), if_neg (by omega)]
theorem Tr.b : ∀ x y z : List UInt8, Tr (cmpB x y) (cmpB y z) (cmpB x z)
  | [], [], [] => by simp only [cmpB_nil]; exact Tr.zero
  | [], [], c :: z => by simp only [cmpB_nil, cmpB_nc]; unfold Tr; omega
  | [], b :: y, [] => by simp only [cmpB_nil, cmpB_nc, cmpB_cn]; unfold Tr; omega
  | [], b :: y, c :: z => by simp only [cmpB_nc]; unfold Tr; omega
  | a :: x, [], [] => by simp only [cmpB_nil, cmpB_cn]; unfold Tr; omega
  | a :: x, [], c :: z => by simp only [cmpB_nc, cmpB_cn]; unfold Tr; omega
  | a :: x, b :: y, [] => by simp only [cmpB_cn]; unfold Tr; omega
  | a :: x, b :: y, c :: z => by
    simp only [cmpB_cons]
    exact (Tr.i _ _ _).or fun _ _ => Tr.b x y z
theorem orI_neg {a b a' b' : Int} (h : a' = -a) (h' : b' = -b) : orI a' b' = -(orI a b) := by unfold orI; (repeat' split) <;> omega
theorem cmpI_neg (a b : Int) : cmpI b a = -(cmpI a b) := by unfold cmpI; (repeat' split) <;> omega
theorem cmpB_neg : ∀ x y : List UInt8, cmpB y x = -(cmpB x y)
  | [], [] => by simp [cmpB_nil]
  | [], b :: y => by simp [cmpB_nc, cmpB_cn]
  | a :: x, [] => by simp [cmpB_nc, cmpB_cn]
  | a :: x, b :: y => by
    rw [cmpB_cons, cmpB_cons]
    exact orI_neg (cmpI_neg _ _) (cmpB_neg x y)
theorem cmpI_zero {a b : Int} (h : cmpI a b = 0) : a = b := by unfold cmpI at h; (repeat' split at h) <;> omega
theorem cmpI_self (a : Int) : cmpI a a = 0 := by unfold cmpI; (repeat' split) <;> omega
theorem orI_zero {a b : Int} (h : orI a b = 0) : a = 0 ∧ b = 0 := by unfold orI at h; split at h <;> omega
theorem cmpB_zero : ∀ {x y : List UInt8}, cmpB x y = 0 → x = y
  | [], [], _ => rfl
  | [], b :: y, h => by rw [cmpB_nc] at h; omega
  | a :: x, [], h => by rw [cmpB_cn] at h; omega
  | a :: x, b :: y, h => by
    rw [cmpB_cons] at h
    obtain ⟨h1, h2⟩ := orI_zero h
    have := cmpI_zero h1
    rw [cmpB_zero h2, UInt8.toNat_inj.1 (show a.toNat = b.toNat by omega)]
theorem cmpB_self (x : List UInt8) : cmpB x x = 0 := by have := cmpB_neg x x; omega
/-- What holds of nodes holds of kids. -/
theorem nodeCmp_neg (n m : Nd) {c c' : Int} (h : n.kind = m.kind → c' = -c) : nodeCmp m n c' = -(nodeCmp n m c) := by
  unfold nodeCmp
  by_cases hc : cls n.kind = cls m.kind
  · by_cases h3 : cls n.kind = 3
    · rw [if_pos h3, if_pos (hc ▸ h3)]
      exact orI_neg (cmpI_neg _ _) (cmpI_neg _ _)
    · have hk : n.kind = m.kind := by unfold cls at hc h3; (repeat' split at hc) <;> (repeat' split at h3) <;> omega
      rw [if_neg h3, if_neg (hc ▸ h3), hk]
      refine orI_neg (by rw [cmpI_self]; rfl) ?_
      (repeat' split)
      · exact cmpB_neg _ _
      · exact h hk
      · exact cmpI_neg _ _
  · have h1 : cmpI (cls n.kind) (cls m.kind) ≠ 0 := fun e => hc (cmpI_zero e)
    have h2 : cmpI (cls m.kind) (cls n.kind) ≠ 0 := fun e => hc (cmpI_zero e).symm
    unfold orI
    rw [if_neg h1, if_neg h2, cmpI_neg]
theorem cmpF_neg (st : Bool) : ∀ (f : F) (us : List (List UInt8)) (g : F) (bs : List (List UInt8)), cmpF st g bs f us = -(cmpF st f us g bs)
  | .nil, us, .nil, bs => by simp [cmpF]
  | .nil, us, .cons _ _ _, bs => by simp [cmpF]
  | .cons _ _ _, us, .nil, bs => by simp [cmpF]
  | .cons n k r, us, .cons m q s, bs => by
    simp only [cmpF]
    refine orI_neg ?_ (orI_neg (nodeCmp_neg _ _ fun h => ?_) (cmpF_neg st r us.tail s bs.tail))
    · split
      · exact cmpB_neg _ _
      · rfl
    · rw [← h]; exact cmpF_neg (n.kind == 9) k n.names q m.names
theorem cmpV_neg (n : Nd) (k : F) (m : Nd) (q : F) : cmpV m q n k = -(cmpV n k m q) :=
  nodeCmp_neg _ _ fun h => by rw [← h]; exact cmpF_neg _ _ _ _ _
theorem nodeCmp_tr (n m l : Nd) {a b c : Int} (h : n.kind = m.kind → m.kind = l.kind → Tr a b c) : Tr (nodeCmp n m a) (nodeCmp m l b) (nodeCmp n l c) := by
  unfold nodeCmp
  refine (Tr.i _ _ _).or fun h1 h2 => ?_
  have e1 := cmpI_zero h1
  have e2 := cmpI_zero h2
  by_cases h3 : cls n.kind = 3
  · rw [if_pos h3, if_pos (e1 ▸ h3), if_pos h3]; exact Tr.i _ _ _
  · have hk : n.kind = m.kind := by unfold cls at e1 h3; (repeat' split at e1) <;> (repeat' split at h3) <;> omega
    have h3' : ¬ cls m.kind = 3 := e1 ▸ h3
    have hk' : m.kind = l.kind := by unfold cls at e2 h3'; (repeat' split at e2) <;> (repeat' split at h3') <;> omega
    rw [if_neg h3, if_neg h3', if_neg h3, hk]
    (repeat' split)
    · exact Tr.b _ _ _
    · exact h hk hk'
    · exact Tr.i _ _ _
theorem cmpF_tr (st : Bool) : ∀ (f : F) (us : List (List UInt8)) (g : F) (bs : List (List UInt8)) (h : F) (cs : List (List UInt8)), Tr (cmpF st f us g bs) (cmpF st g bs h cs) (cmpF st f us h cs)
  | .nil, us, .nil, bs, .nil, cs => by simp only [cmpF]; exact Tr.zero
  | .nil, us, .nil, bs, .cons _ _ _, cs => by simp only [cmpF]; unfold Tr; omega
  | .nil, us, .cons _ _ _, bs, .nil, cs => by simp only [cmpF]; unfold Tr; omega
  | .nil, us, .cons _ _ _, bs, .cons _ _ _, cs => by simp only [cmpF]; unfold Tr; omega
  | .cons _ _ _, us, .nil, bs, .nil, cs => by simp only [cmpF]; unfold Tr; omega
  | .cons _ _ _, us, .nil, bs, .cons _ _ _, cs => by simp only [cmpF]; unfold Tr; omega
  | .cons _ _ _, us, .cons _ _ _, bs, .nil, cs => by simp only [cmpF]; unfold Tr; omega
  | .cons n k r, us, .cons m q s, bs, .cons l p t, cs => by
    simp only [cmpF]
    refine Tr.or ?_ fun _ _ => (nodeCmp_tr n m l fun e1 e2 => ?_).or fun _ _ => cmpF_tr st r us.tail s bs.tail t cs.tail
    · cases st
      · exact Tr.zero
      · exact Tr.b _ _ _
    · rw [← e1]; exact cmpF_tr (n.kind == 9) k n.names q m.names p l.names
theorem cmpV_tr (n : Nd) (k : F) (m : Nd) (q : F) (l : Nd) (p : F) : Tr (cmpV n k m q) (cmpV m q l p) (cmpV n k l p) :=
  nodeCmp_tr n m l fun e1 e2 => by rw [← e1]; exact cmpF_tr _ _ _ _ _ _ _
theorem nodeCmp_self (n : Nd) {c : Int} (h : c = 0) : nodeCmp n n c = 0 := by
  unfold nodeCmp
  rw [cmpI_self, orI, if_pos rfl]
  (repeat' split)
  · exact cmpI_self _
  · exact cmpB_self _
  · exact h
  · exact cmpI_self _
theorem cmpF_self (st : Bool) : ∀ (f : F) (us : List (List UInt8)), cmpF st f us f us = 0
  | .nil, us => rfl
  | .cons n k r, us => by
    simp only [cmpF]
    rw [nodeCmp_self n (cmpF_self _ k n.names), cmpF_self st r us.tail]
    split
    · rw [cmpB_self]; rfl
    · rfl
theorem cmpV_self (n : Nd) (k : F) : cmpV n k n k = 0 := nodeCmp_self n (cmpF_self _ k n.names)
/-- What a node is that nothing is wrong with. -/
structure Good (n : Nd) (kl : Nat) : Prop where
  lo : 1 ≤ n.kind
  hi : n.kind ≤ 9
  scale : n.kind ≠ 4 → n.scale = 0
  int : n.kind = 1 ∨ 6 ≤ n.kind → n.int = 0
  dec : n.kind = 4 → 1 ≤ n.scale ∧ n.scale ≤ 18 ∧ n.int.tmod 10 ≠ 0
  text : n.kind ≠ 6 → n.kind ≠ 7 → n.text = []
  plain : n.kind ≤ 7 → kl = 0
  names : n.kind ≠ 9 → n.names = []
  struct : n.kind = 9 → n.names.length = kl ∧ upFrom none n.names = true
  few : kl ≤ 200
  short : n.text.length ≤ 16384
  bool : n.kind = 2 → 0 ≤ n.int ∧ n.int ≤ 1
  time : n.kind = 5 → 0 ≤ n.int ∧ n.int ≤ 9007199254740992
theorem good_of {n : Nd} {kl : Nat} (h : nerr n kl = 0) : Good n kl := by
  have nn : ∀ {l : List (List UInt8)}, ¬ 0 < l.length → l = [] := fun h => List.eq_nil_of_length_eq_zero (by omega)
  have te : ∀ {l : List UInt8}, ¬ l.isEmpty = false → l = [] := fun {l} h => by cases l <;> simp_all
  by_cases h1 : n.kind = 1
  · rw [nerr_1 n kl h1] at h
    split at h
    · exact absurd h (by omega)
    · rename_i hc
      simp only [not_or] at hc
      obtain ⟨c1, c2, c3, c4, c5⟩ := hc
      have := te c3
      exact ⟨by omega, by omega, fun _ => by omega, fun _ => by omega, fun _ => by omega, fun _ _ => this, fun _ => by omega, fun _ => nn c5, fun _ => by omega, by omega, by rw [this]; simp, fun _ => by omega, fun _ => by omega⟩
  by_cases h2 : n.kind = 2
  · rw [nerr_2 n kl h2] at h
    split at h
    · exact absurd h (by omega)
    · rename_i hc
      simp only [not_or] at hc
      obtain ⟨c0, c1, c2, c3, c4, c5⟩ := hc
      have := te c3
      exact ⟨by omega, by omega, fun _ => by omega, fun _ => by omega, fun _ => by omega, fun _ _ => this, fun _ => by omega, fun _ => nn c5, fun _ => by omega, by omega, by rw [this]; simp, fun _ => by omega, fun _ => by omega⟩
  by_cases h3 : n.kind = 3
  · rw [nerr_3 n kl h3] at h
    split at h
    · exact absurd h (by omega)
    · rename_i hc
      simp only [not_or] at hc
      obtain ⟨c2, c3, c4, c5⟩ := hc
      have := te c3
      exact ⟨by omega, by omega, fun _ => by omega, fun _ => by omega, fun _ => by omega, fun _ _ => this, fun _ => by omega, fun _ => nn c5, fun _ => by omega, by omega, by rw [this]; simp, fun _ => by omega, fun _ => by omega⟩
  by_cases h4 : n.kind = 4
  · rw [nerr_4 n kl h4] at h
    split at h
    · exact absurd h (by omega)
    · rename_i hc
      simp only [not_or] at hc
      obtain ⟨c0, c1, c2, c3, c4, c5⟩ := hc
      have := te c3
      exact ⟨by omega, by omega, fun _ => by omega, fun _ => by omega, fun _ => ⟨by omega, by omega, c2⟩, fun _ _ => this, fun _ => by omega, fun _ => nn c5, fun _ => by omega, by omega, by rw [this]; simp, fun _ => by omega, fun _ => by omega⟩
  by_cases h5 : n.kind = 5
  · rw [nerr_5 n kl h5] at h
    split at h
    · exact absurd h (by omega)
    · rename_i hc
      simp only [not_or] at hc
      obtain ⟨c0, c1, c2, c3, c4, c5⟩ := hc
      have := te c3
      exact ⟨by omega, by omega, fun _ => by omega, fun _ => by omega, fun _ => by omega, fun _ _ => this, fun _ => by omega, fun _ => nn c5, fun _ => by omega, by omega, by rw [this]; simp, fun _ => by omega, fun _ => by omega⟩
  by_cases h6 : n.kind = 6
  · rw [nerr_6 n kl h6] at h
    split at h
    · exact absurd h (by omega)
    · rename_i hc
      split at h
      · exact absurd h (by omega)
      simp only [not_or] at hc
      obtain ⟨c0, c1, c2, c3⟩ := hc
      exact ⟨by omega, by omega, fun _ => by omega, fun _ => by omega, fun _ => by omega, fun _ _ => by omega, fun _ => by omega, fun _ => nn c3, fun _ => by omega, by omega, by omega, fun _ => by omega, fun _ => by omega⟩
  by_cases h7 : n.kind = 7
  · rw [nerr_7 n kl h7] at h
    split at h
    · exact absurd h (by omega)
    · rename_i hc
      split at h
      · exact absurd h (by omega)
      simp only [not_or] at hc
      obtain ⟨c0, c1, c2, c3⟩ := hc
      exact ⟨by omega, by omega, fun _ => by omega, fun _ => by omega, fun _ => by omega, fun _ _ => by omega, fun _ => by omega, fun _ => nn c3, fun _ => by omega, by omega, by omega, fun _ => by omega, fun _ => by omega⟩
  by_cases h8 : n.kind = 8
  · rw [nerr_8 n kl h8] at h
    split at h
    · exact absurd h (by omega)
    · rename_i hc
      split at h
      · exact absurd h (by omega)
      simp only [not_or] at hc
      obtain ⟨c0, c1, c2, c3⟩ := hc
      have := te c2
      exact ⟨by omega, by omega, fun _ => by omega, fun _ => by omega, fun _ => by omega, fun _ _ => this, fun _ => by omega, fun _ => nn c3, fun _ => by omega, by omega, by rw [this]; simp, fun _ => by omega, fun _ => by omega⟩
  by_cases h9 : n.kind = 9
  · rw [nerr_9 n kl h9] at h
    split at h
    · exact absurd h (by omega)
    · rename_i hc
      split at h
      · exact absurd h (by omega)
      split at h
      · exact absurd h (by omega)
      rename_i hf
      simp only [not_or] at hc
      obtain ⟨c0, c1, c2⟩ := hc
      have := te c2
      have hf' : upFrom none n.names = true ∧ n.names.length = kl := by
        unfold fieldsOk at hf; simpa using hf
      exact ⟨by omega, by omega, fun _ => by omega, fun _ => by omega, fun _ => by omega, fun _ _ => this, fun _ => by omega, fun _ => by omega, fun _ => ⟨hf'.2, hf'.1⟩, by omega, by rw [this]; simp, fun _ => by omega, fun _ => by omega⟩
  · have h0 : okN n kl = false := by
      unfold okN okF
      rw [if_neg h1, if_neg h2, if_neg h3, if_neg h4, if_neg h5, if_neg h6, if_neg h7, if_neg h8, if_neg h9]
    unfold nerr at h
    rw [if_pos h0] at h
    exact absurd h (by omega)
theorem chk_zero {n : Nd} {k : F} {d : Nat} (h : chk n k d = 0) : d ≤ 16 ∧ nerr n k.len = 0 ∧ chkF k (d + 1) = 0 := by
  unfold chk at h
  split at h
  · exact absurd h (by omega)
  · split at h
    · rename_i h1 h2; exact absurd h h2
    · rename_i h1 h2; exact ⟨by omega, by simpa using h2, h⟩
theorem chkF_zero {n : Nd} {k r : F} {d : Nat} (h : chkF (.cons n k r) d = 0) : chk n k d = 0 ∧ chkF r d = 0 := by
  have e : chkF (.cons n k r) d = if chk n k d ≠ 0 then chk n k d else chkF r d := rfl
  rw [e] at h
  split at h
  · rename_i h1; exact absurd h h1
  · rename_i h1; exact ⟨by simpa using h1, h⟩
theorem chkF_get : ∀ {f : F} {i : Nat} {n : Nd} {k : F} {d : Nat}, chkF f d = 0 → f.get i = some (n, k) → chk n k d = 0
  | .nil, i, n, k, d, _, h => by simp [F.get] at h
  | .cons n' k' r, 0, n, k, d, hc, h => by
    simp only [F.get, Option.some.injEq, Prod.mk.injEq] at h
    obtain ⟨rfl, rfl⟩ := h
    exact (chkF_zero hc).1
  | .cons n' k' r, i + 1, n, k, d, hc, h => chkF_get (f := r) (chkF_zero hc).2 h
theorem nV_inj {i s j t : Int} (h : nV i s = nV j t) (hs : 0 ≤ s) (hs' : s ≤ 18) (ht : 0 ≤ t) (ht' : t ≤ 18) (hi : 0 < s → i.tmod 10 ≠ 0) (hj : 0 < t → j.tmod 10 ≠ 0) : i = j ∧ s = t := by
  have key : ∀ {i s j t : Int}, nV i s = nV j t → 0 ≤ s → s ≤ t → t ≤ 18 → (0 < t → j.tmod 10 ≠ 0) → i = j ∧ s = t := by
    intro i s j t h hs hst ht hj
    unfold nV at h
    have e : (18 - s).toNat = (t - s).toNat + (18 - t).toNat := by omega
    rw [e, Int.pow_add, ← Int.mul_assoc] at h
    have hp : (10 : Int) ^ (18 - t).toNat ≠ 0 := by have : (0 : Int) < 10 ^ (18 - t).toNat := Int.pow_pos (by decide); omega
    have h1 := Int.eq_of_mul_eq_mul_right hp h
    by_cases e2 : s = t
    · subst e2; simp at h1; exact ⟨h1, rfl⟩
    · exfalso
      refine hj (by omega) ?_
      have e3 : (t - s).toNat = (t - s).toNat - 1 + 1 := by omega
      rw [e3, Int.pow_succ, ← Int.mul_assoc] at h1
      rw [← h1]
      exact Int.mul_tmod_left _ _
  rcases Int.le_total s t with h1 | h1
  · exact key h hs h1 ht' hj
  · obtain ⟨a, b⟩ := key h.symm ht h1 hs' hi
    exact ⟨a.symm, b.symm⟩
theorem F.len_zero {f : F} (h : f.len = 0) : f = .nil := by
  cases f with
  | nil => rfl
  | cons _ _ _ => simp [F.len] at h
theorem nodeCmp_zero {n m : Nd} {k q : F} {c : Int} (h : nodeCmp n m c = 0) (hn : nerr n k.len = 0) (hm : nerr m q.len = 0)
    (hc : n.kind = m.kind → n.kind = 8 ∨ n.kind = 9 → c = 0 → n.names = m.names ∧ k = q) : n = m ∧ k = q := by
  have g := good_of hn
  have g' := good_of hm
  unfold nodeCmp at h
  obtain ⟨h1, h2⟩ := orI_zero h
  have e1 := cmpI_zero h1
  have fin : n.kind = m.kind → n.int = m.int → n.scale = m.scale → n.text = m.text → n.names = m.names → n = m := by
    intro a b c d e
    cases n; cases m
    simp only at a b c d e
    subst a; subst b; subst c; subst d; subst e
    rfl
  have G1 := g.lo; have G2 := g.hi; have G3 := g.scale; have G4 := g.int; have G5 := g.dec; have G6 := g.text; have G7 := g.plain; have G8 := g.names
  have H1 := g'.lo; have H2 := g'.hi; have H3 := g'.scale; have H4 := g'.int; have H5 := g'.dec; have H6 := g'.text; have H7 := g'.plain; have H8 := g'.names
  by_cases h3 : cls n.kind = 3
  · rw [if_pos h3] at h2
    have h3' : cls m.kind = 3 := e1 ▸ h3
    have kn : n.kind = 3 ∨ n.kind = 4 := by unfold cls at h3; split at h3 <;> omega
    have km : m.kind = 3 ∨ m.kind = 4 := by unfold cls at h3'; split at h3' <;> omega
    have sn : 0 ≤ n.scale ∧ n.scale ≤ 18 ∧ (0 < n.scale → n.int.tmod 10 ≠ 0) ∧ (n.kind = 4 ↔ 0 < n.scale) := by
      rcases kn with e | e
      · have := G3 (by omega); exact ⟨by omega, by omega, by omega, by omega⟩
      · obtain ⟨a, b, c⟩ := G5 e; exact ⟨by omega, by omega, fun _ => c, by omega⟩
    have sm : 0 ≤ m.scale ∧ m.scale ≤ 18 ∧ (0 < m.scale → m.int.tmod 10 ≠ 0) ∧ (m.kind = 4 ↔ 0 < m.scale) := by
      rcases km with e | e
      · have := H3 (by omega); exact ⟨by omega, by omega, by omega, by omega⟩
      · obtain ⟨a, b, c⟩ := H5 e; exact ⟨by omega, by omega, fun _ => c, by omega⟩
    obtain ⟨ei, es⟩ := nV_inj (cmpI_zero h2) sn.1 sn.2.1 sm.1 sm.2.1 sn.2.2.1 sm.2.2.1
    have k1 := F.len_zero (f := k) (G7 (by omega))
    have k2 := F.len_zero (f := q) (H7 (by omega))
    refine ⟨fin (by have := sn.2.2.2; have := sm.2.2.2; omega) ei es ?_ ?_, by rw [k1, k2]⟩
    · rw [G6 (by omega) (by omega), H6 (by omega) (by omega)]
    · rw [G8 (by omega), H8 (by omega)]
  · have hk : n.kind = m.kind := by unfold cls at e1 h3; (repeat' split at e1) <;> (repeat' split at h3) <;> omega
    have n3 : n.kind ≠ 3 ∧ n.kind ≠ 4 := by unfold cls at h3; split at h3 <;> omega
    rw [if_neg h3] at h2
    have es : n.scale = m.scale := by rw [G3 (by omega), H3 (by omega)]
    split at h2
    · rename_i h67
      have k1 := F.len_zero (f := k) (G7 (by omega))
      have k2 := F.len_zero (f := q) (H7 (by omega))
      exact ⟨fin hk (by rw [G4 (by omega), H4 (by omega)]) es (cmpB_zero h2) (by rw [G8 (by omega), H8 (by omega)]), by rw [k1, k2]⟩
    · rename_i h67
      have et : n.text = m.text := by rw [G6 (by omega) (by omega), H6 (by omega) (by omega)]
      split at h2
      · rename_i h89
        obtain ⟨a, b⟩ := hc hk h89 h2
        exact ⟨fin hk (by rw [G4 (by omega), H4 (by omega)]) es et a, b⟩
      · rename_i h89
        have k1 := F.len_zero (f := k) (G7 (by omega))
        have k2 := F.len_zero (f := q) (H7 (by omega))
        exact ⟨fin hk (cmpI_zero h2) es et (by rw [G8 (by omega), H8 (by omega)]), by rw [k1, k2]⟩
theorem cmpF_zero (st : Bool) : ∀ (f : F) (us : List (List UInt8)) (g : F) (bs : List (List UInt8)) (d : Nat), cmpF st f us g bs = 0 → chkF f d = 0 → chkF g d = 0 →
    (st = true → us.length = f.len ∧ bs.length = g.len) → f = g ∧ (st = true → us = bs)
  | .nil, us, .nil, bs, d, _, _, _, hl => ⟨rfl, fun h => by
    obtain ⟨a, b⟩ := hl h
    rw [List.eq_nil_of_length_eq_zero a, List.eq_nil_of_length_eq_zero b]⟩
  | .nil, us, .cons _ _ _, bs, d, h, _, _, _ => by simp [cmpF] at h
  | .cons _ _ _, us, .nil, bs, d, h, _, _, _ => by simp [cmpF] at h
  | .cons n k r, us, .cons m q s, bs, d, h, hf, hg, hl => by
    simp only [cmpF] at h
    obtain ⟨h1, h2⟩ := orI_zero h
    obtain ⟨h3, h4⟩ := orI_zero h2
    obtain ⟨f1, f2⟩ := chkF_zero hf
    obtain ⟨g1, g2⟩ := chkF_zero hg
    obtain ⟨_, f3, f4⟩ := chk_zero f1
    obtain ⟨_, g3, g4⟩ := chk_zero g1
    obtain ⟨e1, e2⟩ := nodeCmp_zero (k := k) (q := q) h3 f3 g3 (fun hk h89 hc => by
      by_cases h9 : n.kind = 9
      · have r := cmpF_zero (n.kind == 9) k n.names q m.names (d + 1) hc f4 g4 (fun _ => ⟨((good_of f3).struct h9).1, ((good_of g3).struct (hk ▸ h9)).1⟩)
        exact ⟨r.2 (by simp [h9]), r.1⟩
      · have r := cmpF_zero (n.kind == 9) k n.names q m.names (d + 1) hc f4 g4 (fun hh => by simp at hh; exact absurd hh h9)
        exact ⟨by rw [(good_of f3).names h9, (good_of g3).names (hk ▸ h9)], r.1⟩)
    have r := cmpF_zero st r us.tail s bs.tail d h4 f2 g2 (fun hst => by
      obtain ⟨a, b⟩ := hl hst
      simp only [F.len] at a b
      rw [List.length_tail, List.length_tail]; omega)
    refine ⟨by rw [e1, e2, r.1], fun hst => ?_⟩
    obtain ⟨a, b⟩ := hl hst
    rw [if_pos hst] at h1
    have hd := cmpB_zero h1
    have ht := r.2 hst
    match us, bs, a, b with
    | x :: us', y :: bs', _, _ =>
      simp only [List.headD_cons, List.tail_cons] at hd ht
      rw [hd, ht]
theorem cmpV_zero {n : Nd} {k : F} {m : Nd} {q : F} {d : Nat} (h : cmpV n k m q = 0) (hn : chk n k d = 0) (hm : chk m q d = 0) : n = m ∧ k = q := by
  obtain ⟨_, f3, f4⟩ := chk_zero hn
  obtain ⟨_, g3, g4⟩ := chk_zero hm
  refine nodeCmp_zero h f3 g3 fun hk h89 hc => ?_
  by_cases h9 : n.kind = 9
  · have r := cmpF_zero (n.kind == 9) k n.names q m.names (d + 1) hc f4 g4 (fun _ => ⟨((good_of f3).struct h9).1, ((good_of g3).struct (hk ▸ h9)).1⟩)
    exact ⟨r.2 (by simp [h9]), r.1⟩
  · have r := cmpF_zero (n.kind == 9) k n.names q m.names (d + 1) hc f4 g4 (fun hh => by simp at hh; exact absurd hh h9)
    exact ⟨by rw [(good_of f3).names h9, (good_of g3).names (hk ▸ h9)], r.1⟩
/-- Are two trees one? -/
def eqL : List (List UInt8) → List (List UInt8) → Bool
  | [], [] => true
  | a :: x, b :: y => a == b && eqL x y
  | _, _ => false
def eqN (n m : Nd) : Bool := n.kind == m.kind && n.int == m.int && n.scale == m.scale && n.text == m.text && n.names == m.names
def eqF : F → F → Bool
  | .nil, .nil => true
  | .cons n k r, .cons m q s => eqN n m && eqF k q && eqF r s
  | _, _ => false
def eqV (n : Nd) (k : F) (m : Nd) (q : F) : Bool := eqN n m && eqF k q
theorem eqN_iff {n m : Nd} : eqN n m = true ↔ n = m := by
  unfold eqN
  constructor
  · intro h
    simp only [Bool.and_eq_true, beq_iff_eq] at h
    obtain ⟨⟨⟨⟨a, b⟩, c⟩, d⟩, e⟩ := h
    cases n; cases m
    simp only at a b c d e
    subst a; subst b; subst c; subst d; subst e
    rfl
  · rintro rfl; simp
theorem eqF_iff : ∀ {f g : F}, eqF f g = true ↔ f = g
  | .nil, .nil => by simp [eqF]
  | .nil, .cons _ _ _ => by simp [eqF]
  | .cons _ _ _, .nil => by simp [eqF]
  | .cons n k r, .cons m q s => by
    simp only [eqF, Bool.and_eq_true, eqN_iff, eqF_iff (f := k), eqF_iff (f := r), F.cons.injEq, and_assoc]
theorem eqV_iff {n : Nd} {k : F} {m : Nd} {q : F} : eqV n k m q = true ↔ n = m ∧ k = q := by
  unfold eqV; rw [Bool.and_eq_true, eqN_iff, eqF_iff]
theorem eqF_drop {f g : F} {i : Nat} {n m : Nd} {k q : F} (h : f.get i = some (n, k)) (h' : g.get i = some (m, q)) : eqF (f.drop i) (g.drop i) = (eqV n k m q && eqF (f.drop (i + 1)) (g.drop (i + 1))) := by
  rw [F.drop_get f i h, F.drop_get g i h']; rfl
end Go.Proofs.YtfcbcbpnlnkpcaaDoor
