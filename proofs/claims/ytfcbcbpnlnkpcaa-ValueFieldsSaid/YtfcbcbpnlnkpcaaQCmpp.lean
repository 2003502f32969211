/- The order of two values: the plain law. No program in sight. -/
import Derived.Test.YtfcbcbpnlnkpcaaQRa
namespace Go.Proofs.Ytfcbcbpnlnkpcaa
set_option linter.all false
open Go.RowKit
def cmpI (a b : Int) : Int := if a < b then -1 else if b < a then 1 else 0
def cmpB (a b : List UInt8) : Int := if Op.bytesLess a b then -1 else if Op.bytesLess b a then 1 else 0
def orI (a b : Int) : Int := if a = 0 then b else a
/-- A number with s digits behind the point, us so many parts of ten to the eighteenth. -/
def nV (i s : Int) : Int := i * 10 ^ (18 - s).toNat
def cls (k : Int) : Int := if k = 4 then 3 else k
/-- Two nodes; c is how their kids compare. -/
def nodeCmp (n m : Nd) (c : Int) : Int :=
  orI (cmpI (cls n.kind) (cls m.kind))
    (if cls n.kind = 3 then cmpI (nV n.int n.scale) (nV m.int m.scale)
    else if n.kind = 6 ∨ n.kind = 7 then cmpB n.text m.text
    else if n.kind = 8 ∨ n.kind = 9 then c
    else cmpI n.int m.int)
def cmpF (st : Bool) : F → List (List UInt8) → F → List (List UInt8) → Int
  | .nil, _, .nil, _ => 0
  | .nil, _, .cons _ _ _, _ => -1
  | .cons _ _ _, _, .nil, _ => 1
  | .cons n k r, us, .cons m q s, bs =>
    orI (if st then cmpB (us.headD []) (bs.headD []) else 0) (orI (nodeCmp n m (cmpF (n.kind == 9) k n.names q m.names)) (cmpF st r us.tail s bs.tail))
def cmpV (n : Nd) (k : F) (m : Nd) (q : F) : Int := nodeCmp n m (cmpF (n.kind == 9) k n.names q m.names)
/-- Of three: what is below what is below is below. -/
def Tr (a b c : Int) : Prop := (a ≤ 0 → b ≤ 0 → c ≤ 0 ∧ (c = 0 → a = 0 ∧ b = 0)) ∧ (a = 0 → b = 0 → c = 0)
theorem Tr.or {a b c a' b' c' : Int} (h : Tr a b c) (h' : a = 0 → b = 0 → Tr a' b' c') : Tr (orI a a') (orI b b') (orI c c') := by
  obtain ⟨h1, h2⟩ := h
  unfold orI
  by_cases ha : a = 0
  · by_cases hb : b = 0
    · have hc := h2 ha hb
      rw [if_pos ha, if_pos hb, if_pos hc]
      exact h' ha hb
    · rw [if_pos ha, if_neg hb]
      refine ⟨fun x y => ?_, fun x y => absurd y hb⟩
      obtain ⟨p, q⟩ := h1 (by omega) y
      have : c ≠ 0 := fun e => hb (q e).2
      rw [if_neg this]; exact ⟨p, fun e => absurd e this⟩
  · rw [if_neg ha]
    refine ⟨fun x y => ?_, fun x => absurd x ha⟩
    by_cases hb : b = 0
    · obtain ⟨p, q⟩ := h1 x (by omega)
      have : c ≠ 0 := fun e => ha (q e).1
      rw [if_neg this]; exact ⟨p, fun e => absurd e this⟩
    · rw [if_neg hb] at y
      obtain ⟨p, q⟩ := h1 x y
      have : c ≠ 0 := fun e => ha (q e).1
      rw [if_neg this]; exact ⟨p, fun e => absurd e this⟩
theorem Tr.i (a b c : Int) : Tr (cmpI a b) (cmpI b c) (cmpI a c) := by
  unfold Tr cmpI
  (repeat' split) <;> omega
theorem Tr.zero : Tr 0 0 0 := by unfold Tr; omega
theorem cmpB_nil : cmpB [] [] = 0 := rfl
theorem cmpB_nc (b : UInt8) (y : List UInt8) : cmpB [] (b :: y) = -1 := rfl
theorem cmpB_cn (b : UInt8) (y : List UInt8) : cmpB (b :: y) [] = 1 := rfl
theorem cmpB_cons (a b : UInt8) (x y : List UInt8) : cmpB (a :: x) (b :: y) = orI (cmpI a.toNat b.toNat) (cmpB x y) := by
  unfold cmpB orI cmpI
  simp only [Op.bytesLess, UInt8.lt_iff_toNat_lt, Bool.or_eq_true, Bool.and_eq_true, decide_eq_true_eq, beq_iff_eq]
  have e : a = b → a.toNat = b.toNat := fun h => by rw [h]
  have e' : b = a → a.toNat = b.toNat := fun h => by rw [h]
  rcases Nat.lt_trichotomy a.toNat b.toNat with h | h | h
  · rw [if_pos (Or.inl h), if_pos (show (a.toNat : Int) < b.toNat by omega), if_neg (by omega)]
  · have h1 : a = b := UInt8.toNat_inj.1 h
    subst h1
    simp
  · have n1 : ¬ (a.toNat < b.toNat ∨ a = b ∧ Op.bytesLess x y = true) := by
      rintro (h1 | ⟨h1, _⟩)
      · omega
      · have := e h1; omega
    rw [if_neg n1, if_pos (Or.inl h), if_neg (show ¬ (a.toNat : Int) < b.toNat by omega), if_pos (show (b.toNat : Int) < a.toNat by omega), if_neg (by omega)]
theorem Tr.b : ∀ x y z : List UInt8, Tr (cmpB x y) (cmpB y z) (cmpB x z)
  | [], [], [] => by simp only [cmpB_nil]; exact Tr.zero
  | [], [], c :: z => by simp only [cmpB_nil, cmpB_nc]; unfold Tr; omega
  | [], b :: y, [] => by simp only [cmpB_nil, cmpB_nc, cmpB_cn]; unfold Tr; omega
  | [], b :: y, c :: z => by simp only [cmpB_nc]; unfold Tr; omega
  | a :: x, [], [] => by simp only [cmpB_nil, cmpB_cn]; unfold Tr; omega
  | a :: x, [], c :: z => by simp only [cmpB_nc, cmpB_cn]; unfold Tr; omega
  | a :: x, b :: y, [] => by simp only [cmpB_cn]; unfold Tr; omega
  | a :: x, b :: y, c :: z => by
    simp only [cmpB_cons]
    exact (Tr.i _ _ _).or fun _ _ => Tr.b x y z
theorem orI_neg {a b a' b' : Int} (h : a' = -a) (h' : b' = -b) : orI a' b' = -(orI a b) := by unfold orI; (repeat' split) <;> omega
theorem cmpI_neg (a b : Int) : cmpI b a = -(cmpI a b) := by unfold cmpI; (repeat' split) <;> omega
theorem cmpB_neg : ∀ x y : List UInt8, cmpB y x = -(cmpB x y)
  | [], [] => by simp [cmpB_nil]
  | [], b :: y => by simp [cmpB_nc, cmpB_cn]
  | a :: x, [] => by simp [cmpB_nc, cmpB_cn]
  | a :: x, b :: y => by
    rw [cmpB_cons, cmpB_cons]
    exact orI_neg (cmpI_neg _ _) (cmpB_neg x y)
theorem cmpI_zero {a b : Int} (h : cmpI a b = 0) : a = b := by unfold cmpI at h; (repeat' split at h) <;> omega
theorem cmpI_self (a : Int) : cmpI a a = 0 := by unfold cmpI; (repeat' split) <;> omega
theorem orI_zero {a b : Int} (h : orI a b = 0) : a = 0 ∧ b = 0 := by unfold orI at h; split at h <;> omega
theorem cmpB_zero : ∀ {x y : List UInt8}, cmpB x y = 0 → x = y
  | [], [], _ => rfl
  | [], b :: y, h => by rw [cmpB_nc] at h; omega
  | a :: x, [], h => by rw [cmpB_cn] at h; omega
  | a :: x, b :: y, h => by
    rw [cmpB_cons] at h
    obtain ⟨h1, h2⟩ := orI_zero h
    have := cmpI_zero h1
    rw [cmpB_zero h2, UInt8.toNat_inj.1 (show a.toNat = b.toNat by omega)]
theorem cmpB_self (x : List UInt8) : cmpB x x = 0 := by have := cmpB_neg x x; omega
/-- What a node is that nothing is wrong with. -/
structure Good (n : Nd) (kl : Nat) : Prop where
  lo : 1 ≤ n.kind
  hi : n.kind ≤ 9
  scale : n.kind ≠ 4 → n.scale = 0
  int : n.kind = 1 ∨ 6 ≤ n.kind → n.int = 0
  dec : n.kind = 4 → 1 ≤ n.scale ∧ n.scale ≤ 18 ∧ n.int.tmod 10 ≠ 0
  text : n.kind ≠ 6 → n.kind ≠ 7 → n.text = []
  plain : n.kind ≤ 7 → kl = 0
  names : n.kind ≠ 9 → n.names = []
  struct : n.kind = 9 → n.names.length = kl ∧ upFrom none n.names = true
  few : kl ≤ 200
  short : n.text.length ≤ 16384
  bool : n.kind = 2 → 0 ≤ n.int ∧ n.int ≤ 1
  time : n.kind = 5 → 0 ≤ n.int ∧ n.int ≤ 9007199254740992
theorem good_of {n : Nd} {kl : Nat} (h : nerr n kl = 0) : Good n kl := by
  have nn : ∀ {l : List (List UInt8)}, ¬ 0 < l.length → l = [] := fun h => List.eq_nil_of_length_eq_zero (by omega)
  have te : ∀ {l : List UInt8}, ¬ l.isEmpty = false → l = [] := fun {l} h => by cases l <;> simp_all
  by_cases h1 : n.kind = 1
  · rw [nerr_1 n kl h1] at h
    split at h
    · exact absurd h (by omega)
    · rename_i hc
      simp only [not_or] at hc
      obtain ⟨c1, c2, c3, c4, c5⟩ := hc
      have := te c3
      exact ⟨by omega, by omega, fun _ => by omega, fun _ => by omega, fun _ => by omega, fun _ _ => this, fun _ => by omega, fun _ => nn c5, fun _ => by omega, by omega, by rw [this]; simp, fun _ => by omega, fun _ => by omega⟩
  by_cases h2 : n.kind = 2
  · rw [nerr_2 n kl h2] at h
    split at h
    · exact absurd h (by omega)
    · rename_i hc
      simp only [not_or] at hc
      obtain ⟨c0, c1, c2, c3, c4, c5⟩ := hc
      have := te c3
      exact ⟨by omega, by omega, fun _ => by omega, fun _ => by omega, fun _ => by omega, fun _ _ => this, fun _ => by omega, fun _ => nn c5, fun _ => by omega, by omega, by rw [this]; simp, fun _ => by omega, fun _ => by omega⟩
  by_cases h3 : n.kind = 3
  · rw [nerr_3 n kl h3] at h
    split at h
    · exact absurd h (by omega)
    · rename_i hc
      simp only [not_or] at hc
      obtain ⟨c2, c3, c4, c5⟩ := hc
      have := te c3
      exact ⟨by omega, by omega, fun _ => by omega, fun _ => by omega, fun _ => by omega, fun _ _ => this, fun _ => by omega, fun _ => nn c5, fun _ => by omega, by omega, by rw [this]; simp, fun _ => by omega, fun _ => by omega⟩
  by_cases h4 : n.kind = 4
  · rw [nerr_4 n kl h4] at h
    split at h
    · exact absurd h (by omega)
    · rename_i hc
      simp only [not_or] at hc
      obtain ⟨c0, c1, c2, c3, c4, c5⟩ := hc
      have := te c3
      exact ⟨by omega, by omega, fun _ => by omega, fun _ => by omega, fun _ => ⟨by omega, by omega, c2⟩, fun _ _ => this, fun _ => by omega, fun _ => nn c5, fun _ => by omega, by omega, by rw [this]; simp, fun _ => by omega, fun _ => by omega⟩
  by_cases h5 : n.kind = 5
  · rw [nerr_5 n kl h5] at h
    split at h
    · exact absurd h (by omega)
    · rename_i hc
      simp only [not_or] at hc
      obtain ⟨c0, c1, c2, c3, c4, c5⟩ := hc
      have := te c3
      exact ⟨by omega, by omega, fun _ => by omega, fun _ => by omega, fun _ => by omega, fun _ _ => this, fun _ => by omega, fun _ => nn c5, fun _ => by omega, by omega, by rw [this]; simp, fun _ => by omega, fun _ => by omega⟩
  by_cases h6 : n.kind = 6
  · rw [nerr_6 n kl h6] at h
    split at h
    · exact absurd h (by omega)
    · rename_i hc
      split at h
      · exact absurd h (by omega)
      simp only [not_or] at hc
      obtain ⟨c0, c1, c2, c3⟩ := hc
      exact ⟨by omega, by omega, fun _ => by omega, fun _ => by omega, fun _ => by omega, fun _ _ => by omega, fun _ => by omega, fun _ => nn c3, fun _ => by omega, by omega, by omega, fun _ => by omega, fun _ => by omega⟩
  by_cases h7 : n.kind = 7
  · rw [nerr_7 n kl h7] at h
    split at h
    · exact absurd h (by omega)
    · rename_i hc
      split at h
      · exact absurd h (by omega)
      simp only [not_or] at hc
      obtain ⟨c0, c1, c2, c3⟩ := hc
      exact ⟨by omega, by omega, fun _ => by omega, fun _ => by omega, fun _ => by omega, fun _ _ => by omega, fun _ => by omega, fun _ => nn c3, fun _ => by omega, by omega, by omega, fun _ => by omega, fun _ => by omega⟩
  by_cases h8 : n.kind = 8
  · rw [nerr_8 n kl h8] at h
    split at h
    · exact absurd h (by omega)
    · rename_i hc
      split at h
      · exact absurd h (by omega)
      simp only [not_or] at hc
      obtain ⟨c0, c1, c2, c3⟩ := hc
      have := te c2
      exact ⟨by omega, by omega, fun _ => by omega, fun _ => by omega, fun _ => by omega, fun _ _ => this, fun _ => by omega, fun _ => nn c3, fun _ => by omega, by omega, by rw [this]; simp, fun _ => by omega, fun _ => by omega⟩
  by_cases h9 : n.kind = 9
  · rw [nerr_9 n kl h9] at h
    split at h
    · exact absurd h (by omega)
    · rename_i hc
      split at h
      · exact absurd h (by omega)
      split at h
      · exact absurd h (by omega)
      rename_i hf
      simp only [not_or] at hc
      obtain ⟨c0, c1, c2⟩ := hc
      have := te c2
      have hf' : upFrom none n.names = true ∧ n.names.length = kl := by
        unfold fieldsOk at hf; simpa using hf
      exact ⟨by omega, by omega, fun _ => by omega, fun _ => by omega, fun _ => by omega, fun _ _ => this, fun _ => by omega, fun _ => by omega, fun _ => ⟨hf'.2, hf'.1⟩, by omega, by rw [this]; simp, fun _ => by omega, fun _ => by omega⟩
  · have h0 : okN n kl = false := by
      unfold okN okF
      rw [if_neg h1, if_neg h2, if_neg h3, if_neg h4, if_neg h5, if_neg h6, if_neg h7, if_neg h8, if_neg h9]
    unfold nerr at h
    rw [if_pos h0] at h
    exact absurd h (by omega)
theorem chk_zero {n : Nd} {k : F} {d : Nat} (h : chk n k d = 0) : d ≤ 16 ∧ nerr n k.len = 0 ∧ chkF k (d + 1) = 0 := by
  unfold chk at h
  split at h
  · exact absurd h (by omega)
  · split at h
    · rename_i h1 h2; exact absurd h h2
    · rename_i h1 h2; exact ⟨by omega, by simpa using h2, h⟩
theorem chkF_zero {n : Nd} {k r : F} {d : Nat} (h : chkF (.cons n k r) d = 0) : chk n k d = 0 ∧ chkF r d = 0 := by
  have e : chkF (.cons n k r) d = if chk n k d ≠ 0 then chk n k d else chkF r d := rfl
  rw [e] at h
  split at h
  · rename_i h1; exact absurd h h1
  · rename_i h1; exact ⟨by simpa using h1, h⟩
theorem chkF_get : ∀ {f : F} {i : Nat} {n : Nd} {k : F} {d : Nat}, chkF f d = 0 → f.get i = some (n, k) → chk n k d = 0
  | .nil, i, n, k, d, _, h => by simp [F.get] at h
  | .cons n' k' r, 0, n, k, d, hc, h => by
    simp only [F.get, Option.some.injEq, Prod.mk.injEq] at h
    obtain ⟨rfl, rfl⟩ := h
    exact (chkF_zero hc).1
  | .cons n' k' r, i + 1, n, k, d, hc, h => chkF_get (f := r) (chkF_zero hc).2 h
/-- Are two trees one? -/
def eqL : List (List UInt8) → List (List UInt8) → Bool
  | [], [] => true
  | a :: x, b :: y => a == b && eqL x y
  | _, _ => false
def eqN (n m : Nd) : Bool := n.kind == m.kind && n.int == m.int && n.scale == m.scale && n.text == m.text && n.names == m.names
def eqF : F → F → Bool
  | .nil, .nil => true
  | .cons n k r, .cons m q s => eqN n m && eqF k q && eqF r s
  | _, _ => false
def eqV (n : Nd) (k : F) (m : Nd) (q : F) : Bool := eqN n m && eqF k q
theorem eqN_iff {n m : Nd} : eqN n m = true ↔ n = m := by
  unfold eqN
  constructor
  · intro h
    simp only [Bool.and_eq_true, beq_iff_eq] at h
    obtain ⟨⟨⟨⟨a, b⟩, c⟩, d⟩, e⟩ := h
    cases n; cases m
    simp only at a b c d e
    subst a; subst b; subst c; subst d; subst e
    rfl
  · rintro rfl; simp
theorem eqF_iff : ∀ {f g : F}, eqF f g = true ↔ f = g
  | .nil, .nil => by simp [eqF]
  | .nil, .cons _ _ _ => by simp [eqF]
  | .cons _ _ _, .nil => by simp [eqF]
  | .cons n k r, .cons m q s => by
    simp only [eqF, Bool.and_eq_true, eqN_iff, eqF_iff (f := k), eqF_iff (f := r), F.cons.injEq, and_assoc]
theorem eqV_iff {n : Nd} {k : F} {m : Nd} {q : F} : eqV n k m q = true ↔ n = m ∧ k = q := by
  unfold eqV; rw [Bool.and_eq_true, eqN_iff, eqF_iff]
theorem eqF_drop {f g : F} {i : Nat} {n m : Nd} {k q : F} (h : f.get i = some (n, k)) (h' : g.get i = some (m, q)) : eqF (f.drop i) (g.drop i) = (eqV n k m q && eqF (f.drop (i + 1)) (g.drop (i + 1))) := by
  rw [F.drop_get f i h, F.drop_get g i h']; rfl
end Go.Proofs.Ytfcbcbpnlnkpcaa
