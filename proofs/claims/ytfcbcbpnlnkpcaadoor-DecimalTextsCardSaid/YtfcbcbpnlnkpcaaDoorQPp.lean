/- A text as a number. The plain law; no program in sight. -/
import Derived.Test.YtfcbcbpnlnkpcaaDoorQCutb
import Derived.Test.YtfcbcbpnlnkpcaaDoorQAn
import Derived.Test.YtfcbcbpnlnkpcaaDoorQBase
namespace Go.Proofs.YtfcbcbpnlnkpcaaDoor
set_option linter.all false
open Go.RowKit
def dg1 (b : UInt8) : Nat := b.toNat - 48
def dval (l : List UInt8) : Nat := l.foldl (fun a b => a * 10 + dg1 b) 0
theorem foldl_dval (l : List UInt8) : ∀ a : Nat, l.foldl (fun a b => a * 10 + dg1 b) a = a * 10 ^ l.length + dval l := by
  induction l with
  | nil => intro a; simp [dval]
  | cons b l ih =>
    intro a
    unfold dval
    simp only [List.foldl_cons, List.length_cons]
    rw [ih, ih (0 * 10 + dg1 b), Nat.pow_succ, Nat.zero_mul, Nat.zero_add, Nat.add_mul, Nat.add_assoc, Nat.mul_assoc, Nat.mul_comm 10]
theorem dval_app (a b : List UInt8) : dval (a ++ b) = dval a * 10 ^ b.length + dval b := by
  show (a ++ b).foldl _ 0 = _
  rw [List.foldl_append, foldl_dval]
  rfl
theorem dval_one (a : List UInt8) (b : UInt8) : dval (a ++ [b]) = dval a * 10 + dg1 b := by rw [dval_app]; simp [dval]
theorem dval_take {l : List UInt8} {j : Nat} (h : j < l.length) : dval (l.take (j + 1)) = dval (l.take j) * 10 + dg1 l[j] := by
  rw [List.take_succ_eq_append_getElem h, dval_one]
theorem dval_le (l : List UInt8) (j : Nat) : dval (l.take j) ≤ dval l := by
  conv => rhs; rw [← List.take_append_drop j l, dval_app]
  have : 1 ≤ 10 ^ (l.drop j).length := Nat.one_le_pow _ _ (by decide)
  exact Nat.le_trans (Nat.le_mul_of_pos_right _ this) (Nat.le_add_right _ _)
theorem dval_zeros (k : Nat) : dval (List.replicate k 48) = 0 := by
  induction k with
  | zero => rfl
  | succ k ih => rw [List.replicate_succ', dval_one, ih]; rfl
/-- Struck noughts. -/
theorem trimR_eq (l : List UInt8) (c : UInt8) : ∃ k, l = Lib.trimRightB l c ++ List.replicate k c := by
  unfold Lib.trimRightB
  have h : ∀ r : List UInt8, ∃ k, r = List.replicate k c ++ r.dropWhile (· == c) := by
    intro r
    induction r with
    | nil => exact ⟨0, rfl⟩
    | cons b r ih =>
      obtain ⟨k, hk⟩ := ih
      by_cases hb : (b == c) = true
      · refine ⟨k + 1, ?_⟩
        rw [List.dropWhile_cons_of_pos (p := (· == c)) hb]
        have : b = c := by simpa using hb
        subst this
        rw [List.replicate_succ]
        show b :: r = b :: (List.replicate k b ++ _)
        rw [← hk]
      · exact ⟨0, by rw [List.dropWhile_cons_of_neg (p := (· == c)) hb]; rfl⟩
  obtain ⟨k, hk⟩ := h l.reverse
  refine ⟨k, ?_⟩
  have := congrArg List.reverse hk
  rw [List.reverse_reverse, List.reverse_append, List.reverse_replicate] at this
  exact this
theorem trimB_nil (l : List UInt8) (c : UInt8) : Lib.trimB l c = [] ↔ l.all (· == c) = true := by
  unfold Lib.trimB Lib.trimLeftB
  have h1 : ∀ r : List UInt8, r.dropWhile (· == c) = [] ↔ r.all (· == c) = true := by
    intro r
    induction r with
    | nil => simp
    | cons b r ih =>
      by_cases hb : (b == c) = true
      · rw [List.dropWhile_cons_of_pos (p := (· == c)) hb, ih, List.all_cons, hb, Bool.true_and]
      · rw [List.dropWhile_cons_of_neg (p := (· == c)) hb, List.all_cons]
        simp [hb]
  rw [h1]
  obtain ⟨k, hk⟩ := trimR_eq l c
  conv => rhs; rw [hk, List.all_append]
  simp
theorem leastP_big {M : Int} {s : Nat} (hM : 21267647932558653966460912964485513216 ≤ M.natAbs) (hs : s ≤ 18) : leastP M s = none := by
  unfold leastP
  have ⟨h1, h2⟩ := red_eq s M
  generalize red s M = p at *
  obtain ⟨m, t⟩ := p
  simp only at h1 h2
  refine if_neg fun hf => ?_
  simp only [fits, Bool.and_eq_true, decide_eq_true_eq] at hf
  have h3 : M.natAbs = m.natAbs * 10 ^ (s - t) := by rw [h2, Int.natAbs_mul, Int.natAbs_pow]; rfl
  have h4 : 10 ^ (s - t) ≤ 10 ^ 18 := Nat.pow_le_pow_right (by decide) (by omega)
  have h5 : m.natAbs * 10 ^ (s - t) ≤ 9223372036854775808 * 10 ^ 18 := Nat.mul_le_mul (by omega) h4
  omega
theorem lsR_big {M : Int} {s : Nat} (hM : 21267647932558653966460912964485513216 ≤ M.natAbs) (hs : s ≤ 18) : lsR M s = (zN, 10) := by
  unfold lsR
  rw [leastP_big hM hs]
  rfl
theorem lsR_pow (M : Int) (s k : Nat) : lsR (M * 10 ^ k) (s + k) = lsR M s := by unfold lsR; rw [leastP_pow]
theorem sg_pow (b : Bool) (m k : Nat) : sg b (m * 10 ^ k) = sg b m * 10 ^ k := by cases b <;> simp [sg, Int.neg_mul]
/-- The part without its last noughts does. -/
theorem lsR_trim (neg : Bool) (whole part : List UInt8) : lsR (sg neg (dval (whole ++ Lib.trimRightB part 48))) (Lib.trimRightB part 48).length = lsR (sg neg (dval (whole ++ part))) part.length := by
  obtain ⟨k, hk⟩ := trimR_eq part 48
  generalize Lib.trimRightB part 48 = p at *
  subst hk
  rw [← List.append_assoc, dval_app (whole ++ p), dval_zeros, List.length_replicate, Nat.add_zero, sg_pow, List.length_append, List.length_replicate, lsR_pow]
def formB (neg : Bool) (t : List UInt8) : Bool :=
  digB (ctB t 46).1 && !((ctB t 46).1.head? == some 48 && decide (1 < (ctB t 46).1.length)) && (!(ctB t 46).2.2 || (digB (ctB t 46).2.1 && decide ((ctB t 46).2.1.length ≤ 18))) &&
  !(neg && ((ctB t 46).1 ++ (ctB t 46).2.1).all (· == 48))
def parse2 (neg : Bool) (t : List UInt8) : Nd × Int :=
  if formB neg t = true then lsR (sg neg (dval ((ctB t 46).1 ++ (ctB t 46).2.1))) (ctB t 46).2.1.length else (zN, 3)
/-- A text as a number. -/
def parseR (s : List UInt8) : Nd × Int := parse2 (Lib.hasPrefix s [45]) (Lib.trimPrefix s [45])
theorem parse2_plain (neg : Bool) (t : List UInt8) : plainN (parse2 neg t).1 := by unfold parse2; split; exact lsR_plain _ _; exact zN_plain
theorem parseR_plain (s : List UInt8) : plainN (parseR s).1 := parse2_plain _ _
theorem ctB_none {l : List UInt8} {c : UInt8} (h : (ctB l c).2.2 = false) : (ctB l c).2.1 = [] := by
  unfold ctB at *
  split
  · rename_i h1; rw [if_pos h1] at h; cases h
  · rfl
theorem ctB_len (l : List UInt8) (c : UInt8) : (ctB l c).1.length ≤ l.length ∧ (ctB l c).2.1.length ≤ l.length ∧ (ctB l c).1.length + (ctB l c).2.1.length ≤ l.length := by
  unfold ctB
  split
  · simp; omega
  · simp
end Go.Proofs.YtfcbcbpnlnkpcaaDoor
/- scrivenerref6.Parse: the plain law of its first loop; no program in sight. -/
namespace Go.Proofs.YtfcbcbpnlnkpcaaDoor
set_option linter.all false
open Go.RowKit
theorem ctB_view (t : List UInt8) : (((ctB t 46).2.2 = false ∧ t = (ctB t 46).1 ∧ (ctB t 46).2.1 = []) ∨ ((ctB t 46).2.2 = true ∧ t = (ctB t 46).1 ++ 46 :: (ctB t 46).2.1)) ∧ ∀ b ∈ (ctB t 46).1, b ≠ 46 := by
  have hge := Lib.indexByte_ge t 46
  by_cases h : Lib.indexByte t 46 = -1
  · have hn := Lib.indexByte_none h
    have e : ctB t 46 = (t, [], false) := by unfold ctB; rw [h]; rfl
    rw [e]
    refine ⟨.inl ⟨rfl, rfl, rfl⟩, fun b hb => ?_⟩
    obtain ⟨k, hk⟩ := List.mem_iff_getElem?.1 hb
    rintro rfl
    exact hn k hk
  · obtain ⟨o, ho⟩ : ∃ o : Nat, Lib.indexByte t 46 = o := ⟨(Lib.indexByte t 46).toNat, by omega⟩
    have hs := Lib.indexByte_some ho
    have hlt : o < t.length := (List.getElem?_eq_some_iff.1 hs.1).1
    have e : ctB t 46 = (t.take o, t.drop (o + 1), true) := by unfold ctB; rw [ho]; rfl
    rw [e]
    refine ⟨.inr ⟨rfl, ?_⟩, fun b hb => ?_⟩
    · have h1 : t[o] = 46 := (List.getElem?_eq_some_iff.1 hs.1).2
      conv => lhs; rw [← List.take_append_drop o t, List.drop_eq_getElem_cons hlt, h1]
    · obtain ⟨k, hk⟩ := List.mem_iff_getElem?.1 hb
      rintro rfl
      have hk2 : k < o := by
        have := (List.getElem?_eq_some_iff.1 hk).1
        rw [List.length_take] at this
        omega
      rw [List.getElem?_take_of_lt hk2] at hk
      exact hs.2 k hk2 hk
def View (t wh pa : List UInt8) (dot : Bool) : Prop := ((dot = false ∧ t = wh ∧ pa = []) ∨ (dot = true ∧ t = wh ++ 46 :: pa)) ∧ ∀ b ∈ wh, b ≠ 46
def L1 (wh pa : List UInt8) (i : Nat) (d : List UInt8) (pt : Int) : Prop :=
  d.all isD = true ∧ ((i ≤ wh.length ∧ pt = -1 ∧ d = wh.take i) ∨ (wh.length < i ∧ pt = wh.length ∧ d = wh ++ pa.take (i - wh.length - 1)))
theorem L1_start (wh pa : List UInt8) : L1 wh pa 0 [] (-1) := ⟨rfl, .inl ⟨Nat.zero_le _, rfl, rfl⟩⟩
theorem view_lt {t wh pa : List UInt8} {dot : Bool} (hv : View t wh pa dot) {i : Nat} {b : UInt8} (hb : t[i]? = some b) (hi : i < wh.length) : wh[i]? = some b := by
  rcases hv.1 with ⟨_, rfl, _⟩ | ⟨_, rfl⟩
  · exact hb
  · rwa [List.getElem?_append_left hi] at hb
theorem view_eq {t wh pa : List UInt8} {dot : Bool} (hv : View t wh pa dot) {b : UInt8} (hb : t[wh.length]? = some b) : dot = true ∧ b = 46 := by
  rcases hv.1 with ⟨_, rfl, _⟩ | ⟨h, rfl⟩
  · simp at hb
  · refine ⟨h, ?_⟩
    rw [List.getElem?_append_right (Nat.le_refl _)] at hb
    simpa using hb.symm
theorem view_gt {t wh pa : List UInt8} {dot : Bool} (hv : View t wh pa dot) {i : Nat} {b : UInt8} (hb : t[i]? = some b) (hi : wh.length < i) : dot = true ∧ pa[i - wh.length - 1]? = some b := by
  rcases hv.1 with ⟨_, rfl, _⟩ | ⟨h, rfl⟩
  · have := (List.getElem?_eq_some_iff.1 hb).1
    omega
  · refine ⟨h, ?_⟩
    rw [List.getElem?_append_right (by omega), show i - wh.length = (i - wh.length - 1) + 1 from by omega, List.getElem?_cons_succ] at hb
    exact hb
theorem L1_dot {t wh pa : List UInt8} {dot : Bool} (hv : View t wh pa dot) {i : Nat} {d : List UInt8} {pt : Int} (h : L1 wh pa i d pt) (hb : t[i]? = some 46) (hp : pt < 0) : L1 wh pa (i + 1) d i := by
  obtain ⟨h1, ⟨h2, rfl, rfl⟩ | ⟨h2, rfl, rfl⟩⟩ := h
  · have he : i = wh.length := by
      rcases Nat.lt_or_ge i wh.length with h' | h'
      · have := view_lt hv hb h'
        exact absurd rfl (hv.2 46 (List.mem_of_getElem? this))
      · omega
    subst he
    refine ⟨h1, .inr ⟨by omega, rfl, ?_⟩⟩
    rw [show wh.length + 1 - wh.length - 1 = 0 from by omega]
    simp
  · omega
theorem isD_ne {b : UInt8} (h : isD b = true) : b ≠ 46 := by rintro rfl; cases h
theorem L1_dig {t wh pa : List UInt8} {dot : Bool} (hv : View t wh pa dot) {i : Nat} {d : List UInt8} {pt : Int} {b : UInt8} (h : L1 wh pa i d pt) (hb : t[i]? = some b) (hd : isD b = true) : L1 wh pa (i + 1) (d ++ [b]) pt := by
  obtain ⟨h1, h2⟩ := h
  refine ⟨by rw [List.all_append, h1]; simp [hd], ?_⟩
  rcases h2 with ⟨h2, rfl, rfl⟩ | ⟨h2, rfl, rfl⟩
  · left
    rcases Nat.lt_or_ge i wh.length with h' | h'
    · have hw := view_lt hv hb h'
      refine ⟨h', rfl, ?_⟩
      rw [List.take_succ, hw]
      rfl
    · have he : i = wh.length := by omega
      subst he
      exact absurd (view_eq hv hb).2 (isD_ne hd)
  · right
    have hp := (view_gt hv hb h2).2
    refine ⟨by omega, rfl, ?_⟩
    rw [show i + 1 - wh.length - 1 = (i - wh.length - 1) + 1 from by omega, List.take_succ, hp, List.append_assoc]
    rfl
theorem digB_all {l : List UInt8} {b : UInt8} (h : b ∈ l) (hd : isD b = false) : digB l = false := by
  unfold digB
  have : l.all isD = false := by
    rw [List.all_eq_false]
    exact ⟨b, h, by simp [hd]⟩
  rw [this]
  rfl
def form2 (neg : Bool) (wh pa : List UInt8) (dot : Bool) : Bool :=
  digB wh && !(wh.head? == some 48 && decide (1 < wh.length)) && (!dot || (digB pa && decide (pa.length ≤ 18))) && !(neg && (wh ++ pa).all (· == 48))
theorem L1_bad {t wh pa : List UInt8} {dot : Bool} (hv : View t wh pa dot) {i : Nat} {d : List UInt8} {pt : Int} {b : UInt8} (h : L1 wh pa i d pt) (hb : t[i]? = some b) (hd : isD b = false) (hn : ¬ (b = 46 ∧ pt < 0)) (neg : Bool) : form2 neg wh pa dot = false := by
  unfold form2
  obtain ⟨h1, ⟨h2, rfl, rfl⟩ | ⟨h2, rfl, rfl⟩⟩ := h
  · rcases Nat.lt_or_ge i wh.length with h' | h'
    · rw [digB_all (List.mem_of_getElem? (view_lt hv hb h')) hd]
      rfl
    · have he : i = wh.length := by omega
      subst he
      exact absurd ⟨(view_eq hv hb).2, by omega⟩ hn
  · have ⟨e, hp⟩ := view_gt hv hb h2
    rw [digB_all (List.mem_of_getElem? hp) hd, e]
    simp
theorem L1_end {t wh pa : List UInt8} {dot : Bool} (hv : View t wh pa dot) {d : List UInt8} {pt : Int} (h : L1 wh pa t.length d pt) :
    d = wh ++ pa ∧ wh.all isD = true ∧ pa.all isD = true ∧ ((dot = false ∧ pt = -1 ∧ pa = []) ∨ (dot = true ∧ pt = wh.length)) := by
  obtain ⟨h1, h2⟩ := h
  have key : d = wh ++ pa ∧ ((dot = false ∧ pt = -1 ∧ pa = []) ∨ (dot = true ∧ pt = wh.length)) := by
    rcases hv.1 with ⟨e, rfl, rfl⟩ | ⟨e, rfl⟩
    · rcases h2 with ⟨h2, rfl, rfl⟩ | ⟨h2, rfl, rfl⟩
      · exact ⟨by simp, .inl ⟨e, rfl, rfl⟩⟩
      · omega
    · rcases h2 with ⟨h2, rfl, rfl⟩ | ⟨h2, rfl, rfl⟩
      · simp at h2; omega
      · refine ⟨?_, .inr ⟨e, rfl⟩⟩
        rw [List.length_append, List.length_cons, show wh.length + (pa.length + 1) - wh.length - 1 = pa.length from by omega, List.take_length]
  obtain ⟨rfl, k⟩ := key
  rw [List.all_append, Bool.and_eq_true] at h1
  exact ⟨rfl, h1.1, h1.2, k⟩
theorem parse2_form (neg : Bool) (t : List UInt8) : parse2 neg t = if form2 neg (ctB t 46).1 (ctB t 46).2.1 (ctB t 46).2.2 = true then lsR (sg neg (dval ((ctB t 46).1 ++ (ctB t 46).2.1))) (ctB t 46).2.1.length else (zN, 3) := rfl
theorem digB_of {l : List UInt8} (h : l.all isD = true) : digB l = decide (0 < l.length) := by unfold digB; rw [h, Bool.true_and]
/-- A number of 128 digits in two halves. -/
def wU (V : Nat) : Nat := V % 340282366920938463463374607431768211456 / 18446744073709551616
def wL (V : Nat) : Nat := V % 18446744073709551616
theorem wUL (V : Nat) : wU V * 18446744073709551616 + wL V = V % 340282366920938463463374607431768211456 := by unfold wU wL; omega
theorem wU_lt (V : Nat) : wU V < 18446744073709551616 := by unfold wU; omega
theorem wL_lt (V : Nat) : wL V < 18446744073709551616 := Nat.mod_lt _ (by decide)
end Go.Proofs.YtfcbcbpnlnkpcaaDoor
/- A number's text, read again. The plain law; no program in sight. -/
namespace Go.Proofs.YtfcbcbpnlnkpcaaDoor
set_option linter.all false
open Go.RowKit
theorem dec_big {u : Nat} (h : ¬ u < 10) : Lib.decDigits u = Lib.decDigits (u / 10) ++ [UInt8.ofNat (48 + u % 10)] := by
  conv => lhs; unfold Lib.decDigits
  rw [dif_neg h]
theorem dg_of {k : Nat} (h : k < 10) : (UInt8.ofNat (48 + k)).toNat = 48 + k := by
  rw [UInt8.toNat_ofNat']
  omega
theorem dval_dec (u : Nat) : dval (Lib.decDigits u) = u := by
  induction u using Nat.strongRecOn with
  | _ u ih =>
    by_cases h : u < 10
    · rw [Lib.decDigits_one h]
      show 0 * 10 + dg1 _ = u
      unfold dg1
      rw [dg_of h]
      omega
    · rw [dec_big h, dval_one, ih (u / 10) (by omega)]
      unfold dg1
      rw [dg_of (Nat.mod_lt _ (by decide))]
      omega
theorem isD_of {k : Nat} (h : k < 10) : isD (UInt8.ofNat (48 + k)) = true := by
  unfold isD
  rw [dg_of h, decide_eq_true (by omega), decide_eq_true (by omega)]
  rfl
theorem dec_isD (u : Nat) : (Lib.decDigits u).all isD = true := by
  induction u using Nat.strongRecOn with
  | _ u ih =>
    by_cases h : u < 10
    · rw [Lib.decDigits_one h, List.all_cons, isD_of h]
      rfl
    · rw [dec_big h, List.all_append, ih (u / 10) (by omega)]
      rw [List.all_cons, isD_of (Nat.mod_lt u (by decide : 0 < 10))]
      rfl
theorem dec_head {u : Nat} (h0 : 0 < u) : (Lib.decDigits u).head? ≠ some 48 := by
  induction u using Nat.strongRecOn with
  | _ u ih =>
    by_cases h : u < 10
    · rw [Lib.decDigits_one h]
      simp only [List.head?_cons]
      intro e
      have := congrArg UInt8.toNat (Option.some.inj e)
      rw [dg_of h] at this
      have h48 : (48 : UInt8).toNat = 48 := rfl
      omega
    · rw [dec_big h]
      have hn : Lib.decDigits (u / 10) ≠ [] := fun e => by
        have := dec_pos (u / 10)
        rw [e] at this
        simp at this
      have hh : ∀ (l r : List UInt8), l ≠ [] → (l ++ r).head? = l.head? := by
        intro l r hl
        cases l with
        | nil => exact absurd rfl hl
        | cons b l => rfl
      rw [hh _ _ hn]
      exact ih (u / 10) (by omega) (by omega)
theorem index_app : ∀ (wh pa : List UInt8), (∀ b ∈ wh, b ≠ 46) → Lib.indexByte (wh ++ 46 :: pa) 46 = wh.length
  | [], pa, _ => by simp [Lib.indexByte]
  | b :: wh, pa, h => by
    have hb : (b == 46) = false := by simpa using h b (by simp)
    have ih := index_app wh pa (fun c hc => h c (by simp [hc]))
    rw [List.cons_append]
    unfold Lib.indexByte
    rw [hb, ih]
    simp only [Bool.false_eq_true, if_false]
    rw [if_neg (by simp)]
    simp
theorem index_no : ∀ (wh : List UInt8), (∀ b ∈ wh, b ≠ 46) → Lib.indexByte wh 46 = -1
  | [], _ => rfl
  | b :: wh, h => by
    have hb : (b == 46) = false := by simpa using h b (by simp)
    have ih := index_no wh (fun c hc => h c (by simp [hc]))
    unfold Lib.indexByte
    rw [hb, ih]
    rfl
theorem ctB_app {wh pa : List UInt8} (h : ∀ b ∈ wh, b ≠ 46) : ctB (wh ++ 46 :: pa) 46 = (wh, pa, true) := by
  unfold ctB
  rw [index_app wh pa h, if_pos (by omega)]
  simp
theorem ctB_no {wh : List UInt8} (h : ∀ b ∈ wh, b ≠ 46) : ctB wh 46 = (wh, [], false) := by
  unfold ctB
  rw [index_no wh h]
  rfl
theorem isD_no {l : List UInt8} (h : l.all isD = true) : ∀ b ∈ l, b ≠ 46 := fun b hb => isD_ne (List.all_eq_true.1 h b hb)
theorem zeros_dval {l : List UInt8} (h : l.all (· == 48) = true) : dval l = 0 := by
  have : l = List.replicate l.length 48 := by
    rw [List.eq_replicate_iff]
    exact ⟨rfl, fun b hb => by simpa using List.all_eq_true.1 h b hb⟩
  rw [this, dval_zeros]
theorem pad_isD (k : Nat) (u : Nat) : (padTo k (Lib.decDigits u)).all isD = true := by
  unfold padTo
  rw [List.all_append, dec_isD]
  simp [isD]
theorem pad_dval (k u : Nat) : dval (padTo k (Lib.decDigits u)) = u := by
  unfold padTo
  rw [dval_app, dval_zeros, dval_dec, Nat.zero_mul, Nat.zero_add]
theorem body_first (u T : Nat) : Lib.hasPrefix (bodyN u T) [45] = false := by
  have h1 : ∀ l : List UInt8, l.all isD = true → ∀ r : List UInt8, (l ≠ [] ) → Lib.hasPrefix (l ++ r) [45] = false := by
    intro l hl r hne
    cases l with
    | nil => exact absurd rfl hne
    | cons b l =>
      have hb := List.all_eq_true.1 hl b (by simp)
      have h2 : ((45 : UInt8) == b) = false := by
        rw [beq_eq_false_iff_ne]
        rintro rfl
        cases hb
      show ((45 : UInt8) == b && List.isPrefixOf [] (l ++ r)) = false
      rw [h2]
      rfl
  unfold bodyN
  split
  · have := h1 _ (dec_isD u) [] (fun e => by have := dec_pos u; rw [e] at this; simp at this)
    simpa using this
  · unfold pointAt
    have hl := padTo_length (T + 1) (Lib.decDigits u)
    have hall := pad_isD (T + 1) u
    generalize padTo (T + 1) (Lib.decDigits u) = l at *
    refine h1 _ ?_ _ ?_
    · rw [List.all_eq_true] at hall ⊢
      exact fun b hb => hall b (List.mem_of_mem_take hb)
    · intro e
      have := congrArg List.length e
      rw [List.length_take] at this
      simp at this
      omega
theorem form2_no {neg : Bool} {wh : List UInt8} (h1 : wh.all isD = true) :
    form2 neg wh [] false = (decide (0 < wh.length) && !(wh.head? == some 48 && decide (1 < wh.length)) && !(neg && (wh ++ []).all (· == 48))) := by
  unfold form2
  rw [digB_of h1]
  simp
theorem form2_yes {neg : Bool} {wh pa : List UInt8} (h1 : wh.all isD = true) (h2 : pa.all isD = true) (h3 : 0 < pa.length) (h4 : pa.length ≤ 18) :
    form2 neg wh pa true = (decide (0 < wh.length) && !(wh.head? == some 48 && decide (1 < wh.length)) && !(neg && (wh ++ pa).all (· == 48))) := by
  unfold form2
  rw [digB_of h1, digB_of h2, decide_eq_true h3, decide_eq_true h4]
  simp
theorem parse_body (neg : Bool) (u T : Nat) (hT : T ≤ 18) (hn : neg = true → 0 < u) : parse2 neg (bodyN u T) = lsR (sg neg u) T := by
  have hz : ∀ l : List UInt8, dval l = u → (neg && l.all (· == 48)) = false := by
    intro l hl
    cases neg with
    | false => rfl
    | true =>
      cases h : l.all (· == 48) with
      | false => rfl
      | true => have := zeros_dval h; have := hn rfl; omega
  rw [parse2_form]
  unfold bodyN
  split
  · rename_i h0
    subst h0
    rw [ctB_no (isD_no (dec_isD u))]
    simp only
    rw [form2_no (dec_isD u), List.append_nil, hz _ (dval_dec u), dval_dec]
    have hh : ((Lib.decDigits u).head? == some 48 && decide (1 < (Lib.decDigits u).length)) = false := by
      rcases Nat.eq_zero_or_pos u with h | h
      · subst h
        rw [Lib.decDigits_one (by decide)]
        rfl
      · have := dec_head h
        simp [this]
    rw [hh, decide_eq_true (p := 0 < (Lib.decDigits u).length) (dec_pos u)]
    simp
  · rename_i h0
    unfold pointAt
    have hl := padTo_length (T + 1) (Lib.decDigits u)
    have hall := pad_isD (T + 1) u
    have hdv := pad_dval (T + 1) u
    have hlead : ¬ ((padTo (T + 1) (Lib.decDigits u)).head? = some 48 ∧ T + 1 < (padTo (T + 1) (Lib.decDigits u)).length) := by
      rintro ⟨h1, h2⟩
      have h3 : ¬ (Lib.decDigits u).length < T + 1 := by
        intro h
        unfold padTo at h2
        rw [List.length_append, List.length_replicate] at h2
        omega
      rw [padTo_stop h3] at h1 h2
      rcases Nat.eq_zero_or_pos u with h | h
      · subst h
        rw [Lib.decDigits_one (by decide)] at h2
        simp at h2
      · exact dec_head h h1
    generalize padTo (T + 1) (Lib.decDigits u) = l at *
    have hw : (l.take (l.length - T)).all isD = true := by
      rw [List.all_eq_true] at hall ⊢
      exact fun b hb => hall b (List.mem_of_mem_take hb)
    have hp : (l.drop (l.length - T)).all isD = true := by
      rw [List.all_eq_true] at hall ⊢
      exact fun b hb => hall b (List.mem_of_mem_drop hb)
    have hwl : (l.take (l.length - T)).length = l.length - T := by rw [List.length_take]; omega
    have hpl : (l.drop (l.length - T)).length = T := by rw [List.length_drop]; omega
    rw [ctB_app (isD_no hw)]
    simp only
    rw [form2_yes hw hp (by omega) (by omega), List.take_append_drop, hz _ hdv, hdv, hwl, hpl]
    have hh : ((l.take (l.length - T)).head? == some 48 && decide (1 < l.length - T)) = false := by
      by_cases h1 : 1 < l.length - T
      · rw [decide_eq_true h1, Bool.and_true, beq_eq_false_iff_ne]
        intro e
        refine hlead ⟨?_, by omega⟩
        rw [List.head?_take] at e
        split at e
        · cases e
        · exact e
      · rw [decide_eq_false h1, Bool.and_false]
    rw [hh, decide_eq_true (by omega)]
    simp
/-- A number's text is read as that number. -/
theorem parse_text {n : Nd} (h : isNum n) : parseR (textN n) = (n, 0) := by
  have hs := h.scale_le
  have key : lsR n.int n.scale.toNat = (n, 0) := by
    unfold lsR
    rw [leastP_self h]
    rfl
  unfold textN
  by_cases hneg : n.int < 0
  · rw [if_pos hneg]
    have e : parseR (45 :: bodyN n.int.natAbs n.scale.toNat) = parse2 true (bodyN n.int.natAbs n.scale.toNat) := by
      have hp : Lib.hasPrefix (45 :: bodyN n.int.natAbs n.scale.toNat) [45] = true := by simp [Lib.hasPrefix]
      unfold parseR
      rw [hp]
      unfold Lib.trimPrefix
      rw [hp]
      rfl
    rw [e, parse_body true _ _ hs.2.2 (fun _ => by omega), show sg true n.int.natAbs = n.int from by simp [sg]; omega, key]
  · rw [if_neg hneg]
    have e : parseR (bodyN n.int.natAbs n.scale.toNat) = parse2 false (bodyN n.int.natAbs n.scale.toNat) := by
      have hp := body_first n.int.natAbs n.scale.toNat
      unfold parseR
      rw [hp]
      unfold Lib.trimPrefix
      rw [hp]
      rfl
    rw [e, parse_body false _ _ hs.2.2 (fun h => by cases h), show sg false n.int.natAbs = n.int from by simp [sg]; omega, key]
theorem textN_len {n : Nd} (h : isNum n) : (textN n).length ≤ 140737488351232 := by
  have hs := h.scale_le
  have h1 : (Lib.decDigits n.int.natAbs).length ≤ 21 := by
    have h2 := Lib.itoa_length_le n.int h.2.2.1.1 h.2.2.1.2
    unfold Lib.itoa at h2
    split at h2
    · simp at h2; omega
    · rename_i h0
      rw [show n.int.natAbs = n.int.toNat from by omega]
      exact h2
  have h3 : (bodyN n.int.natAbs n.scale.toNat).length ≤ 50 := by
    unfold bodyN
    split
    · omega
    · rw [pointAt_length]
      unfold padTo
      rw [List.length_append, List.length_replicate]
      omega
  unfold textN
  split
  · rw [List.length_cons]; omega
  · omega
end Go.Proofs.YtfcbcbpnlnkpcaaDoor
