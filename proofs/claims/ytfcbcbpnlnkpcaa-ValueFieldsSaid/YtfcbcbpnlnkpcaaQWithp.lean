/- A struct with a field more, or another one: the plain law, and what memory holds of it. -/
import Derived.Test.YtfcbcbpnlnkpcaaQDp
import Derived.Test.YtfcbcbpnlnkpcaaQInsz
import Derived.Test.YtfcbcbpnlnkpcaaQBase
import Derived.Test.YtfcbcbpnlnkpcaaQCmp
import Derived.Test.YtfcbcbpnlnkpcaaQBsearch
import Derived.Test.YtfcbcbpnlnkpcaaQField
import Derived.Test.YtfcbcbpnlnkpcaaQSpoilt
namespace Go.Proofs.Ytfcbcbpnlnkpcaa
set_option linter.all false
open Go.RowKit
def F.app : F → F → F
  | .nil, g => g
  | .cons n k r, g => .cons n k (r.app g)
/-- How many texts stand ahead of the first that is not below x. -/
def cntB (x : List UInt8) : List (List UInt8) → Nat
  | [] => 0
  | a :: r => if Op.bytesLess a x = true then cntB x r + 1 else 0
def hitB (x : List UInt8) (l : List (List UInt8)) : Nat := if l[cntB x l]? = some x then 1 else 0
def layL (l : List (List UInt8)) (i d : Nat) (x : List UInt8) : List (List UInt8) := l.take i ++ [x] ++ l.drop (i + d)
def layF (k : F) (i d : Nat) (m : Nd) (q : F) : F := (k.take i).app ((F.cons m q .nil).app (k.drop (i + d)))
def lay6 (xs : List Value) (i d : Nat) (ys : List Value) : List Value := xs.take (i * 6) ++ ys ++ xs.drop ((i + d) * 6)
def layN (n : Nd) (x : List UInt8) : Nd := ⟨n.kind, n.int, n.scale, n.text, layL n.names (cntB x n.names) (hitB x n.names) x⟩
def layK (n : Nd) (k : F) (x : List UInt8) (m : Nd) (q : F) : F := layF k (cntB x n.names) (hitB x n.names) m q
/-- A struct with a field: the error, the node, its kids. -/
def withV (n : Nd) (k : F) (x : List UInt8) (m : Nd) (q : F) : Nat × Nd × F :=
  if chk n k 1 ≠ 0 then (chk n k 1, zNd, .nil) else if n.kind ≠ 9 then (11, zNd, .nil) else if chk m q 1 ≠ 0 then (chk m q 1, zNd, .nil)
  else if chk (layN n x) (layK n k x m q) 1 ≠ 0 then (chk (layN n x) (layK n k x m q) 1, zNd, .nil) else (0, layN n x, layK n k x m q)
theorem cntB_le (x : List UInt8) : ∀ l, cntB x l ≤ l.length
  | [] => Nat.le_refl _
  | a :: r => by
    have := cntB_le x r
    unfold cntB
    split
    · rw [List.length_cons]; omega
    · omega
theorem cntB_lt (x : List UInt8) : ∀ (l : List (List UInt8)) (t : Nat), t < cntB x l → ∃ a, l[t]? = some a ∧ Op.bytesLess a x = true
  | [], t, h => absurd h (by simp [cntB])
  | a :: r, t, h => by
    unfold cntB at h
    split at h
    · rename_i ha
      cases t with
      | zero => exact ⟨a, rfl, ha⟩
      | succ t =>
        obtain ⟨b, hb, hx⟩ := cntB_lt x r t (by omega)
        exact ⟨b, by simpa using hb, hx⟩
    · omega
theorem cntB_at (x : List UInt8) : ∀ (l : List (List UInt8)) (a : List UInt8), l[cntB x l]? = some a → Op.bytesLess a x = false
  | [], a, h => by simp at h
  | b :: r, a, h => by
    unfold cntB at h
    split at h
    · rename_i hb
      exact cntB_at x r a (by simpa using h)
    · rename_i hb
      have : b = a := by simpa using h
      subst this
      simpa using hb
/-- The texts stand in order, each above the one ahead of it. -/
def Up (l : List (List UInt8)) : Prop := ∀ (i : Nat) (a b : List UInt8), l[i]? = some a → l[i + 1]? = some b → Op.bytesLess b a = false ∧ b ≠ a
theorem up_of : ∀ (l : List (List UInt8)) (p : Option (List UInt8)), upFrom p l = true → Up l
  | [], _, _ => fun i a b h => by simp at h
  | a :: r, p, h => by
    have h1 : upFrom (some a) r = true := by cases p <;> simp [upFrom] at h <;> simp [h]
    intro i b c hb hc
    cases i with
    | zero =>
      obtain rfl : a = b := by simpa using hb
      cases r with
      | nil => simp at hc
      | cons d s =>
        obtain rfl : d = c := by simpa using hc
        simp [upFrom] at h1
        exact ⟨h1.1.2.1, h1.1.2.2⟩
    | succ i => exact up_of r _ h1 i b c (by simpa using hb) (by simpa using hc)
theorem up_notless {l : List (List UInt8)} {x : List UInt8} (h : Up l) : ∀ (t : Nat) (a : List UInt8), cntB x l ≤ t → l[t]? = some a → Op.bytesLess a x = false := by
  intro t
  induction t with
  | zero =>
    intro a ht ha
    obtain h0 : cntB x l = 0 := by omega
    exact cntB_at x l a (by rw [h0]; exact ha)
  | succ t ih =>
    intro a ht ha
    by_cases he : cntB x l = t + 1
    · exact cntB_at x l a (by rw [he]; exact ha)
    · obtain ⟨b, hb⟩ : ∃ b, l[t]? = some b := ⟨_, List.getElem?_eq_getElem (by have := (List.getElem?_eq_some_iff.1 ha).1; omega)⟩
      have h1 := ih b (by omega) hb
      obtain ⟨h2, h3⟩ := h t b a hb ha
      have t1 := Tr.b b a x
      rcases bytes_tri b a with ⟨_, e1⟩ | ⟨_, e1, _⟩ | ⟨_, _, e1⟩
      · rcases bytes_tri a x with ⟨e0, e2⟩ | ⟨e2, _, _⟩ | ⟨e2, _, _⟩
        · rcases bytes_tri b x with ⟨e3, _⟩ | ⟨_, _, e3⟩ | ⟨_, _, e3⟩
          · rw [h1] at e3; cases e3
          · exfalso; simp only [Tr] at t1; omega
          · exfalso; simp only [Tr] at t1; omega
        · exact e2
        · exact e2
      · exact absurd e1.symm h3
      · exfalso
        have e2 := cmpB_neg b a
        unfold cmpB at e2 e1
        rw [h2] at e1 e2
        split at e1 <;> simp_all
theorem bsGo_to (less : Nat → Bool) (k N : Nat) (h1 : ∀ t, t < k → less t = true) (h2 : ∀ t, k ≤ t → t < N → less t = false) : ∀ (f lo hi : Nat), hi - lo ≤ f → lo ≤ k → k ≤ hi → hi ≤ N → Lib.bsGo less f lo hi = k
  | 0, lo, hi, hf, a, b, _ => by simp [Lib.bsGo]; omega
  | f + 1, lo, hi, hf, a, b, c => by
    unfold Lib.bsGo
    by_cases h : lo < hi
    · rw [if_pos h]
      by_cases hm : (lo + hi) / 2 < k
      · rw [h1 _ hm, if_pos rfl]; exact bsGo_to less k N h1 h2 f _ _ (by omega) (by omega) b c
      · rw [h2 _ (by omega) (by omega)]; exact bsGo_to less k N h1 h2 f _ _ (by omega) a (by omega) (by omega)
    · rw [if_neg h]; omega
theorem bsI_up {l : List (List UInt8)} (x : List UInt8) (h : Up l) : bsI l x = cntB x l := by
  unfold bsI
  refine bsGo_to _ _ l.length (fun t ht => ?_) (fun t ht htl => ?_) _ _ _ (by omega) (by omega) (cntB_le x l) (Nat.le_refl _)
  · obtain ⟨a, ha, hx⟩ := cntB_lt x l t ht
    simp only [ha, Option.getD_some, str_toList, hx]
  · have ha : l[t]? = some l[t] := List.getElem?_eq_getElem htl
    simp only [ha, Option.getD_some, str_toList]
    exact up_notless h t _ ht ha
theorem str_inj {a b : List UInt8} (h : str a = str b) : a = b := by rw [← str_toList a, h, str_toList]
theorem found_eq (l : List (List UInt8)) (x : List UInt8) : decide (cntB x l < l.length ∧ str (l[cntB x l]?.getD []) = str x) = decide (hitB x l = 1) := by
  unfold hitB
  by_cases h : l[cntB x l]? = some x
  · rw [if_pos h, h]
    have := (List.getElem?_eq_some_iff.1 h).1
    simp [this]
  · rw [if_neg h]
    have : ¬ (cntB x l < l.length ∧ str (l[cntB x l]?.getD []) = str x) := fun ⟨h1, h2⟩ => by
      have e : l[cntB x l]? = some l[cntB x l] := List.getElem?_eq_getElem h1
      rw [e, Option.getD_some] at h2
      exact h (e.trans (congrArg some (str_inj h2)))
    simp [this]
theorem hitB_le (x : List UInt8) (l : List (List UInt8)) : cntB x l + hitB x l ≤ l.length ∧ hitB x l ≤ 1 := by
  unfold hitB
  split
  · rename_i h
    have := (List.getElem?_eq_some_iff.1 h).1
    omega
  · have := cntB_le x l; omega
theorem layL_hit {l : List (List UInt8)} {x : List UInt8} (h : hitB x l = 1) : layL l (cntB x l) 1 x = l := by
  unfold hitB at h
  split at h
  · rename_i hh
    obtain ⟨h1, h2⟩ := List.getElem?_eq_some_iff.1 hh
    unfold layL
    have e := List.drop_eq_getElem_cons h1
    rw [h2] at e
    rw [List.append_assoc, List.singleton_append, ← e, List.take_append_drop]
  · cases h
theorem layL_len {l : List (List UInt8)} {i d : Nat} {x : List UInt8} (h : i + d ≤ l.length) : (layL l i d x).length = l.length + 1 - d := by
  simp only [layL, List.length_append, List.length_take, List.length_drop, List.length_singleton]; omega
theorem F.app_len : ∀ f g : F, (f.app g).len = f.len + g.len
  | .nil, g => by simp [F.app, F.len]
  | .cons n k r, g => by have := F.app_len r g; simp only [F.app, F.len, this]; omega
theorem F.drop_length : ∀ (f : F) (i : Nat), (f.drop i).len = f.len - i
  | f, 0 => by rw [F.drop0]; omega
  | .nil, i + 1 => by simp [F.drop, F.len]
  | .cons n k r, i + 1 => by have := F.drop_length r i; simp only [F.drop, F.len, this]; omega
theorem layF_len {k : F} {i d : Nat} {m : Nd} {q : F} (h : i + d ≤ k.len) : (layF k i d m q).len = k.len + 1 - d := by
  simp only [layF, F.app_len, F.take_len k i (by omega), F.drop_length, F.len]; omega
theorem Kc.append {w : World} {S : Nat → Prop} : ∀ (f g : F) (cs ds : List Value), Kc w S f cs → Kc w S g ds → Kc w S (f.app g) (cs ++ ds)
  | .nil, g, cs, ds, h, h' => by rw [show cs = [] from h]; exact h'
  | .cons n k r, g, cs, ds, h, h' => by
    obtain ⟨An, cn, Ak, ck, cs', ks, e, ho, h1, h2, hn, hr, hkk, hrr⟩ := h
    exact ⟨An, cn, Ak, ck, cs' ++ ds, ks, by rw [e, List.append_assoc], ho, h1, h2, hn, hr, hkk, Kc.append r g cs' ds hrr h'⟩
theorem Kc.take {w : World} {S : Nat → Prop} : ∀ (f : F) (i : Nat) (cs : List Value), Kc w S f cs → Kc w S (f.take i) (cs.take (i * 6))
  | f, 0, cs, h => by rw [F.take_zero]; simp [Kc]
  | .nil, i + 1, cs, h => by rw [show cs = [] from h]; simp [F.take, Kc]
  | .cons n k r, i + 1, cs, h => by
    obtain ⟨An, cn, Ak, ck, cs', ks, e, ho, h1, h2, hn, hr, hkk, hrr⟩ := h
    refine ⟨An, cn, Ak, ck, cs'.take (i * 6), ks, ?_, ho, h1, h2, hn, hr, hkk, Kc.take r i cs' hrr⟩
    rw [e, List.take_append, List.take_of_length_le (by simp [ncells]; omega)]
    congr 1
    congr 1
    simp [ncells]; omega
theorem Kc.drop {w : World} {S : Nat → Prop} : ∀ (f : F) (i : Nat) (cs : List Value), Kc w S f cs → Kc w S (f.drop i) (cs.drop (i * 6))
  | f, 0, cs, h => by rw [F.drop0]; simpa using h
  | .nil, i + 1, cs, h => by rw [show cs = [] from h]; simp [F.drop, Kc]
  | .cons n k r, i + 1, cs, h => by
    obtain ⟨An, cn, Ak, ck, cs', ks, e, ho, h1, h2, hn, hr, hkk, hrr⟩ := h
    have := Kc.drop r i cs' hrr
    rw [e, List.drop_append, List.drop_of_length_le (by simp [ncells]; omega), List.nil_append, show (i + 1) * 6 - (ncells n An cn Ak k.len ck).length = i * 6 by simp [ncells]; omega]
    exact this
theorem Kc.lay {w : World} {S : Nat → Prop} {k : F} {xs ys : List Value} {m : Nd} {q : F} (i d : Nat) (h : Kc w S k xs) (hy : Kc w S (.cons m q .nil) ys) : Kc w S (layF k i d m q) (lay6 xs i d ys) := by
  unfold layF lay6
  rw [List.append_assoc]
  exact Kc.append _ _ _ _ (Kc.take k i xs h) (Kc.append _ _ _ _ hy (Kc.drop k (i + d) xs h))
theorem kc_one {w : World} {S : Nat → Prop} {m : Nd} {q : F} {An : Option Addr} {cn : Nat} {Ak : Option Addr} {ck : Nat} (h : Vo w S m q (.agg (ncells m An cn Ak q.len ck).toArray)) : Kc w S (.cons m q .nil) (ncells m An cn Ak q.len ck) := by
  obtain ⟨Bn, dn, Bk, dk, e, hok, h1, h2, hn, ks, hrr, hk⟩ := h
  have e' : ncells m An cn Ak q.len ck = ncells m Bn dn Bk q.len dk := by simpa using e
  exact ⟨Bn, dn, Bk, dk, [], ks, by rw [e', List.append_nil], hok, h1, h2, hn, hrr, hk, rfl⟩
theorem lay6_chunk {xs ys : List Value} {i d k : Nat} (hl : xs.length = k * 6) (hy : ys.length = 6) (hi : i + d ≤ k) (j : Nat) :
    chunk (lay6 xs i d ys) j = if j < i then chunk xs j else if j = i then ys else chunk xs (j - 1 + d) := by
  have ht : (xs.take (i * 6)).length = i * 6 := by rw [List.length_take]; omega
  unfold lay6
  split
  · rename_i h
    rw [List.append_assoc, chunk_append ht h, chunk_take h]
  · split
    · rename_i h1 h2
      subst h2
      unfold chunk
      rw [List.append_assoc, List.drop_left' ht, List.take_left' hy]
    · unfold chunk
      have e1 : (xs.take (i * 6) ++ ys).length = i * 6 + 6 := by rw [List.length_append, ht, hy]
      rw [List.drop_append, e1, List.drop_of_length_le (by omega), List.nil_append, List.drop_drop]
      congr 2
      omega
theorem DpL.lay {S : Nat → Prop} {w : World} {k d0 : Nat} {xs ys : List Value} (i d : Nat) (h : DpL S w k xs) (hl : xs.length = k * 6) (hy : ys.length = 6) (hd : Dp S w d0 ys) (hi : i + d ≤ k) (hd1 : d ≤ 1) : DpL S w (k + 1 - d) (lay6 xs i d ys) := by
  obtain ⟨e, h⟩ := h
  refine ⟨max e d0, fun j hj => ?_⟩
  rw [lay6_chunk hl hy hi]
  split
  · exact Dp.more _ _ _ (by omega) (h j (by omega))
  · split
    · exact Dp.more _ _ _ (by omega) hd
    · exact Dp.more _ _ _ (by omega) (h _ (by omega))
theorem ins6 {xs ys : List Value} {i : Nat} : insL 6 i xs ys = lay6 xs i 0 ys := rfl
theorem ins1 {l : List (List UInt8)} {x : List UInt8} {i : Nat} : insL 1 i (l.map sv) [sv x] = (layL l i 0 x).map sv := by
  simp [insL, layL, List.map_take, List.map_drop]
end Go.Proofs.Ytfcbcbpnlnkpcaa
