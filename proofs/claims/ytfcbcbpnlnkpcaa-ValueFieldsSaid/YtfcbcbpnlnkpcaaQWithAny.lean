/- value.With and scrivenerref5.With at any values; a laid field is found again. -/
import Derived.Test.YtfcbcbpnlnkpcaaQWithA
import Derived.Test.YtfcbcbpnlnkpcaaQWithH
import Derived.Test.YtfcbcbpnlnkpcaaQWithM
import Derived.Test.YtfcbcbpnlnkpcaaQRwith
import Derived.Test.YtfcbcbpnlnkpcaaQRfield
namespace Go.Proofs.Ytfcbcbpnlnkpcaa
set_option linter.all false
open Go.RowKit
theorem chk9 {n : Nd} {k : F} (h : chk n k 1 = 0) (h9 : n.kind = 9) : Up n.names ∧ n.names.length = k.len ∧ k.len ≤ 200 := by
  unfold chk at h
  rw [if_neg (by omega)] at h
  by_cases hn : nerr n k.len = 0
  · unfold nerr at hn
    split at hn
    · cases hn
    · split at hn
      · cases hn
      · rename_i h2
        split at hn
        · cases hn
        · rename_i h3
          have hf : fieldsOk n.names k.len = true := by
            rcases hb : fieldsOk n.names k.len with _ | _
            · exact absurd ⟨h9, hb⟩ h3
            · rfl
          unfold fieldsOk at hf
          simp only [Bool.and_eq_true, decide_eq_true_eq] at hf
          exact ⟨up_of _ _ hf.1, hf.2, by omega⟩
  · rw [if_pos hn] at h
    exact absurd h hn
theorem With_any (n : Nd) (k : F) (m : Nd) (q : F) (v u : Value) (x : List UInt8) (w : World) (hw0 : cost n + wtF k ≤ 2500) (hw1 : cost m + wtF q ≤ 2500) (hx : x.length ≤ 500) (hv : Vo w (· < w.heap.size) n k v) (hu : Vo w (· < w.heap.size) m q u) :
    Calls Try.prog 21 #[v, .string (str x), u] w (RetW (withV n k x m q) w) := by
  by_cases h1 : chk n k 1 = 0
  · by_cases h9 : n.kind = 9
    · by_cases h3 : chk m q 1 = 0
      · obtain ⟨c1, c2, c3⟩ := chk9 h1 h9
        by_cases hh : hitB x n.names = 1
        · exact with_hit n k m q v u x w hw0 hw1 hx hv hu h1 h9 h3 c1 c2 c3 hh
        · exact with_miss n k m q v u x w hw0 hw1 hx hv hu h1 h9 h3 c1 c2 c3 (by have := (hitB_le x n.names).2; omega)
      · exact with_3 n k m q v u x w hw0 hw1 hx hv hu h1 h9 h3
    · exact with_2 n k m q v u x w hw0 hw1 hx hv hu h1 h9
  · exact with_1 n k m q v u x w hw0 hw1 hx hv hu h1
theorem RWith_any (n : Nd) (k : F) (m : Nd) (q : F) (v u : Value) (x : List UInt8) (w : World) (hw0 : cost n + wtF k ≤ 2500) (hw1 : cost m + wtF q ≤ 2500) (hx : x.length ≤ 500) (hv : Vo w (· < w.heap.size) n k v) (hu : Vo w (· < w.heap.size) m q u) :
    Calls Try.prog 22 #[v, .string (str x), u] w (RetR (withV n k x m q) w) := by
  by_cases h1 : chk n k 1 = 0
  · by_cases h9 : n.kind = 9
    · by_cases h3 : chk m q 1 = 0
      · obtain ⟨_, c2, c3⟩ := chk9 h1 h9
        exact rwith_4 n k m q v u x w hw0 hw1 hx hv hu h1 h9 h3 c2 c3
      · exact rwith_3 n k m q v u x w hw0 hw1 hx hv hu h1 h9 h3
    · exact rwith_2 n k m q v u x w hw0 hw1 hx hv hu h1 h9
  · exact rwith_1 n k m q v u x w hw0 hw1 hx hv hu h1
theorem less_irrefl (x : List UInt8) : Op.bytesLess x x = false := by
  rcases bytes_tri x x with ⟨_, h⟩ | ⟨h, _⟩ | ⟨h, _⟩
  · rw [cmpB_self] at h; cases h
  · exact h
  · exact h
theorem idxS_at (x : List UInt8) (r : List (List UInt8)) : ∀ (l : List (List UInt8)) (s : Nat), (∀ a ∈ l, a ≠ x) → idxS x (l ++ x :: r) s = ((s + l.length : Nat) : Int)
  | [], s, _ => by simp [idxS]
  | a :: l, s, h => by
    have h1 : a ≠ x := h a (List.mem_cons_self ..)
    have := idxS_at x r l (s + 1) (fun b hb => h b (List.mem_cons_of_mem _ hb))
    show (if x = a then (s : Int) else idxS x (l ++ x :: r) (s + 1)) = _
    rw [if_neg (fun e => h1 e.symm), this, List.length_cons]
    congr 1
    omega
theorem F.get_app (m : Nd) (q r : F) : ∀ f : F, (f.app (.cons m q r)).get f.len = some (m, q)
  | .nil => rfl
  | .cons n k s => by have := F.get_app m q r s; simpa [F.app, F.len, F.get] using this
theorem fieldV_lay {n : Nd} {k : F} {x : List UInt8} {m : Nd} {q : F} (h9 : n.kind = 9) (hl : n.names.length = k.len) : fieldV (layN n x) (layK n k x m q) x = some (m, q) := by
  have hc := cntB_le x n.names
  have hi : idxS x (layN n x).names 0 = ((cntB x n.names : Nat) : Int) := by
    show idxS x (layL n.names _ _ x) 0 = _
    unfold layL
    rw [List.append_assoc, List.singleton_append, idxS_at]
    · rw [List.length_take]; congr 1; omega
    · intro a ha e
      subst e
      obtain ⟨t, ht, e⟩ := List.mem_iff_getElem.1 ha
      have ht' : t < cntB a n.names := by rw [List.length_take] at ht; omega
      obtain ⟨b, hb, hlt⟩ := cntB_lt a n.names t ht'
      have : b = a := by
        rw [List.getElem_take] at e
        rw [List.getElem?_eq_getElem (by omega)] at hb
        injection hb with hb
        exact hb.symm.trans e
      subst this
      rw [less_irrefl] at hlt
      cases hlt
  unfold fieldV
  rw [hi, if_pos ⟨h9, by omega⟩, Int.toNat_natCast]
  unfold layK layF
  have := F.get_app m q (k.drop (cntB x n.names + hitB x n.names)) (k.take (cntB x n.names))
  rw [F.take_len k _ (by omega)] at this
  exact this
theorem wtF_app : ∀ f g : F, wtF (f.app g) = wtF f + wtF g
  | .nil, g => by simp [F.app, wtF]
  | .cons n k r, g => by have := wtF_app r g; simp only [F.app, wtF, this]; omega
theorem wtF_drop : ∀ (f : F) (i : Nat), wtF (f.drop i) ≤ wtF f
  | f, 0 => by rw [F.drop0]; exact Nat.le_refl _
  | .nil, i + 1 => Nat.le_refl _
  | .cons n k r, i + 1 => by have := wtF_drop r i; simp only [F.drop, wtF]; omega
theorem wtF_split : ∀ (f : F) (i d : Nat), wtF (f.take i) + wtF (f.drop (i + d)) ≤ wtF f
  | f, 0, d => by rw [F.take_zero, Nat.zero_add]; have := wtF_drop f d; simp only [wtF]; omega
  | .nil, i + 1, d => by rw [show i + 1 + d = (i + d) + 1 by omega]; simp [F.take, F.drop, wtF]
  | .cons n k r, i + 1, d => by have := wtF_split r i d; rw [show i + 1 + d = (i + d) + 1 by omega]; simp only [F.take, F.drop, wtF]; omega
theorem wtF_lay {k : F} {i d : Nat} {m : Nd} {q : F} : wtF (layF k i d m q) ≤ wtF k + (cost m + wtF q) := by
  have := wtF_split k i d
  unfold layF
  simp only [wtF_app, wtF]
  omega
/-- A value that a call has answered is stored in a new box. -/
theorem st_put {w W : World} {L : List BP} (h : St w L W) {n : Nd} {k : F} {An : Option Addr} {cn : Nat} {Ak : Option Addr} {ck : Nat} (hv : Vo W (· < W.heap.size) n k (.agg (ncells n An cn Ak k.len ck).toArray)) {W' : World}
    (hW : ((((((W.alloc (.cells #[.int .i64 0, .int .i64 0, .int .i64 0, .string ⟨#[]⟩, .slice none 0 0, .slice none 0 0] 25)).setCell ⟨W.heap.size, 0, none⟩ (.int .i64 n.kind)).setCell ⟨W.heap.size, 1, none⟩ (.int .i64 n.int)).setCell ⟨W.heap.size, 2, none⟩ (.int .i64 n.scale)).setCell ⟨W.heap.size, 3, none⟩ (.string (str n.text))).setCell ⟨W.heap.size, 4, none⟩ (.slice An n.names.length cn)).setCell ⟨W.heap.size, 5, none⟩ (.slice Ak k.len ck) = W') :
    St w (L ++ [⟨W.heap.size, n, k, An, cn, Ak, ck⟩]) W' ∧ Below W.heap.size W W' := by
  have hB : Below W.heap.size W W' := by
    rw [← hW]
    exact ((((((Below.refl W.heap.size W).alloc (Nat.le_refl _) _).setCell (Nat.le_refl _) _).setCell (Nat.le_refl _) _).setCell (Nat.le_refl _) _).setCell (Nat.le_refl _) _).setCell (Nat.le_refl _) _ |>.setCell (Nat.le_refl _) _
  refine ⟨h.snoc hB ⟨?_, hv.keep (fun b hb => hB.block b hb) (fun b hb => Nat.lt_of_lt_of_le hb hB.size)⟩, hB⟩
  rw [← hW]
  exact Blk.put6 (Blk.new W _ _)
theorem soft_below {S : Nat → Prop} {W W' : World} {B : Nat} (h : Soft S W W') (hS : ∀ b, S b → B ≤ b) (hB : B ≤ W.heap.size) : Below B W W' :=
  ⟨h.1, h.2.1, h.2.2.1, h.2.2.2.1, fun i hi => h.2.2.2.2.1 i (Nat.lt_of_lt_of_le hi hB) (fun hs => by have := hS i hs; omega)⟩
theorem st_four {w W : World} {b0 b1 b2 b3 : BP} (hB : Below w.heap.size w W) (h0 : Bx W b0) (h1 : Bx W b1) (h2 : Bx W b2) (h3 : Bx W b3) : St w [b0, b1, b2, b3] W := by
  refine ⟨hB, hB.size, fun i b h => ?_⟩
  obtain rfl | rfl | rfl | rfl | hi : i = 0 ∨ i = 1 ∨ i = 2 ∨ i = 3 ∨ 4 ≤ i := by omega
  · obtain rfl : b0 = b := by simpa using h
    exact h0
  · obtain rfl : b1 = b := by simpa using h
    exact h1
  · obtain rfl : b2 = b := by simpa using h
    exact h2
  · obtain rfl : b3 = b := by simpa using h
    exact h3
  · rw [List.getElem?_eq_none (by simpa using hi)] at h
    cases h
/-- Behind the two copies. -/
def VF3 (w : World) (n : Nd) (k : F) (An : Option Addr) (cn : Nat) (Ak : Option Addr) (ck : Nat) (m : Nd) (q : F) (Bn : Option Addr) (dn : Nat) (Bk : Option Addr) (dk : Nat) (s7 s8 : Value) (wx : World) : Prop :=
  ∃ (g7 g8 : Nat) (Cn : Option Addr) (en : Nat) (Ck : Option Addr) (ek : Nat) (Dn : Option Addr) (fn : Nat) (Dk : Option Addr) (fk : Nat), s7 = .pointer (some ⟨g7, 0, none⟩) ∧ s8 = .pointer (some ⟨g8, 0, none⟩) ∧
    St w [⟨w.heap.size, n, k, An, cn, Ak, ck⟩, ⟨w.heap.size + 1, m, q, Bn, dn, Bk, dk⟩, ⟨g7, n, k, Cn, en, Ck, ek⟩, ⟨g8, m, q, Dn, fn, Dk, fk⟩] wx
end Go.Proofs.Ytfcbcbpnlnkpcaa
