/- What stands between the steps of value.With. -/
import Derived.Test.YtfcbcbpnlnkpcaaQWithp
import Derived.Test.YtfcbcbpnlnkpcaaQInsS
import Derived.Test.YtfcbcbpnlnkpcaaQInsV
import Derived.Test.YtfcbcbpnlnkpcaaQBoxes
namespace Go.Proofs.Ytfcbcbpnlnkpcaa
set_option linter.all false
open Go.RowKit
def ApI (a b : Nat) (vn vk : Value) : Nat → Prop := fun i => a ≤ i ∧ i < b ∧ vn.ownBlock ≠ some i ∧ vk.ownBlock ≠ some i
/-- A value whose rows lie in the blocks from a up to b; its own two rows apart from its kids' ones. -/
def OwnI (W : World) (a b : Nat) (n : Nd) (k : F) (An : Option Addr) (cn : Nat) (Ak : Option Addr) (ck : Nat) (xs : List Value) : Prop :=
  (n.ok ∧ okl n.names.length cn ∧ okl k.len ck) ∧ W.ownsRow a 9 1 (.slice An n.names.length cn) n.names.length (n.names.map sv) ∧ W.ownsRow a 25 6 (.slice Ak k.len ck) k.len xs ∧
  (∀ g, (Value.slice An n.names.length cn).ownBlock = some g → g < b) ∧ (∀ g, (Value.slice Ak k.len ck).ownBlock = some g → g < b) ∧
  Kc W (ApI a b (.slice An n.names.length cn) (.slice Ak k.len ck)) k xs ∧ DpL (ApI a b (.slice An n.names.length cn) (.slice Ak k.len ck)) W k.len xs ∧ b ≤ W.heap.size
theorem OwnI.keep {W W' : World} {a b : Nat} {n : Nd} {k : F} {An : Option Addr} {cn : Nat} {Ak : Option Addr} {ck : Nat} {xs : List Value} (h : OwnI W a b n k An cn Ak ck xs) (hb : ∀ i, a ≤ i → i < b → W'.heap[i]? = W.heap[i]?) (hs : W.heap.size ≤ W'.heap.size) : OwnI W' a b n k An cn Ak ck xs := by
  obtain ⟨h1, h2, h3, h4, h5, h6, h7, h8⟩ := h
  exact ⟨h1, own_blk h2 (fun g hg => hb g (h2.lt g hg).1 (h4 g hg)), own_blk h3 (fun g hg => hb g (h3.lt g hg).1 (h5 g hg)), h4, h5, Kc.keep (fun i hi => hb i hi.1 hi.2.1) (fun _ h => h) _ _ h6, h7.keep (fun i hi => hb i hi.1 hi.2.1) (fun _ h => h), Nat.le_trans h8 hs⟩
theorem OwnI.below {W W' : World} {a b : Nat} {n : Nd} {k : F} {An : Option Addr} {cn : Nat} {Ak : Option Addr} {ck : Nat} {xs : List Value} (h : OwnI W a b n k An cn Ak ck xs) (hb : Below W.heap.size W W') : OwnI W' a b n k An cn Ak ck xs :=
  h.keep (fun i _ hi => hb.block i (Nat.lt_of_lt_of_le hi h.2.2.2.2.2.2.2)) hb.size
theorem OwnI.set {W : World} {a b g o : Nat} {u : Value} {n : Nd} {k : F} {An : Option Addr} {cn : Nat} {Ak : Option Addr} {ck : Nat} {xs : List Value} (h : OwnI W a b n k An cn Ak ck xs) (hg : g < a ∨ b ≤ g) : OwnI (W.setCell ⟨g, o, none⟩ u) a b n k An cn Ak ck xs :=
  h.keep (fun i h1 h2 => Below.heap_setCell _ _ _ _ (show i ≠ g by omega)) (by simp)
theorem OwnI.six {W : World} {a b g : Nat} {v0 v1 v2 v3 v4 v5 : Value} {n : Nd} {k : F} {An : Option Addr} {cn : Nat} {Ak : Option Addr} {ck : Nat} {xs : List Value} (h : OwnI W a b n k An cn Ak ck xs) (hg : g < a ∨ b ≤ g) :
    OwnI ((((((W.setCell ⟨g, 0, none⟩ v0).setCell ⟨g, 1, none⟩ v1).setCell ⟨g, 2, none⟩ v2).setCell ⟨g, 3, none⟩ v3).setCell ⟨g, 4, none⟩ v4).setCell ⟨g, 5, none⟩ v5) a b n k An cn Ak ck xs :=
  (((((h.set hg).set hg).set hg).set hg).set hg).set hg
theorem Blk.six_other {W : World} {g g' : Nat} {cs : Array Value} {T : TypeId} {v0 v1 v2 v3 v4 v5 : Value} (h : Blk W g cs T) (hg : g ≠ g') :
    Blk ((((((W.setCell ⟨g', 0, none⟩ v0).setCell ⟨g', 1, none⟩ v1).setCell ⟨g', 2, none⟩ v2).setCell ⟨g', 3, none⟩ v3).setCell ⟨g', 4, none⟩ v4).setCell ⟨g', 5, none⟩ v5) g cs T :=
  (((((h.set_other 0 _ hg).set_other 1 _ hg).set_other 2 _ hg).set_other 3 _ hg).set_other 4 _ hg).set_other 5 _ hg
theorem below_six {w W : World} {g : Nat} {v0 v1 v2 v3 v4 v5 : Value} (h : Below w.heap.size w W) (hg : w.heap.size ≤ g) :
    Below w.heap.size w ((((((W.setCell ⟨g, 0, none⟩ v0).setCell ⟨g, 1, none⟩ v1).setCell ⟨g, 2, none⟩ v2).setCell ⟨g, 3, none⟩ v3).setCell ⟨g, 4, none⟩ v4).setCell ⟨g, 5, none⟩ v5) :=
  (((((h.setCell hg _).setCell hg _).setCell hg _).setCell hg _).setCell hg _).setCell hg _
theorem RetO.ownI {n : Nd} {k : F} {w : World} {e : Ending} {w' : World} (h : RetO n k w e w') : ∃ An cn Ak ck xs, e = .returned (.agg (ncells n An cn Ak k.len ck).toArray) ∧ OwnI w' w.heap.size w'.heap.size n k An cn Ak ck xs ∧ Below w.heap.size w w' := by
  obtain ⟨An, cn, Ak, ck, xs, rfl, ho, h1, h2, hn, hk, hc, hd, hb⟩ := h
  exact ⟨An, cn, Ak, ck, xs, rfl, ⟨⟨ho, h1, h2⟩, hn, hk, fun g hg => (hn.lt g hg).2, fun g hg => (hk.lt g hg).2, hc, hd, Nat.le_refl _⟩, hb⟩
abbrev zero6 : Array Value := #[.int .i64 0, .int .i64 0, .int .i64 0, .string ⟨#[]⟩, .slice none 0 0, .slice none 0 0]
/-- Behind the two copies: the copy of v in a box g, the copy of x in x's own box. -/
def With9 (w : World) (n : Nd) (k : F) (m : Nd) (q : F) (s : Value) (wx : World) : Prop :=
  ∃ (g a b c d : Nat) (An : Option Addr) (cn : Nat) (Ak : Option Addr) (ck : Nat) (xs : List Value) (Bn : Option Addr) (dn : Nat) (Bk : Option Addr) (dk : Nat) (ys : List Value), s = .pointer (some ⟨g, 0, none⟩) ∧
    (w.heap.size + 2 < g ∧ w.heap.size + 2 < a ∧ a ≤ b ∧ b ≤ c ∧ (g < a ∨ b ≤ g) ∧ (g < c ∨ d ≤ g)) ∧ Below w.heap.size w wx ∧ Blk wx g (ncells n An cn Ak k.len ck).toArray 25 ∧ Blk wx (w.heap.size + 1) (ncells m Bn dn Bk q.len dk).toArray 25 ∧
    Blk wx (w.heap.size + 2) zero6 25 ∧ OwnI wx a b n k An cn Ak ck xs ∧ OwnI wx c d m q Bn dn Bk dk ys
/-- Behind the field's laying: the new struct in the box g. -/
def With14 (w : World) (n : Nd) (k : F) (s : Value) (wx : World) : Prop :=
  ∃ (g : Nat) (An : Option Addr) (cn : Nat) (Ak : Option Addr) (ck d : Nat), s = .pointer (some ⟨g, 0, none⟩) ∧ w.heap.size + 2 < g ∧ Below w.heap.size w wx ∧ Blk wx g (ncells n An cn Ak k.len ck).toArray 25 ∧ Blk wx (w.heap.size + 2) zero6 25 ∧
    Vo wx (Fresh (w.heap.size + 3) wx.heap.size) n k (.agg (ncells n An cn Ak k.len ck).toArray) ∧ Dp (Fresh (w.heap.size + 3) wx.heap.size) wx d (ncells n An cn Ak k.len ck)
/-- Behind value.With: a value in memory of its own, which may be written over; the error. -/
def RetW (r : Nat × Nd × F) (w : World) (e : Ending) (w' : World) : Prop :=
  ∃ (cs : List Value) (d : Nat), e = .returned (.tuple #[.agg cs.toArray, .int .i64 (r.1 : Int)]) ∧ Vo w' (Fresh w.heap.size w'.heap.size) r.2.1 r.2.2 (.agg cs.toArray) ∧ Dp (Fresh w.heap.size w'.heap.size) w' d cs ∧ Below w.heap.size w w'
/-- The copies' values as such. -/
theorem OwnI.vo {W : World} {a b : Nat} {n : Nd} {k : F} {An : Option Addr} {cn : Nat} {Ak : Option Addr} {ck : Nat} {xs : List Value} (h : OwnI W a b n k An cn Ak ck xs) : Vo W (fun i => a ≤ i ∧ i < b) n k (.agg (ncells n An cn Ak k.len ck).toArray) := by
  obtain ⟨⟨h1, h1', h1''⟩, h2, h3, h4, h5, h6, h7, h8⟩ := h
  have f : ∀ {T : TypeId} {sz nn c : Nat} {A : Option Addr} {zs : List Value}, W.ownsRow a T sz (.slice A nn c) nn zs → (∀ g, (Value.slice A nn c).ownBlock = some g → g < b) → RdS W (fun i => a ≤ i ∧ i < b) sz A nn zs := fun ho hb => by
    have hr := rdS_of_own ho
    refine ⟨hr.1, fun hn => ?_⟩
    obtain ⟨g, off, hA, hg, hc⟩ := hr.2 hn
    exact ⟨g, off, hA, ⟨hg.1, hb g (by simp [Value.ownBlock, hA])⟩, hc⟩
  exact ⟨An, cn, Ak, ck, rfl, h1, h1', h1'', f h2 h4, xs, f h3 h5, Kc.keep (fun _ _ => rfl) (fun i hi => ⟨hi.1, hi.2.1⟩) _ _ h6⟩
theorem OwnI.dp {W : World} {a b : Nat} {n : Nd} {k : F} {An : Option Addr} {cn : Nat} {Ak : Option Addr} {ck : Nat} {xs : List Value} (h : OwnI W a b n k An cn Ak ck xs) : ∃ d, Dp (fun i => a ≤ i ∧ i < b) W d (ncells n An cn Ak k.len ck) := by
  obtain ⟨⟨h1, h1', h1''⟩, h2, h3, h4, h5, h6, h7, h8⟩ := h
  exact Dp.of_own h1' h1'' h2 h3 (h7.keep (fun _ _ => rfl) (fun i hi => ⟨hi.1, hi.2.1⟩)) (fun g hg => ⟨(h2.lt g hg).1, h4 g hg⟩) (fun g hg => ⟨(h3.lt g hg).1, h5 g hg⟩)
theorem nd_ok_lay {n : Nd} {x : List UInt8} {i d : Nat} (h : n.ok) (hx : x.length ≤ 140737488351232) : (⟨n.kind, n.int, n.scale, n.text, layL n.names i d x⟩ : Nd).ok := by
  obtain ⟨h1, h2, h3, h4, h5⟩ := h
  refine ⟨h1, h2, h3, h4, fun s hs => ?_⟩
  simp only [layL, List.mem_append, List.mem_singleton] at hs
  rcases hs with (hs | hs) | hs
  · exact h5 s (List.mem_of_mem_take hs)
  · rw [hs]; exact hx
  · exact h5 s (List.mem_of_mem_drop hs)
theorem vo_own_at {w' : World} {base : Nat} {n : Nd} {k : F} {An Ak : Option Addr} {cn ck : Nat} {xs : List Value} {S : Nat → Prop} (ho : n.ok) (h1 : okl n.names.length cn) (h2 : okl k.len ck) (hn : w'.ownsRow base 9 1 (.slice An n.names.length cn) n.names.length (n.names.map sv))
    (hk : w'.ownsRow base 25 6 (.slice Ak k.len ck) k.len xs) (hc : Kc w' S k xs) (hS : ∀ b, S b → base ≤ b ∧ b < w'.heap.size) : Vo w' (Fresh base w'.heap.size) n k (.agg (ncells n An cn Ak k.len ck).toArray) :=
  ⟨An, cn, Ak, ck, rfl, ho, h1, h2, rdS_of_own hn, xs, rdS_of_own hk, Kc.keep (fun _ _ => rfl) hS _ _ hc⟩
/-- A struct laid: rows of its own, kids out of two sets. -/
theorem lay14 {w wx : World} {n' : Nd} {k k' : F} {m : Nd} {q : F} {g i d cn ck dn dk : Nat} {An Ak Bn Bk : Option Addr} {xs : List Value} {Sx Sy : Nat → Prop} (hB : Below w.heap.size w wx) (hg : w.heap.size + 2 < g) (hz : Blk wx (w.heap.size + 2) zero6 25)
    (hG : Blk wx g (ncells n' An cn Ak k'.len ck).toArray 25) (hk' : k' = layF k i d m q) (hid : i + d ≤ k.len) (hd1 : d ≤ 1) (ho : n'.ok) (h1 : okl n'.names.length cn) (h2 : okl k'.len ck)
    (hn : wx.ownsRow (w.heap.size + 3) 9 1 (.slice An n'.names.length cn) n'.names.length (n'.names.map sv)) (hk : wx.ownsRow (w.heap.size + 3) 25 6 (.slice Ak k'.len ck) k'.len (lay6 xs i d (ncells m Bn dn Bk q.len dk)))
    (hx : Kc wx Sx k xs) (hxd : DpL Sx wx k.len xs) (hSx : ∀ b, Sx b → w.heap.size + 3 ≤ b ∧ b < wx.heap.size)
    (hy : Vo wx Sy m q (.agg (ncells m Bn dn Bk q.len dk).toArray)) {d0 : Nat} (hyd : Dp Sy wx d0 (ncells m Bn dn Bk q.len dk)) (hSy : ∀ b, Sy b → w.heap.size + 3 ≤ b ∧ b < wx.heap.size) : With14 w n' k' (.pointer (some ⟨g, 0, none⟩)) wx := by
  have hxl := Kc.len _ _ hx
  have hx' := Kc.keep (w' := wx) (S' := Fresh (w.heap.size + 3) wx.heap.size) (fun _ _ => rfl) hSx _ _ hx
  have hy' := hy.keep (w' := wx) (S' := Fresh (w.heap.size + 3) wx.heap.size) (fun _ _ => rfl) hSy
  have hkc : Kc wx (Fresh (w.heap.size + 3) wx.heap.size) k' (lay6 xs i d (ncells m Bn dn Bk q.len dk)) := by rw [hk']; exact Kc.lay i d hx' (kc_one hy')
  have hlen : k'.len = k.len + 1 - d := by rw [hk', layF_len hid]
  have hdl : DpL (Fresh (w.heap.size + 3) wx.heap.size) wx k'.len (lay6 xs i d (ncells m Bn dn Bk q.len dk)) := by
    rw [hlen]
    exact DpL.lay i d (hxd.keep (fun _ _ => rfl) hSx) hxl rfl (Dp.keep (fun _ _ => rfl) hSy _ _ hyd) hid hd1
  obtain ⟨dd, hdd⟩ := Dp.of_own (S := Fresh (w.heap.size + 3) wx.heap.size) h1 h2 hn hk hdl (fun g hg => ⟨(hn.lt g hg).1, (hn.lt g hg).2⟩) (fun g hg => ⟨(hk.lt g hg).1, (hk.lt g hg).2⟩)
  exact ⟨g, An, cn, Ak, ck, dd, rfl, hg, hB, hG, hz, vo_own_at ho h1 h2 hn hk hkc (fun _ h => h), hdd⟩
/-- What stands while the new field is laid, but for the two rows and the new struct's box. -/
def K13 (w W : World) (a b c d : Nat) (vn vk : Value) (k : F) (xs : List Value) (m : Nd) (q : F) (Dn : Option Addr) (fn : Nat) (Dk : Option Addr) (fk dd : Nat) : Prop :=
  Below w.heap.size w W ∧ Blk W (w.heap.size + 1) (ncells m Dn fn Dk q.len fk).toArray 25 ∧ Blk W (w.heap.size + 2) zero6 25 ∧ Kc W (ApI a b vn vk) k xs ∧ DpL (ApI a b vn vk) W k.len xs ∧
  Vo W (fun i => c ≤ i ∧ i < d) m q (.agg (ncells m Dn fn Dk q.len fk).toArray) ∧ Dp (fun i => c ≤ i ∧ i < d) W dd (ncells m Dn fn Dk q.len fk) ∧ b ≤ W.heap.size ∧ d ≤ W.heap.size
theorem K13.below {w W W' : World} {a b c d : Nat} {vn vk : Value} {k : F} {xs : List Value} {m : Nd} {q : F} {Dn : Option Addr} {fn : Nat} {Dk : Option Addr} {fk dd : Nat} (h : K13 w W a b c d vn vk k xs m q Dn fn Dk fk dd) (hb : Below W.heap.size W W') : K13 w W' a b c d vn vk k xs m q Dn fn Dk fk dd := by
  obtain ⟨h1, h2, h3, h4, h5, h6, h7, h8, h9⟩ := h
  have f : ∀ i, i < b → W'.heap[i]? = W.heap[i]? := fun i hi => hb.block i (Nat.lt_of_lt_of_le hi h8)
  have f' : ∀ i, i < d → W'.heap[i]? = W.heap[i]? := fun i hi => hb.block i (Nat.lt_of_lt_of_le hi h9)
  exact ⟨h1.trans (hb.mono h1.size), h2.below hb h2.lt, h3.below hb h3.lt, Kc.keep (fun i hi => f i hi.2.1) (fun _ h => h) _ _ h4, h5.keep (fun i hi => f i hi.2.1) (fun _ h => h), h6.keep (fun i hi => f' i hi.2) (fun _ h => h), Dp.keep (fun i hi => f' i hi.2) (fun _ h => h) _ _ h7, Nat.le_trans h8 hb.size, Nat.le_trans h9 hb.size⟩
/-- One block is written that is not of the kids' or of x. -/
theorem K13.grown {w W W' : World} {a b c d : Nat} {vn vk : Value} {k : F} {xs : List Value} {m : Nd} {q : F} {Dn : Option Addr} {fn : Nat} {Dk : Option Addr} {fk dd : Nat} {row : Option Nat} (h : K13 w W a b c d vn vk k xs m q Dn fn Dk fk dd) (hb : W.grownBy W' row) (hr : ∀ p, row = some p → w.heap.size + 2 < p ∧ ¬ ApI a b vn vk p ∧ (p < c ∨ d ≤ p)) : K13 w W' a b c d vn vk k xs m q Dn fn Dk fk dd := by
  obtain ⟨h1, h2, h3, h4, h5, h6, h7, h8, h9⟩ := h
  have f : ∀ i, ApI a b vn vk i → W'.heap[i]? = W.heap[i]? := fun i hi => hb.block i (Nat.lt_of_lt_of_le hi.2.1 h8) (fun e => (hr i e.symm).2.1 hi)
  have f' : ∀ i, (c ≤ i ∧ i < d) → W'.heap[i]? = W.heap[i]? := fun i hi => hb.block i (Nat.lt_of_lt_of_le hi.2 h9) (fun e => by have := (hr i e.symm).2.2; omega)
  refine ⟨⟨hb.os.trans h1.os, hb.tape.trans h1.tape, hb.output.trans h1.output, Nat.le_trans h1.size hb.size, fun i hi => (hb.block i (Nat.lt_of_lt_of_le hi h1.size) (fun e => by have := (hr i e.symm).1; omega)).trans (h1.block i hi)⟩,
    h2.grown hb (fun e => by have := (hr _ e.symm).1; omega), h3.grown hb (fun e => by have := (hr _ e.symm).1; omega), Kc.keep f (fun _ h => h) _ _ h4, h5.keep f (fun _ h => h), h6.keep f' (fun _ h => h), Dp.keep f' (fun _ h => h) _ _ h7, Nat.le_trans h8 hb.size, Nat.le_trans h9 hb.size⟩
theorem OwnI.k13 {w W : World} {a b c d : Nat} {n : Nd} {k : F} {An : Option Addr} {cn : Nat} {Ak : Option Addr} {ck : Nat} {xs : List Value} {m : Nd} {q : F} {Dn : Option Addr} {fn : Nat} {Dk : Option Addr} {fk : Nat} {ys : List Value} (hB : Below w.heap.size w W) (hX : Blk W (w.heap.size + 1) (ncells m Dn fn Dk q.len fk).toArray 25) (hR : Blk W (w.heap.size + 2) zero6 25)
    (h : OwnI W a b n k An cn Ak ck xs) (h' : OwnI W c d m q Dn fn Dk fk ys) : ∃ dd, K13 w W a b c d (.slice An n.names.length cn) (.slice Ak k.len ck) k xs m q Dn fn Dk fk dd := by
  obtain ⟨dd, hdd⟩ := h'.dp
  exact ⟨dd, hB, hX, hR, h.2.2.2.2.2.1, h.2.2.2.2.2.2.1, h'.vo, hdd, h.2.2.2.2.2.2.2, h'.2.2.2.2.2.2.2⟩
theorem Kc.one {w : World} {S : Nat → Prop} : ∀ (f : F) (cs : List Value), Kc w S f cs → ∀ u ∈ cs, u.oneCell' = true
  | .nil, cs, h, u, hu => by rw [show cs = [] from h] at hu; simp at hu
  | .cons n k r, cs, h, u, hu => by
    obtain ⟨An, cn, Ak, ck, cs', ks, e, ho, h1, h2, hn, hr, hkk, hrr⟩ := h
    rw [e, List.mem_append] at hu
    rcases hu with hu | hu
    · exact ncells_one _ _ _ _ _ _ u hu
    · exact Kc.one r cs' hrr u hu
theorem put6_list {cur : Array Value} {j : Nat} {v0 v1 v2 v3 v4 v5 : Value} (h : j * 6 + 6 ≤ cur.size) :
    ((((((cur.setIfInBounds (j * 6) v0).setIfInBounds (j * 6 + 1) v1).setIfInBounds (j * 6 + 2) v2).setIfInBounds (j * 6 + 3) v3).setIfInBounds (j * 6 + 4) v4).setIfInBounds (j * 6 + 5) v5).toList = cur.toList.take (j * 6) ++ [v0, v1, v2, v3, v4, v5] ++ cur.toList.drop (j * 6 + 6) := by
  have ht : (cur.toList.take (j * 6)).length = j * 6 := by rw [List.length_take, Array.length_toList]; omega
  refine List.ext_getElem? fun p => ?_
  rw [Array.getElem?_toList, List.append_assoc]
  by_cases h1 : p < j * 6
  · rw [List.getElem?_append_left (by omega), List.getElem?_take, if_pos h1, Array.getElem?_toList]
    rw [Array.getElem?_setIfInBounds_ne (by omega), Array.getElem?_setIfInBounds_ne (by omega), Array.getElem?_setIfInBounds_ne (by omega), Array.getElem?_setIfInBounds_ne (by omega), Array.getElem?_setIfInBounds_ne (by omega), Array.getElem?_setIfInBounds_ne (by omega)]
  · rw [List.getElem?_append_right (by omega), ht]
    by_cases h2 : p < j * 6 + 6
    · rw [List.getElem?_append_left (by simp; omega)]
      obtain ⟨e, he⟩ : ∃ e, p = j * 6 + e := ⟨p - j * 6, by omega⟩
      subst he
      rw [show j * 6 + e - j * 6 = e by omega]
      obtain rfl | rfl | rfl | rfl | rfl | rfl : e = 0 ∨ e = 1 ∨ e = 2 ∨ e = 3 ∨ e = 4 ∨ e = 5 := by omega
      all_goals simp [Array.getElem?_setIfInBounds, show j * 6 < cur.size by omega, show j * 6 + 1 < cur.size by omega, show j * 6 + 2 < cur.size by omega, show j * 6 + 3 < cur.size by omega, show j * 6 + 4 < cur.size by omega, show j * 6 + 5 < cur.size by omega]
    · rw [List.getElem?_append_right (by simp; omega), List.getElem?_drop]
      rw [Array.getElem?_setIfInBounds_ne (by omega), Array.getElem?_setIfInBounds_ne (by omega), Array.getElem?_setIfInBounds_ne (by omega), Array.getElem?_setIfInBounds_ne (by omega), Array.getElem?_setIfInBounds_ne (by omega), Array.getElem?_setIfInBounds_ne (by omega), Array.getElem?_toList]
      congr 1
      simp; omega
/-- A kid in a row is written over. -/
theorem row_put6 {cur : Array Value} {xs : List Value} {i nn : Nat} {v0 v1 v2 v3 v4 v5 : Value} (hx : cur.toList.take (nn * 6) = xs) (hs : nn * 6 ≤ cur.size) (hi : i < nn) :
    ((((((cur.setIfInBounds (i * 6) v0).setIfInBounds (i * 6 + 1) v1).setIfInBounds (i * 6 + 2) v2).setIfInBounds (i * 6 + 3) v3).setIfInBounds (i * 6 + 4) v4).setIfInBounds (i * 6 + 5) v5).toList.take (nn * 6) = lay6 xs i 1 [v0, v1, v2, v3, v4, v5] := by
  have ht : (cur.toList.take (i * 6)).length = i * 6 := by rw [List.length_take, Array.length_toList]; omega
  rw [put6_list (by omega)]
  unfold lay6
  rw [← hx, List.take_take, Nat.min_eq_left (by omega), List.take_append, List.take_of_length_le (by rw [List.length_append, ht]; simp; omega), List.drop_take, show (i + 1) * 6 = i * 6 + 6 by omega]
  congr 2
  rw [List.length_append, ht]
  rfl
/-- The row of the kids, where there is a kid. -/
theorem OwnI.krow {W : World} {a b : Nat} {n : Nd} {k : F} {An : Option Addr} {cn : Nat} {Ak : Option Addr} {ck : Nat} {xs : List Value} (h : OwnI W a b n k An cn Ak ck xs) {i : Nat} (hi : i < k.len) :
    ∃ gk cur, Ak = some ⟨gk, 0, none⟩ ∧ a ≤ gk ∧ gk < b ∧ Blk W gk cur 25 ∧ ck ≤ maxLen ∧ cur.size = ck * 6 ∧ k.len ≤ ck ∧ cur.toList.take (k.len * 6) = xs := by
  obtain ⟨hl, ⟨_, h0⟩ | ⟨g, cap, cur, e, hb, hg, hnc, hc, hs, hx⟩⟩ := h.2.2.1
  · omega
  · obtain ⟨rfl, _, rfl⟩ := Value.slice.inj e
    exact ⟨g, cur, rfl, hb, h.2.2.2.2.1 g rfl, hg, hc, hs, hnc, hx⟩
theorem own_ne {W : World} {b b' : Nat} {e e' : TypeId} {sz sz' n n' : Nat} {v v' : Value} {xs xs' : List Value} {g : Nat} (h : W.ownsRow b e sz v n xs) (h' : W.ownsRow b' e' sz' v' n' xs') (hne : e ≠ e') (hg : v.ownBlock = some g) : v'.ownBlock ≠ some g := fun e => by
  rcases own_apart h h' hne with h1 | h1
  · rw [h1] at hg; cases hg
  · exact h1 (hg.trans e.symm)
/-- The kid under the name is written over. -/
theorem hit14 {w W : World} {g a b c d gk i : Nat} {n : Nd} {k : F} {m : Nd} {q : F} {An : Option Addr} {cn ck : Nat} {xs : List Value} {Dn : Option Addr} {fn : Nat} {Dk : Option Addr} {fk : Nat} {ys : List Value}
    (hs : w.heap.size + 2 < g ∧ w.heap.size + 2 < a ∧ a ≤ b ∧ b ≤ c ∧ (g < a ∨ b ≤ g) ∧ (g < c ∨ d ≤ g)) (hB : Below w.heap.size w W) (hG : Blk W g (ncells n An cn (some ⟨gk, 0, none⟩) k.len ck).toArray 25) (hX : Blk W (w.heap.size + 1) (ncells m Dn fn Dk q.len fk).toArray 25)
    (hR : Blk W (w.heap.size + 2) zero6 25) (hO : OwnI W a b n k An cn (some ⟨gk, 0, none⟩) ck xs) (hQ : OwnI W c d m q Dn fn Dk fk ys) (hi : i < k.len) :
    With14 w n (layF k i 1 m q) (.pointer (some ⟨g, 0, none⟩)) ((((((W.setCell ⟨gk, i * 6, none⟩ (.int .i64 m.kind)).setCell ⟨gk, i * 6 + 1, none⟩ (.int .i64 m.int)).setCell ⟨gk, i * 6 + 2, none⟩ (.int .i64 m.scale)).setCell ⟨gk, i * 6 + 3, none⟩ (.string (str m.text))).setCell ⟨gk, i * 6 + 4, none⟩ (.slice Dn m.names.length fn)).setCell ⟨gk, i * 6 + 5, none⟩ (.slice Dk q.len fk)) := by
  obtain ⟨dd, hk⟩ := OwnI.k13 hB hX hR hO hQ
  obtain ⟨gk', cur, e, hga, hgb, hcur, hcm, hcs, hnc, htk⟩ := hO.krow hi
  obtain rfl : gk = gk' := by simpa using e
  have hB' := ((((((Blk.set hcur (i * 6) (.int .i64 m.kind)).set (i * 6 + 1) (.int .i64 m.int)).set (i * 6 + 2) (.int .i64 m.scale)).set (i * 6 + 3) (.string (str m.text))).set (i * 6 + 4) (.slice Dn m.names.length fn)).set (i * 6 + 5) (.slice Dk q.len fk))
  obtain ⟨W', hW⟩ : ∃ W', ((((((W.setCell ⟨gk, i * 6, none⟩ (.int .i64 m.kind)).setCell ⟨gk, i * 6 + 1, none⟩ (.int .i64 m.int)).setCell ⟨gk, i * 6 + 2, none⟩ (.int .i64 m.scale)).setCell ⟨gk, i * 6 + 3, none⟩ (.string (str m.text))).setCell ⟨gk, i * 6 + 4, none⟩ (.slice Dn m.names.length fn)).setCell ⟨gk, i * 6 + 5, none⟩ (.slice Dk q.len fk)) = W' := ⟨_, rfl⟩
  rw [hW] at hB' ⊢
  have G : W.grownBy W' (some gk) := by rw [← hW]; exact gb_trans (gb_trans (gb_trans (gb_trans (gb_trans (gb_set _ _ _ _) (gb_set _ _ _ _)) (gb_set _ _ _ _)) (gb_set _ _ _ _)) (gb_set _ _ _ _)) (gb_set _ _ _ _)
  clear hW
  have hgk : (Value.slice (some ⟨gk, 0, none⟩) k.len ck).ownBlock = some gk := rfl
  have hk' := hk.grown G (fun p hp => by
    obtain rfl : gk = p := by injection hp
    exact ⟨by omega, fun h => h.2.2.2 rfl, by omega⟩)
  have hn := own_blk (w' := W') hO.2.1 (fun p hp => G.block p (hO.2.1.lt p hp).2 (fun e => own_ne hO.2.1 hO.2.2.1 (by decide) hp (e ▸ rfl)))
  have hlen : (layF k i 1 m q).len = k.len := by rw [layF_len (by omega)]; omega
  have hxl : xs.length = k.len * 6 := hO.2.2.1.1
  have hrow : W'.ownsRow a 25 6 (.slice (some ⟨gk, 0, none⟩) k.len ck) k.len (lay6 xs i 1 (ncells m Dn fn Dk q.len fk)) :=
    own_of_row hga hB' hnc hcm (by simp [hcs]) (row_put6 htk (by rw [hcs]; exact Nat.mul_le_mul_right _ hnc) hi)
  have hG' := hG.grown G (fun e => by have : g = gk := by injection e
                                      omega)
  obtain ⟨j1, j2, j3, j4, j5, j6, j7, j8, j9⟩ := hk'
  have hO1 := hO.1
  refine lay14 (k := k) (i := i) (d := 1) (m := m) (q := q) (Ak := some ⟨gk, 0, none⟩) (ck := ck) (Sx := ApI a b (.slice An n.names.length cn) (.slice (some ⟨gk, 0, none⟩) k.len ck)) (Sy := fun i => c ≤ i ∧ i < d) j1 hs.1 j3 (by rw [hlen]; exact hG') rfl (by omega) (by omega) hO1.1 hO1.2.1 (by rw [hlen]; exact hO1.2.2) (own_more hn (by omega)) (by rw [hlen]; exact own_more hrow (by omega)) j4 j5 (fun p hp => ⟨by have := hp.1; omega, Nat.lt_of_lt_of_le hp.2.1 j8⟩) j6 j7 (fun p hp => ⟨by omega, by omega⟩)
/-- The two rows have grown. -/
theorem miss14 {w W : World} {g a b c d i : Nat} {n : Nd} {k : F} {m : Nd} {q : F} {vn vk : Value} {x : List UInt8} {xs : List Value} {Dn : Option Addr} {fn : Nat} {Dk : Option Addr} {fk dd : Nat} {A1 A2 : Option Addr} {c1 c2 : Nat} (hs : w.heap.size + 2 < g ∧ w.heap.size + 2 < a ∧ a ≤ b ∧ b ≤ c)
    (hk : K13 w W a b c d vn vk k xs m q Dn fn Dk fk dd) (hG : Blk W g #[.int .i64 n.kind, .int .i64 n.int, .int .i64 n.scale, .string (str n.text), .slice A1 (n.names.length + 1) c1, .slice A2 (k.len + 1) c2] 25) (hok : n.ok) (hx : x.length ≤ 500) (hi : i ≤ n.names.length) (hnl : n.names.length = k.len) (hsm : k.len ≤ 100000)
    (hn : W.ownsRow a 9 1 (.slice A1 (n.names.length + 1) c1) (n.names.length + 1) (insL 1 i (n.names.map sv) [sv x])) (hkr : W.ownsRow a 25 6 (.slice A2 (k.len + 1) c2) (k.len + 1) (insL 6 i xs (ncells m Dn fn Dk q.len fk))) :
    With14 w ⟨n.kind, n.int, n.scale, n.text, layL n.names i 0 x⟩ (layF k i 0 m q) (.pointer (some ⟨g, 0, none⟩)) W := by
  have hl1 : (layL n.names i 0 x).length = n.names.length + 1 := by rw [layL_len (by omega)]; omega
  have hl2 : (layF k i 0 m q).len = k.len + 1 := by rw [layF_len (by omega)]; omega
  obtain ⟨j1, j2, j3, j4, j5, j6, j7, j8, j9⟩ := hk
  have o1 := own_cap hn
  have o2 := own_cap hkr
  rw [ins1] at hn
  rw [ins6] at hkr
  refine lay14 (n' := ⟨n.kind, n.int, n.scale, n.text, layL n.names i 0 x⟩) (An := A1) (cn := c1) (Ak := A2) (ck := c2) (k := k) (i := i) (d := 0) (m := m) (q := q) (Sx := ApI a b vn vk) (Sy := fun i => c ≤ i ∧ i < d) j1 hs.1 j3 ?_ rfl (by omega) (by omega) (nd_ok_lay hok (by omega)) ?_ ?_ ?_ ?_ j4 j5 (fun p hp => ⟨by have := hp.1; omega, Nat.lt_of_lt_of_le hp.2.1 j8⟩) j6 j7 (fun p hp => ⟨by omega, by omega⟩)
  · rw [hl2]; show Blk W g #[_, _, _, _, .slice A1 (layL n.names i 0 x).length c1, _] _; rw [hl1]; exact hG
  · show okl (layL n.names i 0 x).length c1; rw [hl1]; exact ⟨o1.1, o1.2, by omega⟩
  · rw [hl2]; exact ⟨o2.1, o2.2, by omega⟩
  · show W.ownsRow _ _ 1 (.slice A1 (layL n.names i 0 x).length c1) (layL n.names i 0 x).length _; rw [hl1]; exact own_more hn (by omega)
  · rw [hl2]; exact own_more hkr (by omega)
end Go.Proofs.Ytfcbcbpnlnkpcaa
