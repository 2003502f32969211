/- A disk: what it is that memory holds one. -/
import Derived.Test.YtcoimlenejffpaaRow
import Derived.Test.YtcoimlenejffpaaMapp
namespace Go.Proofs.Ytcoimlenejffpaa
set_option linter.all false
open Go.RowKit
/-- A file: its name, its block, the slice that its bytes lie in, the bytes, how many of them last. -/
structure FE where
  s : List UInt8
  g : Nat
  v : Value
  b : List UInt8
  l : Nat
structure DS where
  room : Nat
  m : Nat
  fused : Bool
  left : Nat
  E : List FE
def enE (e : FE) : List UInt8 × Nat := (e.s, e.g)
def enOf (E : List FE) : En := E.map enE
def FE.bl (e : FE) : List Nat := e.g :: e.v.ownBlock.toList
/-- The disk's blocks. -/
def DS.bl (d : Nat) (S : DS) : List Nat := d :: S.m :: S.E.flatMap FE.bl
def DS.used (S : DS) : Nat := (S.E.map fun e => e.b.length).sum
def FW (w : World) (e : FE) : Prop := Blk w e.g #[e.v, .int .u32 (e.l : Int)] 64 ∧ Row w e.v e.b ∧ e.l ≤ e.b.length
def dcells (S : DS) : Array Value := #[.int .i64 (S.room : Int), .map (some S.m), .bool S.fused, .int .i64 (S.left : Int)]
/-- Memory holds the disk S at block d, its blocks from 'base' on. -/
structure DW (w : World) (base d : Nat) (S : DS) : Prop where
  cell : Blk w d (dcells S) 59
  map : w.ownsMap Try.prog 9 ptrR S.m S.E.length (DL (enOf S.E))
  file : ∀ e ∈ S.E, FW w e
  nodup : (S.bl d).Nodup
  ge : ∀ i ∈ S.bl d, base ≤ i ∧ i < w.heap.size
  room : S.used ≤ S.room ∧ S.room ≤ 1073741824
  few : S.E.length ≤ 4096
  left : S.left ≤ 9223372036854775807
theorem bl_d (d : Nat) (S : DS) : d ∈ S.bl d := by simp [DS.bl]
theorem bl_m (d : Nat) (S : DS) : S.m ∈ S.bl d := by simp [DS.bl]
theorem bl_g {d : Nat} {S : DS} {e : FE} (h : e ∈ S.E) : e.g ∈ S.bl d := by
  simp only [DS.bl, List.mem_cons, List.mem_flatMap]; right; right; exact ⟨e, h, by simp [FE.bl]⟩
theorem bl_v {d : Nat} {S : DS} {e : FE} {i : Nat} (h : e ∈ S.E) (hi : e.v.ownBlock = some i) : i ∈ S.bl d := by
  simp only [DS.bl, List.mem_cons, List.mem_flatMap]; right; right; exact ⟨e, h, by simp [FE.bl, hi]⟩
theorem owns_block {w w' : World} {P : Program} {k : TypeId} {b n : Nat} {D : DataW Unit} (h : w.ownsMap P k ptrR b n D) (hb : w'.heap[b]? = w.heap[b]?) : w'.ownsMap P k ptrR b n D := by
  obtain ⟨es, clock, h1, r⟩ := h
  exact ⟨es, clock, hb.trans h1, r⟩
/-- The disk stays while its blocks do. -/
theorem DW.keep {w w' : World} {base d : Nat} {S : DS} (h : DW w base d S) (hk : ∀ i ∈ S.bl d, w'.heap[i]? = w.heap[i]?) (hs : w.heap.size ≤ w'.heap.size) : DW w' base d S where
  cell := (hk d (bl_d d S)).trans h.cell
  map := owns_block h.map (hk S.m (bl_m d S))
  file := fun e he => ⟨(hk e.g (bl_g he)).trans (h.file e he).1, (h.file e he).2.1.keep fun i hi => hk i (bl_v he hi), (h.file e he).2.2⟩
  nodup := h.nodup
  ge := fun i hi => ⟨(h.ge i hi).1, Nat.lt_of_lt_of_le (h.ge i hi).2 hs⟩
  room := h.room
  few := h.few
  left := h.left
theorem DW.below {w w' : World} {base d : Nat} {S : DS} (h : DW w base d S) (hb : Below w.heap.size w w') : DW w' base d S := h.keep (fun i hi => hb.block i (h.ge i hi).2) hb.size
theorem DW.drewN {w : World} {base d : Nat} {S : DS} (h : DW w base d S) (n : Nat) : DW (w.drewN n) base d S := h.keep (fun _ _ => rfl) (Nat.le_refl _)
/-- Only the blocks of B have turned, of those that were there. -/
structure Turn (B : List Nat) (w w' : World) : Prop where
  os : w'.os = w.os
  tape : w'.tape = w.tape
  output : w'.output = w.output
  size : w.heap.size ≤ w'.heap.size
  block : ∀ i, i < w.heap.size → i ∉ B → w'.heap[i]? = w.heap[i]?
theorem Turn.refl (B : List Nat) (w : World) : Turn B w w := ⟨rfl, rfl, rfl, Nat.le_refl _, fun _ _ _ => rfl⟩
theorem Turn.of_below {B : List Nat} {w w' : World} (h : Below w.heap.size w w') : Turn B w w' := ⟨h.os, h.tape, h.output, h.size, fun i hi _ => h.block i hi⟩
theorem Turn.of_grown {B : List Nat} {w w' : World} {row : Option Nat} (h : w.grownBy w' row) (hr : ∀ i, row = some i → i ∈ B ∨ w.heap.size ≤ i) : Turn B w w' :=
  ⟨h.os, h.tape, h.output, h.size, fun i hi hn => h.block i hi (fun e => by rcases hr i e.symm with h1 | h1; exact hn h1; omega)⟩
theorem Turn.trans {B B' : List Nat} {a b c : World} (h : Turn B a b) (k : Turn B' b c) (hB : ∀ i ∈ B', i ∈ B ∨ a.heap.size ≤ i) : Turn B a c :=
  ⟨k.os.trans h.os, k.tape.trans h.tape, k.output.trans h.output, Nat.le_trans h.size k.size, fun i hi hn =>
    (k.block i (Nat.lt_of_lt_of_le hi h.size) (fun e => by rcases hB i e with h1 | h1; exact hn h1; omega)).trans (h.block i hi hn)⟩
theorem Turn.set {B : List Nat} {w : World} {g o : Nat} {v : Value} (hg : g ∈ B ∨ w.heap.size ≤ g) : Turn B w (w.setCell ⟨g, o, none⟩ v) :=
  Turn.of_grown (gb_set w g o v) (fun i e => by injection e with e; subst e; exact hg)
theorem Turn.below {B : List Nat} {w w' : World} {base : Nat} (h : Turn B w w') (hB : ∀ i ∈ B, base ≤ i) (hb : base ≤ w.heap.size) : Below base w w' :=
  ⟨h.os, h.tape, h.output, h.size, fun i hi => h.block i (by omega) (fun e => by have := hB i e; omega)⟩
theorem Turn.drewN {B : List Nat} {w w' : World} (h : Turn B w w') (n : Nat) : Turn B w (w'.drewN n) := ⟨h.os, h.tape, h.output, h.size, h.block⟩
/-- The files' names: no name twice. -/
theorem DW.nd {w : World} {base d : Nat} {S : DS} (h : DW w base d S) : Nd1 (enOf S.E) := nd_of h.map (Go.Maps.string_keyed Try.underlying9)
def getE (s : List UInt8) (E : List FE) : Option FE := E.find? fun e => e.s == s
theorem getL_getE (s : List UInt8) (E : List FE) : getL s (enOf E) = (getE s E).map (·.g) := by
  unfold getL enOf getE
  rw [List.find?_map]
  have e : (fun p : List UInt8 × Nat => p.1 == s) ∘ enE = fun e => e.s == s := rfl
  rw [e]
  cases List.find? (fun e => e.s == s) E <;> rfl
theorem getE_mem {s : List UInt8} {E : List FE} {e : FE} (h : getE s E = some e) : e ∈ E ∧ e.s = s := by
  unfold getE at h
  exact ⟨List.mem_of_find?_eq_some h, by have := List.find?_some h; simpa using this⟩
/-- A file with other bytes. -/
def setE (s : List UInt8) (f : FE → FE) (E : List FE) : List FE := E.map fun e => if e.s == s then f e else e
theorem setE_en {s : List UInt8} {f : FE → FE} (hf : ∀ e, (f e).s = e.s ∧ (f e).g = e.g) (E : List FE) : enOf (setE s f E) = enOf E := by
  unfold enOf setE
  rw [List.map_map]
  apply List.map_congr_left
  intro e _
  simp only [Function.comp, enE]
  split
  · rw [(hf e).1, (hf e).2]
  · rfl
theorem used_cons (e : FE) (E : List FE) : ((e :: E).map fun e => e.b.length).sum = e.b.length + (E.map fun e => e.b.length).sum := rfl
theorem used_setE {s : List UInt8} {f : FE → FE} {e : FE} : ∀ {E : List FE}, Nd1 (enOf E) → getE s E = some e → ((setE s f E).map fun e => e.b.length).sum + e.b.length = (E.map fun e => e.b.length).sum + (f e).b.length
  | [], _, h => by simp [getE] at h
  | x :: r, hn, h => by
    obtain ⟨h1, h2⟩ := List.pairwise_cons.1 (show List.Pairwise _ (enE x :: enOf r) from hn)
    unfold getE at h
    rw [List.find?_cons] at h
    rcases hx : (x.s == s) with _ | _
    · rw [hx] at h
      have ih := used_setE (f := f) h2 h
      unfold setE at ih ⊢
      rw [List.map_cons, hx, used_cons, used_cons]
      simp only [Bool.false_eq_true, if_false]
      omega
    · rw [hx] at h
      simp only at h
      injection h with h
      subst h
      have hr : setE s f r = r := by
        unfold setE
        conv => rhs; rw [← List.map_id r]
        apply List.map_congr_left
        intro y hy
        have hne : y.s ≠ x.s := fun e => h1 (enE y) (List.mem_map.2 ⟨y, hy, rfl⟩) e.symm
        have hxs : x.s = s := by simpa using hx
        have : (y.s == s) = false := by rw [← hxs]; simpa using hne
        rw [this]; rfl
      unfold setE at hr ⊢
      rw [List.map_cons, hx, hr, used_cons, used_cons]
      simp only [if_true]
      omega
theorem setE_len (s : List UInt8) (f : FE → FE) (E : List FE) : (setE s f E).length = E.length := by simp [setE]
end Go.Proofs.Ytcoimlenejffpaa
