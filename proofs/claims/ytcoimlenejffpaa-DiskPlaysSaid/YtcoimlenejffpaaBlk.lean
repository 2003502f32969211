/- Blocks known whole; one block that is written, and nothing else: words. -/
import Derived.Test.YtcoimlenejffpaaCore
import Derived.OneCell
namespace Go.Proofs.Ytcoimlenejffpaa
set_option linter.all false
open Go.RowKit
theorem gb_refl (w : World) (row : Option Nat) : w.grownBy w row := World.grownBy.refl w row
theorem gb_trans {w w1 w2 : World} {row : Option Nat} (h : w.grownBy w1 row) (k : w1.grownBy w2 row) : w.grownBy w2 row :=
  ⟨k.os.trans h.os, k.tape.trans h.tape, k.output.trans h.output, Nat.le_trans h.size k.size, fun i hi hr => (k.block i (Nat.lt_of_lt_of_le hi h.size) hr).trans (h.block i hi hr)⟩
theorem gb_below {w w' : World} (h : Below w.heap.size w w') (row : Option Nat) : w.grownBy w' row := ⟨h.os, h.tape, h.output, h.size, fun i hi _ => h.block i hi⟩
theorem gb_drew {w w' : World} {row : Option Nat} (h : w.grownBy w' row) : w.grownBy w'.drew row := ⟨h.os, h.tape, h.output, h.size, h.block⟩
theorem gb_set (w : World) (g o : Nat) (v : Value) : w.grownBy (w.setCell ⟨g, o, none⟩ v) (some g) :=
  ⟨rfl, rfl, rfl, by simp, fun i hi hr => Below.heap_setCell _ _ _ _ (fun e => hr (by rw [e]))⟩
theorem below_gb {w w0 w' : World} {g : Nat} (h : w0.grownBy w' (some g)) (hb : Below w.heap.size w w0) (hg : w.heap.size ≤ g) : Below w.heap.size w w' :=
  ⟨h.os.trans hb.os, h.tape.trans hb.tape, h.output.trans hb.output, Nat.le_trans hb.size h.size, fun i hi => (h.block i (Nat.lt_of_lt_of_le hi hb.size) (fun e => by injection e with e; omega)).trans (hb.block i hi)⟩
/-- A block known whole. -/
abbrev Blk (w : World) (g : Nat) (cs : Array Value) (T : TypeId) : Prop := w.heap[g]? = some (.cells cs T (0, 0))
theorem Blk.cell {w : World} {g : Nat} {cs : Array Value} {T : TypeId} (h : Blk w g cs T) (o : Nat) : w.cell? ⟨g, o, none⟩ = cs[o]? := cell_of_row w g o cs T (0, 0) h
theorem Blk.free {w : World} {g : Nat} {cs : Array Value} {T : TypeId} (h : Blk w g cs T) (o : Nat) : w.frozen? ⟨g, o, none⟩ = false := frozen_of_row w g o cs T h
theorem Blk.lt {w : World} {g : Nat} {cs : Array Value} {T : TypeId} (h : Blk w g cs T) : g < w.heap.size := lt_of_block h
theorem Blk.below {w w' : World} {g B : Nat} {cs : Array Value} {T : TypeId} (h : Blk w g cs T) (hb : Below B w w') (hg : g < B) : Blk w' g cs T := (hb.block g hg).trans h
theorem Blk.grown {w w' : World} {g : Nat} {row : Option Nat} {cs : Array Value} {T : TypeId} (h : Blk w g cs T) (hb : w.grownBy w' row) (hg : some g ≠ row) : Blk w' g cs T := (hb.block g h.lt hg).trans h
theorem Blk.set {w : World} {g : Nat} {cs : Array Value} {T : TypeId} (h : Blk w g cs T) (o : Nat) (v : Value) : Blk (w.setCell ⟨g, o, none⟩ v) g (cs.setIfInBounds o v) T := by
  have hlt := lt_of_block h
  have h1 : w.heap[g]? = some (.cells cs T (0, 0)) := h
  have h' : w.heap[g] = .cells cs T (0, 0) := by simpa [Array.getElem?_eq_getElem hlt] using h1
  show (w.heap.modify g _)[g]? = _
  rw [Array.getElem?_eq_getElem (by simpa using hlt), Array.getElem_modify_self, h']
  rfl
theorem Blk.set_other {w : World} {g g' : Nat} {cs : Array Value} {T : TypeId} (h : Blk w g cs T) (o : Nat) (v : Value) (hne : g ≠ g') : Blk (w.setCell ⟨g', o, none⟩ v) g cs T :=
  (Below.heap_setCell _ _ _ _ hne).trans h
theorem Blk.alloc {w : World} {g : Nat} {cs : Array Value} {T : TypeId} (h : Blk w g cs T) (o : Obj) : Blk (w.alloc o) g cs T :=
  (((Below.refl w.heap.size w).alloc (Nat.le_refl _) o).block g h.lt).trans h
theorem Blk.drew {w : World} {g : Nat} {cs : Array Value} {T : TypeId} (h : Blk w g cs T) : Blk w.drew g cs T := h
theorem Blk.new (w : World) (cs : Array Value) (T : TypeId) : Blk (w.alloc (.cells cs T)) w.heap.size cs T := heap_alloc_new w _
end Go.Proofs.Ytcoimlenejffpaa
