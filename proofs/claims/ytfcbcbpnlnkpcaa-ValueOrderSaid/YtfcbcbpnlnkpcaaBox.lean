/- A struct argument is boxed by the callee: the six cells of its box. -/
import Derived.Test.YtfcbcbpnlnkpcaaVal
namespace Go.Proofs.Ytfcbcbpnlnkpcaa
set_option linter.all false
open Go.RowKit
theorem unhide {p : Prop} (h : Hid p) : p := h
/-- The six cells of a struct that the call has boxed. -/
def boxw (w : World) (n : Nd) (An : Option Addr) (cn : Nat) (Ak : Option Addr) (kl ck : Nat) : World := w.alloc (.cells (ncells n An cn Ak kl ck).toArray 25)
theorem boxw_eq (w : World) (n : Nd) (An : Option Addr) (cn : Nat) (Ak : Option Addr) (kl ck : Nat) :
    w.alloc (.cells #[.int .i64 n.kind, .int .i64 n.int, .int .i64 n.scale, .string (str n.text), .slice An n.names.length cn, .slice Ak kl ck] 25) = boxw w n An cn Ak kl ck := rfl
theorem boxw_size (w : World) (n : Nd) (An : Option Addr) (cn : Nat) (Ak : Option Addr) (kl ck : Nat) : (boxw w n An cn Ak kl ck).heap.size = w.heap.size + 1 := by simp [boxw]
theorem boxw_below (w : World) (n : Nd) (An : Option Addr) (cn : Nat) (Ak : Option Addr) (kl ck : Nat) : Below w.heap.size w (boxw w n An cn Ak kl ck) := (Below.refl _ _).alloc (Nat.le_refl _) _
/-- The six cells of a boxed struct, as a walk reads them. -/
def Six0 (w : World) (g : Nat) (n : Nd) (An : Option Addr) (cn : Nat) (Ak : Option Addr) (kl ck : Nat) : Prop :=
  w.cell? ⟨g, 0, none⟩ = some (.int .i64 n.kind) ∧ w.cell? ⟨g, 1, none⟩ = some (.int .i64 n.int) ∧ w.cell? ⟨g, 2, none⟩ = some (.int .i64 n.scale) ∧
  w.cell? ⟨g, 3, none⟩ = some (.string (str n.text)) ∧ w.cell? ⟨g, 4, none⟩ = some (.slice An n.names.length cn) ∧ w.cell? ⟨g, 5, none⟩ = some (.slice Ak kl ck)
theorem boxw_six (w : World) (n : Nd) (An : Option Addr) (cn : Nat) (Ak : Option Addr) (kl ck : Nat) : Six0 (boxw w n An cn Ak kl ck) w.heap.size n An cn Ak kl ck := by
  unfold boxw
  refine ⟨?_, ?_, ?_, ?_, ?_, ?_⟩ <;> (rw [World.cell?_alloc_new]; rfl)
theorem Six0.below {w w' : World} {B g : Nat} {n : Nd} {An : Option Addr} {cn : Nat} {Ak : Option Addr} {kl ck : Nat} (h : Six0 w g n An cn Ak kl ck) (hb : Below B w w') (hg : g < B) : Six0 w' g n An cn Ak kl ck := by
  obtain ⟨h1, h2, h3, h4, h5, h6⟩ := h
  have k : ∀ j, w'.cell? ⟨g, j, none⟩ = w.cell? ⟨g, j, none⟩ := fun j => hb.cell (p := ⟨g, j, none⟩) hg
  exact ⟨(k _).trans h1, (k _).trans h2, (k _).trans h3, (k _).trans h4, (k _).trans h5, (k _).trans h6⟩

end Go.Proofs.Ytfcbcbpnlnkpcaa
