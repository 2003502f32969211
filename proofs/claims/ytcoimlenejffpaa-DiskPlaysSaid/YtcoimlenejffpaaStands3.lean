import Derived.Test.YtcoimlenejffpaaSame3
namespace Go.Proofs.Ytcoimlenejffpaa
set_option linter.all false
open Go.RowKit
set_option maxHeartbeats 400000 in
/-- The bytes are what they were, and so is the room behind them: asked of a row that is so, it answers true. -/
theorem stands3_any (A1 A2 : Option Addr) (n1 c1 n2 c2 : Nat) (l2 : List UInt8) (w : World) (h1 : Bs w w.heap.size A1 n1 (l2 ++ [171])) (h2 : Bs w w.heap.size A2 n2 l2) (hc : n1 ≤ c1) (m1 : c1 ≤ 9223372036854775807) :
    Calls Try.prog 37 #[.slice A1 n1 c1, .slice A2 n2 c2] w (Ret (.bool true) w) := by
  have e1 := h1.len
  have e2 := h2.len
  obtain rfl : n1 = n2 + 1 := by simp at e1; omega
  obtain ⟨g, off, b, rfl, hg, hb, hcell⟩ := Bs.at_ h1 (k := n2) (by omega)
  have hb' : b = 171 := by
    rw [List.getElem?_append_right (by omega)] at hb
    simp [e2] at hb
    exact hb.symm
  subst hb'
  have hcell : w.cell? ⟨g, off + n2, none⟩ = some (.int .u8 171) := hcell
  have ht : Bs w w.heap.size (some ⟨g, off, none⟩) n2 l2 := by
    have := Bs.take h1 (k := n2) (by omega)
    rwa [List.take_left' e2] at this
  clear e1 hb
  have hq : (((n2 : Int) + 1) == n2 + 1) = true := by simp
  have hd : decide (l2 = l2) = true := by simp
  go_enter Try.func37, Try.ntmps37
  go_wp2_with (go_at_call 15; refine (same3_any _ _ _ _ _ _ l2 l2 _ ht h2 (by unfold maxLen; omega)).mono ?_; rintro e w1 ⟨rfl, hb1⟩; have hc2 := (hb1.cell (p := ⟨g, off + n2, none⟩) hg).trans hcell)
  go_ret
  exact ⟨rfl, hb1⟩
end Go.Proofs.Ytcoimlenejffpaa
