/- bytes.Clone: the same bytes in memory of the call's own. -/
import Derived.Test.YtcoimlenejffpaaMem
import Derived.Lib.SliceRun
namespace Go.Proofs.Ytcoimlenejffpaa
set_option linter.all false
open Go.RowKit
set_option maxHeartbeats 400000 in
theorem clone_any (A : Option Addr) (n c : Nat) (l : List UInt8) (w : World) (h : Bs w w.heap.size A n l) (hn : n ≤ 1073741824) :
    Calls Try.prog 32 #[.slice A n c] w (RetOwn 5 1 n (l.map bv) w) := by
  have hl := h.len
  have he := fun (w : World) (a : Option Addr) (n c : Nat) => Lib.run_eql_slice_nil (P := Try.prog) w 23 5 a n c 0 0 Try.underlying23
  cases A with
  | none =>
    have h0 : n = 0 := by
      rcases Nat.eq_zero_or_pos n with h0 | h0
      · exact h0
      · obtain ⟨g, off, hA, _⟩ := h.2 h0
        cases hA
    subst h0
    have hnil : l = [] := List.eq_nil_of_length_eq_zero hl
    subst hnil
    go_enter Try.func32, Try.ntmps32
    go_wp2
    go_ret
    exact ⟨none, 0, rfl, World.ownsRow_nil _ _ _ _, Below.refl _ _, by omega, by omega⟩
  | some ad =>
    go_enter Try.func32, Try.ntmps32
    go_wp2_with (first
      | (at_builtin
         refine wpB_append rfl (.tmp 5) (.tmp 6) rfl w.heap.size _ 0 [] rfl (own_empty w _ _) w.heap.size (some ad) n c l rfl (h.alloc (Nat.le_refl _) _) n l (by omega) rfl (by omega) (by simp) ?_
         intro A1 c1 wa oa ba hc1 hm1))
    go_ret
    exact ⟨A1, c1, rfl, oa, ((Below.refl _ _).alloc (Nat.le_refl _) _).trans ba, hc1, hm1⟩
end Go.Proofs.Ytcoimlenejffpaa
