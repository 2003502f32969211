import Derived.Test.YtcoimlenejffpaaMem
namespace Go.Proofs.Ytcoimlenejffpaa
set_option linter.all false
open Go.RowKit
set_option maxHeartbeats 400000 in
theorem roomy3_any (A1 : Option Addr) (n1 c1 : Nat) (l1 : List UInt8) (w : World) (h1 : Bs w w.heap.size A1 n1 l1) (m1 : n1 ≤ 1000000) :
    Calls Try.prog 35 #[.slice A1 n1 c1] w (RetOwn 5 1 (n1 + 1) ((l1 ++ [171]).map bv) w) := by
  have e1 := h1.len
  go_enter Try.func35, Try.ntmps35
  go_wp2_with (first
    | (at_builtin
       refine wpB_append rfl (.tmp 3) (.tmp 4) rfl w.heap.size _ 0 [] rfl (own_empty w _ _) w.heap.size A1 n1 c1 l1 rfl (h1.alloc (Nat.le_refl _) _) n1 l1 (by omega) rfl (by omega) (by simp) ?_
       intro A' c' wa oa ba hc1 hm1)
    | (at_builtin
       refine wpB_append rfl (.tmp 5) (.tmp 6) rfl w.heap.size _ n1 l1 rfl (oa.alloc _) (wa.heap.size + 1) (some ⟨wa.heap.size, 0, none⟩) 1 1 [171] rfl (Rd.one_new _ _ _) (n1 + 1) _ rfl rfl (by omega) (by have := ba.size; simp at this ⊢; omega) ?_
       intro A2 c2 wb ob bb hc2 hm2)
    | (at_builtin
       refine wpB_append rfl (.tmp 7) (.tmp 8) rfl w.heap.size _ (n1 + 1) (l1 ++ [171]) rfl (ob.alloc _) (wb.heap.size + 1) (some ⟨wb.heap.size, 0, none⟩) 1 1 [171] rfl (Rd.one_new _ _ _) (n1 + 1 + 1) _ rfl rfl (by omega) (by have := ba.size; have := bb.size; simp at *; omega) ?_
       intro A3 c3 wc oc bc hc3 hm3))
  go_ret
  refine ⟨A3, c3, rfl, ?_, ?_, by omega, by omega⟩
  · have := own_take oc (k := n1 + 1) (by omega)
    rwa [Nat.mul_one, ← List.map_take, List.take_left' (by simp; omega)] at this
  · exact (((Below.refl _ _).alloc (Nat.le_refl _) _).trans ba).trans ((((Below.refl _ _).alloc (by have := ba.size; simp at this; omega) _).trans bb).trans (((Below.refl _ _).alloc (by have := ba.size; have := bb.size; simp at *; omega) _).trans bc))
end Go.Proofs.Ytcoimlenejffpaa
