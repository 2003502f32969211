import Derived.Test.YtaipanholndefaaDecode
namespace Go.Proofs.Ytaipanholndefaa
set_option linter.all false
open Go.RowKit
set_option maxRecDepth 100000 in
set_option maxHeartbeats 400000 in
theorem known4_any (w : World) : Calls Try.prog 40 #[] w (Ret (.bool true) w) := by
  go_enter Try.func40, Try.ntmps40
  go_wp2_with fail
  refine (enc_any none 0 0 [] _ (Rd.nil_ _) (by omega)).mono ?_
  rintro e w1 ⟨A1, c1, rfl, o1, b1, hc1, hm1⟩
  have e12 : (fenc []).length = 12 := fenc_len []
  rw [e12] at o1 hc1 ⊢
  clear e12
  go_wp2_with (first
    | (at_builtin
       refine wpB_append rfl (.tmp 11) (.tmp 12) rfl w.heap.size _ 12 (fenc []) rfl (o1.alloc _) (w1.heap.size + 1) (some ⟨w1.heap.size, 0, none⟩) 1 1 [1] rfl (Rd.one_new _ _ _) 13 _ rfl rfl (by omega) (by have := b1.size; simp; omega) ?_
       intro A2 c2 w2 o2 b2 hc2 hm2)
    | fail)
  refine (dec_any A2 13 c2 (fenc [] ++ [1]) _ (Rd.of_own o2) hc2 hm2 (by omega)).mono ?_
  rw [fknown]
  rintro e w3 ⟨A3, c3, rfl, o3, b3, hc3, hm3⟩
  go_wp2
  go_ret
  have s1 := b1.size
  have s2 := b2.size
  simp at s2
  exact ⟨rfl, (b1.trans (((Below.refl _ _).alloc s1 _).trans b2)).trans (b3.mono (by omega))⟩
end Go.Proofs.Ytaipanholndefaa
