import Derived.Test.YtaipanholndefaaSum
import Derived.Test.YtaipanholndefaaRu
namespace Go.Proofs.Ytaipanholndefaa
set_option linter.all false
open Go.RowKit
set_option maxRecDepth 100000 in
set_option maxHeartbeats 400000 in
theorem known1_any (w : World) : Calls Try.prog 17 #[] w (Ret (.bool true) w) := by
  have kc := fun (w : World) (C : Array Value) (n c : Nat) => Lib.run_convert_bytes_const (P := Try.prog) w 22 5 C n c Try.underlying22 Try.underlying5
  go_enter Try.func17, Try.ntmps17
  go_wp2_with fail
  refine (ru_any (some ⟨w.heap.size, 0, none⟩) 3 3 [172, 2, 255] _ (Bs.lit w _ _ _ [172, 2, 255] 3 rfl rfl) (by simp [maxLen])).mono ?_
  rintro e w1 ⟨rfl, hb1⟩
  rw [ru_known]
  go_wp2_with fail
  refine (sum_any (some ⟨w1.heap.size, 0, none⟩) 9 9 [49, 50, 51, 52, 53, 54, 55, 56, 57] _ (Bs.lit w1 _ _ _ [49, 50, 51, 52, 53, 54, 55, 56, 57] 9 rfl rfl) (by simp [maxLen])).mono ?_
  rintro e w2 ⟨rfl, hb2⟩
  rw [crc_known, show U 3421780262#32 = 3421780262 from by decide]
  go_wp2
  go_ret
  exact ⟨rfl, (((Below.refl _ _).alloc (Nat.le_refl _) _).trans (hb1.mono (by simp))).trans (((Below.refl _ _).alloc (by have := hb1.size; simp at this; omega) _).trans (hb2.mono (by have := hb1.size; simp at *; omega)))⟩
end Go.Proofs.Ytaipanholndefaa
