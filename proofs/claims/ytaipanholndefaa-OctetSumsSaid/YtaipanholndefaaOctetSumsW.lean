import Derived.Test.YtaipanholndefaaKnown1
import Derived.Test.YtaipanholndefaaStands1
import Derived.Test.YtaipanholndefaaRoomy1
namespace Go.Proofs.Ytaipanholndefaa
set_option linter.all false
open Go.RowKit
set_option maxRecDepth 100000 in
set_option maxHeartbeats 800000 in
theorem octetSums_walk (a0 : Option Addr) (n c : Nat) (l : List UInt8) (w : World) (h : Bs w w.heap.size a0 n l) (hc : n ≤ c) (hm : c ≤ 9223372036854775807) :
    Calls Try.prog 3 #[.slice a0 n c] w (Ret (.bool true) w) := by
  by_cases hn : n ≤ 3000
  · have e0 := h.len
    go_enter Try.func3, Try.ntmps3
    go_wp2_with fail
    refine (roomy1_any a0 n c l _ h (by omega)).mono ?_
    rintro e w1 ⟨A1, c1, rfl, o1, b1, hc1, hm1⟩
    have r1 := Rd.of_own o1
    have r2 : Bs w1 w1.heap.size A1 n l := by
      have := Bs.take r1 (k := n) (by omega)
      rwa [List.take_left' e0] at this
    go_wp2_with fail
    refine (sum_any A1 n c1 l _ r2 (by unfold maxLen; omega)).mono ?_
    rintro e w2 ⟨rfl, b2⟩
    go_wp2_with fail
    refine (rsum_any a0 n c l _ (((h.below b1).more b1.size).upto b2 b2.size) (by unfold maxLen; omega)).mono ?_
    rintro e w3 ⟨rfl, b3⟩
    have hq : (U (crc l) == U (crc l)) = true := by simp
    go_wp2_with fail
    refine (stands1_any A1 a0 (n + 1) c1 n c l _ ((r1.upto b2 b2.size).upto b3 b3.size) ((((h.below b1).more b1.size).upto b2 b2.size).upto b3 b3.size) hc1 hm1).mono ?_
    rintro e w4 ⟨rfl, b4⟩
    go_wp2_with fail
    refine (known1_any _).mono ?_
    rintro e w5 ⟨rfl, b5⟩
    go_wp2
    go_ret
    have s1 := b1.size
    have s2 := b2.size
    have s3 := b3.size
    have s4 := b4.size
    exact ⟨rfl, (((b1.trans (b2.mono (by omega))).trans (b3.mono (by omega))).trans (b4.mono (by omega))).trans (b5.mono (by omega))⟩
  · go_enter Try.func3, Try.ntmps3
    go_wp2
    go_ret
    exact ⟨rfl, Below.refl _ _⟩
end Go.Proofs.Ytaipanholndefaa
