import Derived.Test.YtaipanholndefaaKnown1
import Derived.Test.YtaipanholndefaaUv
import Derived.Test.YtaipanholndefaaSame1
namespace Go.Proofs.Ytaipanholndefaa
set_option linter.all false
open Go.RowKit
set_option maxRecDepth 100000 in
set_option maxHeartbeats 800000 in
theorem octetUvarints_walk (v : Nat) (hv : v < 18446744073709551616) (a0 : Option Addr) (n c : Nat) (l : List UInt8) (w : World) (h : Bs w w.heap.size a0 n l) (hc : n ≤ c) (hm : c ≤ 9223372036854775807) :
    Calls Try.prog 6 #[.int .u64 (v : Int), .slice a0 n c] w (Ret (.bool true) w) := by
  have e0 := h.len
  by_cases hn : n ≤ 3000
  · have HV := Lib.hid hv
    clear hv
    have hul := uv_len 9 v
    generalize hL : (uv 9 v).length = L at hul
    have HLL := Lib.hid hL
    clear hL
    go_enter Try.func6, Try.ntmps6
    go_wp2_with fail
    refine (ouv_any v HV.out _).mono ?_
    rintro e w1 ⟨A1, c1, rfl, o1, b1, hc1, hm1⟩
    rw [HLL.out] at o1 hc1 ⊢
    have r1 := Rd.of_own o1
    go_wp2_with fail
    refine (ruv_any v HV.out _).mono ?_
    rintro e w2 ⟨A2, c2, rfl, o2, b2, hc2, hm2⟩
    rw [HLL.out] at o2 hc2 ⊢
    have r2 := Rd.of_own o2
    have hd : decide (uv 9 v = uv 9 v) = true := by simp
    have r1' := r1.upto b2 b2.size
    go_wp2_with fail
    refine (same1_any A1 A2 L c1 L c2 (uv 9 v) (uv 9 v) _ r1' r2 (by unfold maxLen; omega)).mono ?_
    rintro e w3 ⟨rfl, b3⟩
    have h3 := ((((h.below b1).more b1.size).upto b2 b2.size).upto b3 b3.size)
    have r3 := r1'.upto b3 b3.size
    go_wp2_with (first
      | (at_builtin
         refine wpB_append rfl (.tmp 30) (.tmp 31) rfl w3.heap.size _ 0 [] rfl (own_empty w3 _ _) w3.heap.size A1 L c1 (uv 9 v) rfl (r3.alloc (Nat.le_refl _) _) L (uv 9 v) (by omega) rfl (by omega) (by simp) ?_
         intro A4 c4 w4 o4 b4 hc4 hm4)
      | (at_builtin
         refine wpB_append rfl (.tmp 32) (.tmp 33) rfl w3.heap.size _ L (uv 9 v) rfl o4 w3.heap.size a0 n c l rfl ((h3.alloc (Nat.le_refl _) _).below b4) (L + n) (uv 9 v ++ l) rfl rfl (by omega) (by have := b4.size; simp at this; omega) ?_
         intro A5 c5 w5 o5 b5 hc5 hm5)
      | fail)
    have r5 := Rd.of_own o5
    refine (ru_any A5 (L + n) c5 (uv 9 v ++ l) _ r5 (by unfold maxLen; omega)).mono ?_
    rintro e w6 ⟨rfl, b6⟩
    rw [ru_back v HV.out, HLL.out]
    have hq1 : ((v : Int) == v) = true := by simp
    have hq2 : ((L : Int) == L) = true := by simp
    go_wp2_with fail
    refine (known1_any _).mono ?_
    rintro e w7 ⟨rfl, b7⟩
    go_wp2
    go_ret
    have s1 := b1.size
    have s2 := b2.size
    have s3 := b3.size
    have s4 := b4.size
    have s5 := b5.size
    have s6 := b6.size
    simp at s4
    have b4' : Below w3.heap.size w3 w4 := ((Below.refl _ _).alloc (Nat.le_refl _) _).trans b4
    exact ⟨rfl, (((((b1.trans (b2.mono (by omega))).trans (b3.mono (by omega))).trans (b4'.mono (by omega))).trans (b5.mono (by omega))).trans (b6.mono (by omega))).trans (b7.mono (by omega))⟩
  · go_enter Try.func6, Try.ntmps6
    go_wp2
    go_ret
    exact ⟨rfl, Below.refl _ _⟩
end Go.Proofs.Ytaipanholndefaa
