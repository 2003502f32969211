import Derived.Test.YtaipanholndefaaKnown4
import Derived.Test.YtaipanholndefaaRoomy4
import Derived.Test.YtaipanholndefaaStands4
namespace Go.Proofs.Ytaipanholndefaa
set_option linter.all false
open Go.RowKit
set_option maxRecDepth 100000 in
set_option maxHeartbeats 800000 in
theorem frameEncodes_walk (a0 : Option Addr) (n c : Nat) (l : List UInt8) (w : World) (h : Bs w w.heap.size a0 n l) (hc : n ≤ c) (hm : c ≤ 9223372036854775807) :
    Calls Try.prog 9 #[.slice a0 n c] w (Ret (.bool true) w) := by
  by_cases hn : n ≤ 4000
  · have e0 := h.len
    have hfl := fenc_len l
    have HL : Hid ((fenc l).length = n + 12) := by show _ = _; omega
    clear hfl
    go_enter Try.func9, Try.ntmps9
    go_wp2_with fail
    refine (roomy4_any a0 n c l _ h (by omega)).mono ?_
    rintro e w1 ⟨A1, c1, rfl, o1, b1, hc1, hm1⟩
    have r1 := Rd.of_own o1
    have t1 : Bs w1 w1.heap.size A1 n l := by
      have := Bs.take r1 (k := n) (by omega)
      rwa [List.take_left' e0] at this
    have h1 := (h.below b1).more b1.size
    go_wp2_with fail
    refine (enc_any A1 n c1 l _ t1 (by omega)).mono ?_
    rintro e w2 ⟨A2, c2, rfl, o2, b2, hc2, hm2⟩
    rw [HL.out] at o2 hc2 ⊢
    have h2 := h1.upto b2 b2.size
    have r2 := r1.upto b2 b2.size
    have p2 := Rd.of_own o2
    go_wp2_with fail
    refine (renc_any a0 n c l _ h2 (by omega)).mono ?_
    rintro e w3 ⟨A3, c3, rfl, o3, b3, hc3, hm3⟩
    rw [HL.out] at o3 hc3 ⊢
    have h3 := h2.upto b3 b3.size
    have r3 := r2.upto b3 b3.size
    have p3 := p2.upto b3 b3.size
    go_wp2_with fail
    refine (same4_eq A2 A3 (n + 12) c2 (n + 12) c3 (fenc l) (fenc l) _ p3 (Rd.of_own o3) (by unfold maxLen; omega) rfl).mono ?_
    rintro e w4 ⟨rfl, b4⟩
    have h4 := h3.upto b4 b4.size
    have r4 := r3.upto b4 b4.size
    go_wp2_with fail
    refine (stands4_any A1 a0 (n + 1) c1 n c l _ r4 h4 hc1 hm1).mono ?_
    rintro e w5 ⟨rfl, b5⟩
    go_wp2_with fail
    refine (known4_any _).mono ?_
    rintro e w6 ⟨rfl, b6⟩
    go_wp2
    go_ret
    exact ⟨rfl, bseq (bseq (bseq (bseq (bseq b1 b2) b3) b4) b5) b6⟩
  · go_enter Try.func9, Try.ntmps9
    go_wp2
    go_ret
    exact ⟨rfl, Below.refl _ _⟩
end Go.Proofs.Ytaipanholndefaa
