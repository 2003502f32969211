import Derived.Test.YtaipanholndefaaKnown1
import Derived.Test.YtaipanholndefaaRru
import Derived.Test.YtaipanholndefaaBig
import Derived.Test.YtaipanholndefaaStands1
import Derived.Test.YtaipanholndefaaRoomy1
namespace Go.Proofs.Ytaipanholndefaa
set_option linter.all false
open Go.RowKit
theorem int_beq (a : Int) : (a == a) = true := by simp
set_option maxRecDepth 100000 in
set_option maxHeartbeats 1600000 in
theorem octetReads_walk (a0 : Option Addr) (n c : Nat) (l : List UInt8) (w : World) (h : Bs w w.heap.size a0 n l) (hc : n ≤ c) (hm : c ≤ 9223372036854775807) :
    Calls Try.prog 7 #[.slice a0 n c] w (Ret (.bool true) w) := by
  by_cases hn : n ≤ 3000
  · have e0 := h.len
    generalize hu : ru 0 0 l = u
    have HU := Lib.hid hu
    clear hu
    generalize hb : rb l = b
    have HB := Lib.hid hb
    clear hb
    generalize hs : rs l = s
    have HS := Lib.hid hs
    clear hs
    go_enter Try.func7, Try.ntmps7
    go_wp2_with fail
    refine (roomy1_any a0 n c l _ h (by omega)).mono ?_
    rintro e w1 ⟨A1, c1, rfl, o1, b1, hc1, hm1⟩
    have r1 := Rd.of_own o1
    have t1 : Bs w1 w1.heap.size A1 n l := by
      have := Bs.take r1 (k := n) (by omega)
      rwa [List.take_left' e0] at this
    have h1 := (h.below b1).more b1.size
    go_wp2_with fail
    refine (ru_any A1 n c1 l _ t1 (by unfold maxLen; omega)).mono ?_
    rintro e w2 ⟨rfl, b2⟩
    rw [HU.out]
    have t2 := t1.upto b2 b2.size
    have h2 := h1.upto b2 b2.size
    have r2 := r1.upto b2 b2.size
    go_wp2_with fail
    refine (rru_any a0 n c l _ h2 (by unfold maxLen; omega)).mono ?_
    rintro e w3 ⟨rfl, b3⟩
    rw [HU.out]
    have t3 := t2.upto b3 b3.size
    have h3 := h2.upto b3 b3.size
    have r3 := r2.upto b3 b3.size
    go_wp2_with fail
    refine (orb_any A1 n c1 l _ t3 (by omega) hm1).mono ?_
    rintro e w4 ⟨rfl, b4⟩
    rw [HB.out]
    have t4 := t3.upto b4 b4.size
    have h4 := h3.upto b4 b4.size
    have r4 := r3.upto b4 b4.size
    go_wp2_with fail
    refine (rrb_any a0 n c l _ h4 hc hm).mono ?_
    rintro e w5 ⟨rfl, b5⟩
    rw [HB.out]
    have t5 := t4.upto b5 b5.size
    have h5 := h4.upto b5 b5.size
    have r5 := r4.upto b5 b5.size
    go_wp2_with fail
    refine (ors_any A1 n c1 l _ t5 (by omega)).mono ?_
    rintro e w6 ⟨rfl, b6⟩
    rw [HS.out]
    have h6 := h5.upto b6 b6.size
    have r6 := r5.upto b6 b6.size
    go_wp2_with fail
    refine (rrs_any a0 n c l _ h6 (by omega)).mono ?_
    rintro e w7 ⟨rfl, b7⟩
    rw [HS.out]
    have h7 := h6.upto b7 b7.size
    have r7 := r6.upto b7 b7.size
    have q1 := int_beq (u.1 : Int)
    have q2 := int_beq (u.2.1 : Int)
    have q3 := int_beq (u.2.2 : Int)
    have q4 := int_beq (b.1 : Int)
    have q5 := int_beq (b.2 : Int)
    have q6 := int_beq (s.1 : Int)
    have q7 := int_beq (s.2 : Int)
    go_wp2_with fail
    refine (stands1_any A1 a0 (n + 1) c1 n c l _ r7 h7 hc1 hm1).mono ?_
    rintro e w8 ⟨rfl, b8'⟩
    go_wp2_with fail
    refine (known1_any _).mono ?_
    rintro e w9 ⟨rfl, b9⟩
    go_wp2
    go_ret
    exact ⟨rfl, bseq (bseq (bseq (bseq (bseq (bseq (bseq (bseq b1 b2) b3) b4) b5) b6) b7) b8') b9⟩
  · go_enter Try.func7, Try.ntmps7
    go_wp2
    go_ret
    exact ⟨rfl, Below.refl _ _⟩
end Go.Proofs.Ytaipanholndefaa
