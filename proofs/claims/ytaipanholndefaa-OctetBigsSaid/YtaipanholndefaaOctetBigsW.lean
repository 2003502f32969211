import Derived.Test.YtaipanholndefaaKnown1
import Derived.Test.YtaipanholndefaaBig
import Derived.Test.YtaipanholndefaaSame1
namespace Go.Proofs.Ytaipanholndefaa
set_option linter.all false
open Go.RowKit
set_option maxRecDepth 100000 in
set_option maxHeartbeats 1600000 in
theorem octetBigs_walk (v u : Nat) (hv : v < 18446744073709551616) (hu : u < 18446744073709551616) (w : World) :
    Calls Try.prog 8 #[.int .u64 (v : Int), .int .u64 (u : Int)] w (Ret (.bool true) w) := by
  have HV := Lib.hid hv
  have HU := Lib.hid hu
  clear hv hu
  go_enter Try.func8, Try.ntmps8
  go_wp2_with fail
  refine (obig_any v HV.out _).mono ?_
  rintro e w1 ⟨A1, c1, rfl, o1, b1, hc1, hm1⟩
  go_wp2_with fail
  refine (obig_any u HU.out _).mono ?_
  rintro e w2 ⟨A2, c2, rfl, o2, b2, hc2, hm2⟩
  have r1 := (Rd.of_own o1).upto b2 b2.size
  have r2 := Rd.of_own o2
  go_wp2_with fail
  refine (rbig_any v HV.out _).mono ?_
  rintro e w3 ⟨A3, c3, rfl, o3, b3, hc3, hm3⟩
  have r3 := Rd.of_own o3
  have r13 := r1.upto b3 b3.size
  have r23 := r2.upto b3 b3.size
  go_wp2_with fail
  refine (same1_eq A1 A3 8 c1 8 c3 (big v) (big v) _ r13 r3 (by unfold maxLen; omega) rfl).mono ?_
  rintro e w4 ⟨rfl, b4⟩
  have r14 := r13.upto b4 b4.size
  have r24 := r23.upto b4 b4.size
  have k2 : (v : Int) % 4294967296 = ((v % 4294967296 : Nat) : Int) := by omega
  have K2 := Lib.hid k2
  clear k2
  go_wp2_with fail
  rw [K2.out]
  refine (osh_any (v % 4294967296) (by omega) _).mono ?_
  rintro e w5 ⟨A5, c5, rfl, o5, b5, hc5, hm5⟩
  have r5 := Rd.of_own o5
  have r15 := r14.upto b5 b5.size
  have r25 := r24.upto b5 b5.size
  go_wp2_with fail
  rw [K2.out]
  refine (rsh_any (v % 4294967296) (by omega) _).mono ?_
  rintro e w6 ⟨A6, c6, rfl, o6, b6, hc6, hm6⟩
  have r6 := Rd.of_own o6
  have r56 := r5.upto b6 b6.size
  have r16 := r15.upto b6 b6.size
  have r26 := r25.upto b6 b6.size
  go_wp2_with fail
  refine (same1_eq A5 A6 4 c5 4 c6 _ _ _ r56 r6 (by unfold maxLen; omega) rfl).mono ?_
  rintro e w7 ⟨rfl, b7⟩
  have r17 := r16.upto b7 b7.size
  have r27 := r26.upto b7 b7.size
  have HB : Hid (rb (big v) = (v, 0)) := by
    have := rb_big v HV.out []
    rwa [List.append_nil] at this
  go_wp2_with fail
  refine (orb_any A1 8 c1 (big v) _ r17 hc1 hm1).mono ?_
  rintro e w8 ⟨rfl, b8'⟩
  rw [HB.out]
  have r18 := r17.upto b8' b8'.size
  have r28 := r27.upto b8' b8'.size
  have k3 : (u : Int) % 4294967296 = ((u % 4294967296 : Nat) : Int) := by omega
  have K3 := Lib.hid k3
  clear k3
  go_wp2_with fail
  rw [K3.out]
  refine (osh_any (u % 4294967296) (by omega) _).mono ?_
  rintro e w9 ⟨A9, c9, rfl, o9, b9, hc9, hm9⟩
  have r9 := Rd.of_own o9
  have r19 := r18.upto b9 b9.size
  have r29 := r28.upto b9 b9.size
  have HS : Hid (rs (short (u % 4294967296)) = (u % 4294967296, 0)) := by
    have := rs_short_back (u % 4294967296) (by omega) []
    rwa [List.append_nil] at this
  go_wp2_with fail
  refine (ors_any A9 4 c9 _ _ r9 (by omega)).mono ?_
  rintro e w10 ⟨rfl, b10⟩
  rw [HS.out]
  have r110 := r19.upto b10 b10.size
  have r210 := r29.upto b10 b10.size
  have cv1 := run_convert_bs (P := Try.prog) r110 22 5 9 c1 Try.underlying22 Try.underlying5 Try.underlying9
  have cv2 := run_convert_bs (P := Try.prog) r210 22 5 9 c2 Try.underlying22 Try.underlying5 Try.underlying9
  have hq0 : ((v : Int) == v) = true := by simp
  have hq1 : ((u : Int) % 4294967296 == u % 4294967296) = true := by simp
  have hl : Op.bytesLess (str (big v)).toList (str (big u)).toList = decide (v < u) := by rw [str_toList, str_toList]; exact less_big v u HV.out HU.out
  go_wp2_with fail
  refine (known1_any _).mono ?_
  rintro e w11 ⟨rfl, b11⟩
  go_wp2
  go_ret
  exact ⟨rfl, bseq (bseq (bseq (bseq (bseq (bseq (bseq (bseq (bseq (bseq b1 b2) b3) b4) b5) b6) b7) b8') b9) b10) b11⟩
end Go.Proofs.Ytaipanholndefaa
