/- frame.Encode and scrivenerref4.Encode: each answers the record in memory of its own. -/
import Derived.Test.YtaipanholndefaaBig
import Derived.Test.YtaipanholndefaaSum
import Derived.Test.YtaipanholndefaaFramep
namespace Go.Proofs.Ytaipanholndefaa
set_option linter.all false
open Go.RowKit
/-- Behind a call: it answers bytes of its own, and an error's number. -/
def RetE (l : List UInt8) (er : Nat) (w : World) (e : Ending) (w' : World) : Prop :=
  ∃ A c, e = .returned (.tuple #[.slice A l.length c, .int .i64 (er : Int)]) ∧ w'.ownsRow w.heap.size 5 1 (.slice A l.length c) l.length (l.map bv) ∧ Below w.heap.size w w' ∧ l.length ≤ c ∧ c ≤ 9223372036854775807
theorem sumn_any (A1 : Option Addr) (n1 c1 : Nat) (l1 : List UInt8) (w : World) (h1 : Bs w w.heap.size A1 n1 l1) (m1 : n1 ≤ 9223372036854775807) :
    Calls Try.prog 14 #[.slice A1 n1 c1] w (Ret (.int .u32 (cn l1 : Int)) w) := sum_any A1 n1 c1 l1 w h1 m1
theorem rsumn_any (A1 : Option Addr) (n1 c1 : Nat) (l1 : List UInt8) (w : World) (h1 : Bs w w.heap.size A1 n1 l1) (m1 : n1 ≤ 9223372036854775807) :
    Calls Try.prog 15 #[.slice A1 n1 c1] w (Ret (.int .u32 (cn l1 : Int)) w) := rsum_any A1 n1 c1 l1 w h1 m1

set_option maxHeartbeats 800000 in
theorem headOf_any (n : Nat) (hn : n < 4294967296) (w : World) :
    Calls Try.prog 47 #[.int .u32 (n : Int)] w (Ret (.int .u64 (hd n : Int)) w) := by
  have hc := cn_lt (short n)
  have HO := Lib.hid (or64_join n (cn (short n)) hn hc)
  go_enter Try.func47, Try.ntmps47
  go_wp2_with fail
  refine (osh_any n hn _).mono ?_
  rintro e w1 ⟨A1, c1, rfl, o1, b1, hc1, hm1⟩
  go_wp2_with fail
  refine (sumn_any A1 4 c1 (short n) _ (Rd.of_own o1) (by omega)).mono ?_
  rintro e w2 ⟨rfl, b2⟩
  go_wp2
  go_ret
  refine ⟨?_, bseq b1 b2⟩
  exact congrArg (fun i => Ending.returned (.int .u64 i)) HO.out

set_option maxRecDepth 100000 in
set_option maxHeartbeats 800000 in
theorem enc_any (A : Option Addr) (n c : Nat) (p : List UInt8) (w : World) (h : Bs w w.heap.size A n p) (hn : n ≤ 524288) :
    Calls Try.prog 36 #[.slice A n c] w (RetE (fenc p) 0 w) := by
  have e0 := h.len
  have L1 := Lib.hid (fbody_len p)
  have L2 := Lib.hid (fenc_len p)
  have E0 := Lib.hid e0
  clear e0
  go_enter Try.func36, Try.ntmps36
  go_wp2_with fail
  refine (headOf_any n (by omega) _).mono ?_
  rintro e w1 ⟨rfl, b1⟩
  have h1 := (h.below b1).more b1.size
  go_wp2_with fail
  refine (obig_any (hd n) (hd_lt n (by omega)) _).mono ?_
  rintro e w2 ⟨A2, c2, rfl, o2, b2, hc2, hm2⟩
  have h2 := h1.upto b2 b2.size
  have HB : Hid (fbody p = big (hd n) ++ p) := by show _ = _; rw [← E0.out, fbody_big]
  go_wp2_with (first
    | (at_builtin
       refine wpB_append rfl (.tmp 12) (.tmp 13) rfl w1.heap.size _ 8 (big (hd n)) rfl o2 w2.heap.size A n c p rfl h2 (8 + n) (fbody p) rfl HB.out (by omega) b2.size ?_
       intro A3 c3 w3 o3 b3 hc3 hm3)
    | fail)
  refine (sumn_any A3 (8 + n) c3 (fbody p) _ (Rd.of_own o3) (by omega)).mono ?_
  rintro e w4 ⟨rfl, b4⟩
  have hcn := cn_lt (fbody p)
  go_wp2_with fail
  refine (osh_any (cn (fbody p)) hcn _).mono ?_
  rintro e w5 ⟨A5, c5, rfl, o5, b5, hc5, hm5⟩
  have s1 := b1.size
  have s2 := b2.size
  have s3 := b3.size
  have s4 := b4.size
  have s5 := b5.size
  go_wp2_with (first
    | (at_builtin
       refine wpB_append rfl (.tmp 15) (.tmp 18) rfl w.heap.size _ (8 + n) (fbody p) rfl (own_more (own_below (own_below o3 b4) b5) (by omega)) w5.heap.size A5 4 c5 (short (cn (fbody p))) rfl (Rd.of_own o5) (8 + n + 4) (fenc p) rfl rfl (by omega) (by omega) ?_
       intro A6 c6 w6 o6 b6 hc6 hm6))
  go_ret2
  have hlen : (fenc p).length = 8 + n + 4 := by rw [L2.out, E0.out]; omega
  unfold RetE
  rw [hlen]
  exact ⟨A6, c6, rfl, o6, ((((b1.trans (b2.mono s1)).trans (b3.mono (by omega))).trans (b4.mono (by omega))).trans (b5.mono (by omega))).trans b6, hc6, hm6⟩

set_option maxRecDepth 100000 in
set_option maxHeartbeats 800000 in
theorem renc_any (A : Option Addr) (n c : Nat) (p : List UInt8) (w : World) (h : Bs w w.heap.size A n p) (hn : n ≤ 524288) :
    Calls Try.prog 37 #[.slice A n c] w (RetE (fenc p) 0 w) := by
  have e0 := h.len
  have L2 := Lib.hid (fenc_len p)
  have E0 := Lib.hid e0
  clear e0
  go_enter Try.func37, Try.ntmps37
  go_wp2_with fail
  refine (rsh_any n (by omega) _).mono ?_
  rintro e w1 ⟨A1, c1, rfl, o1, b1, hc1, hm1⟩
  have h1 := (h.below b1).more b1.size
  go_wp2_with fail
  refine (rsumn_any A1 4 c1 (short n) _ (Rd.of_own o1) (by omega)).mono ?_
  rintro e w2 ⟨rfl, b2⟩
  have h2 := h1.upto b2 b2.size
  have hcn := cn_lt (short n)
  go_wp2_with fail
  refine (rsh_any (cn (short n)) hcn _).mono ?_
  rintro e w3 ⟨A3, c3, rfl, o3, b3, hc3, hm3⟩
  have h3 := h2.upto b3 b3.size
  have s1 := b1.size
  have s2 := b2.size
  have s3 := b3.size
  have HB : Hid (fbody p = short n ++ short (cn (short n)) ++ p) := by show _ = _; rw [← E0.out]; rfl
  go_wp2_with (first
    | (at_builtin
       refine wpB_append rfl (.tmp 12) (.tmp 15) rfl w.heap.size _ 4 (short n) rfl (own_below (own_below o1 b2) b3) w3.heap.size A3 4 c3 (short (cn (short n))) rfl (Rd.of_own o3) 8 (short n ++ short (cn (short n))) rfl rfl (by omega) (by omega) ?_
       intro A4 c4 w4 o4 b4 hc4 hm4)
    | (at_builtin
       refine wpB_append rfl (.tmp 17) (.tmp 18) rfl w.heap.size _ 8 (short n ++ short (cn (short n))) rfl o4 w.heap.size A n c p rfl (((h.below b1).below (b2.mono (by omega)) |>.below (b3.mono (by omega))).below b4) (8 + n) (fbody p) rfl HB.out (by omega) (by have := b4.size; omega) ?_
       intro A5 c5 w5 o5 b5 hc5 hm5)
    | fail)
  have s4 := b4.size
  have s5 := b5.size
  refine (rsumn_any A5 (8 + n) c5 (fbody p) _ (Rd.of_own o5) (by omega)).mono ?_
  rintro e w6 ⟨rfl, b6⟩
  have s6 := b6.size
  have hcn := cn_lt (fbody p)
  go_wp2_with fail
  refine (rsh_any (cn (fbody p)) hcn _).mono ?_
  rintro e w7 ⟨A7, c7, rfl, o7, b7, hc7, hm7⟩
  have s7 := b7.size
  go_wp2_with (first
    | (at_builtin
       refine wpB_append rfl (.tmp 20) (.tmp 23) rfl w.heap.size _ (8 + n) (fbody p) rfl (own_below (own_below o5 b6) b7) w7.heap.size A7 4 c7 (short (cn (fbody p))) rfl (Rd.of_own o7) (8 + n + 4) (fenc p) rfl rfl (by omega) (by omega) ?_
       intro A8 c8 w8 o8 b8' hc8 hm8))
  go_ret2
  have hlen : (fenc p).length = 8 + n + 4 := by rw [L2.out, E0.out]; omega
  unfold RetE
  rw [hlen]
  exact ⟨A8, c8, rfl, o8, ((((((b1.trans (b2.mono s1)).trans (b3.mono (by omega))).trans b4).trans b5).trans (b6.mono (by omega))).trans (b7.mono (by omega))).trans b8', hc8, hm8⟩
end Go.Proofs.Ytaipanholndefaa
