import Derived.Test.YtaipanholndefaaKnown1
import Derived.Laws.BitsAllLaws
namespace Go.Proofs.Ytaipanholndefaa
set_option linter.all false
open Go.RowKit
theorem i64_and30 (a : Int) : ∃ r : Nat, r < 1073741824 ∧ bits .and .i64 a 1073741823 = (r : Int) := by
  have h : bits .and .i64 a 1073741823 = IntKind.i64.wrap (((BitVec.ofInt 64 a &&& BitVec.ofInt 64 1073741823).toNat : Nat) : Int) := rfl
  have hl : (BitVec.ofInt 64 a &&& BitVec.ofInt 64 1073741823).toNat ≤ 1073741823 := by
    rw [BitVec.toNat_and]; exact Nat.le_trans Nat.and_le_right (by decide)
  refine ⟨_, Nat.lt_succ_of_le hl, ?_⟩
  rw [h, IntKind.wrap_i64]
  omega
set_option maxRecDepth 100000 in
set_option maxHeartbeats 800000 in
theorem octetSees_walk (a0 : Option Addr) (n c : Nat) (l : List UInt8) (at_ : Int) (by_ : UInt8) (w : World) (h : Bs w w.heap.size a0 n l) (hc : n ≤ c) (hm : c ≤ 9223372036854775807) :
    Calls Try.prog 4 #[.slice a0 n c, .int .i64 at_, .int .u8 (by_.toNat : Int)] w (Ret (.bool true) w) := by
  have e0 := h.len
  by_cases hn : n ≤ 3000
  · by_cases h0 : n = 0
    · have q0 : ((n : Int) == 0) = true := by simp; omega
      clear h0
      go_enter Try.func4, Try.ntmps4
      go_wp2
      go_ret
      exact ⟨rfl, Below.refl _ _⟩
    · have q0 : ((n : Int) == 0) = false := by simp; omega
      by_cases hb : by_ = 0
      · have q1 : ((by_.toNat : Int) == 0) = true := by subst hb; rfl
        clear hb
        go_enter Try.func4, Try.ntmps4
        go_wp2
        go_ret
        exact ⟨rfl, Below.refl _ _⟩
      · have q1 : ((by_.toNat : Int) == 0) = false := by
          simp; intro h; exact hb (UInt8.toNat_inj.1 (by simpa using h))
        obtain ⟨r, hr, hand⟩ := i64_and30 at_
        have hb2 := by_.toNat_lt
        have HB := Lib.hid hb
        have hpos : 0 < n := by omega
        obtain ⟨k, hkn, hk⟩ : ∃ k : Nat, k < n ∧ (r : Int) % n = (k : Int) := ⟨r % n, Nat.mod_lt _ hpos, by simp⟩
        clear hb h0
        go_enter Try.func4, Try.ntmps4
        go_wp2_with (first
          | (at_builtin
             refine wpB_append rfl (.tmp 20) (.tmp 21) rfl w.heap.size _ 0 [] rfl (own_empty w _ _) w.heap.size a0 n c l rfl (h.alloc (Nat.le_refl _) _) n l (by omega) rfl (by omega) (by simp) ?_
             intro A1 c1 wa oa ba hc1 hm1
             obtain ⟨g, b, rfl, hbg, hgl, hb, hcell, hfz⟩ := own_at oa hkn
             have hx := u8_xor_byte b by_
             have HL := Lib.hid hb
             clear hb)
          | fail)
        have hne := crc_set HL.out HB.out
        have hq : (U (crc l) != U (crc (l.set k (b ^^^ by_)))) = true := by
          rw [bne_iff_ne]
          intro e
          unfold U at e
          exact hne (BitVec.eq_of_toNat_eq (by omega))
        clear hne
        have s0 : w.heap.size ≤ wa.heap.size := by have := ba.size; simp at this; omega
        have hw1 : Below w.heap.size w (wa.setCell ⟨g, k, none⟩ (.int .u8 ((b ^^^ by_).toNat : Int))) := (((Below.refl _ _).alloc (Nat.le_refl _) _).trans ba).setCell hbg _
        have r0 := (h.below hw1).more hw1.size
        have r1 := Rd.of_own (own_set (k := k) oa (b ^^^ by_))
        refine (sum_any a0 n c l _ r0 (by unfold maxLen; omega)).mono ?_
        rintro e w2 ⟨rfl, b2⟩
        go_wp2_with fail
        refine (sum_any _ n c1 (l.set k (b ^^^ by_)) _ (r1.upto b2 b2.size) (by unfold maxLen; omega)).mono ?_
        rintro e w3 ⟨rfl, b3⟩
        go_wp2_with fail
        refine (known1_any _).mono ?_
        rintro e w4 ⟨rfl, b4⟩
        go_wp2
        go_ret
        have s1 := hw1.size
        have s2 := b2.size
        have s3 := b3.size
        exact ⟨rfl, ((hw1.trans (b2.mono s1)).trans (b3.mono (Nat.le_trans s1 s2))).trans (b4.mono (Nat.le_trans (Nat.le_trans s1 s2) s3))⟩
  · go_enter Try.func4, Try.ntmps4
    go_wp2
    go_ret
    exact ⟨rfl, Below.refl _ _⟩
end Go.Proofs.Ytaipanholndefaa
