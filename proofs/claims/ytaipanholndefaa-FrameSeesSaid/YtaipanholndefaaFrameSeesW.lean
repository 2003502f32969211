import Derived.Test.YtaipanholndefaaKnown4
namespace Go.Proofs.Ytaipanholndefaa
set_option linter.all false
open Go.RowKit
set_option maxRecDepth 100000 in
set_option maxHeartbeats 1600000 in
theorem frameSees_walk (a0 a1 : Option Addr) (n c n' c' : Nat) (l l' : List UInt8) (at_ : Int) (by_ : UInt8) (w : World) (h : Bs w w.heap.size a0 n l) (h' : Bs w w.heap.size a1 n' l') (hc : n ≤ c) (hm : c ≤ 9223372036854775807) (hc' : n' ≤ c') (hm' : c' ≤ 9223372036854775807) (hsum : n + n' ≤ 9223372036854775807) :
    Calls Try.prog 11 #[.slice a0 n c, .slice a1 n' c', .int .i64 at_, .int .u8 (by_.toNat : Int)] w (Ret (.bool true) w) := by
  by_cases hn : n + n' ≤ 4000
  · by_cases hb : by_ = 0
    · have q1 : ((by_.toNat : Int) == 0) = true := by subst hb; rfl
      clear hb
      go_enter Try.func11, Try.ntmps11
      go_wp2
      go_ret
      exact ⟨rfl, Below.refl _ _⟩
    · have q1 : ((by_.toNat : Int) == 0) = false := by
        simp; intro h; exact hb (UInt8.toNat_inj.1 (by simpa using h))
      have HB := Lib.hid hb
      obtain ⟨r, hr, hand⟩ := i64_and30 at_
      obtain ⟨k, hkn, hk⟩ : ∃ k : Nat, k < n + 12 ∧ (r : Int) % ((n : Int) + 12) = (k : Int) := ⟨r % (n + 12), Nat.mod_lt _ (by omega), by simp⟩
      have e0 := h.len
      have hfl := fenc_len l
      have HL : Hid ((fenc l).length = n + 12) := by show _ = _; omega
      have q2 : ((n : Int) + 12 == 0) = false := by simp; omega
      have H5 : Hid (l.length ≤ 524288) := by show _ ≤ _; omega
      clear hfl e0 hb
      go_enter Try.func11, Try.ntmps11
      go_wp2_with fail
      refine (enc_any a0 n c l _ h (by omega)).mono ?_
      rintro e w2 ⟨A2, c2, rfl, o2, b2, hc2, hm2⟩
      rw [HL.out] at o2 hc2 ⊢
      have h2' := (h'.below b2).more b2.size
      have p2 := Rd.of_own o2
      go_wp2_with (first
        | (at_builtin
           refine wpB_append rfl (.tmp 36) (.tmp 37) rfl w2.heap.size _ 0 [] rfl (own_empty w2 _ _) w2.heap.size A2 (n + 12) c2 (fenc l) rfl (p2.alloc (Nat.le_refl _) _) (n + 12) (fenc l) (by omega) rfl (by omega) (by simp) ?_
           intro A4 c4 w4 o4 b4 hc4 hm4
           obtain ⟨g, b, rfl, hbg, hgl, hb, hcell, hfz⟩ := own_at o4 hkn
           have hx := u8_xor_byte b by_
           have HK := Lib.hid hb
           clear hb)
        | (at_builtin
           refine wpB_append rfl (.tmp 51) (.tmp 52) rfl w2.heap.size _ (n + 12) ((fenc l).set k (b ^^^ by_)) rfl (own_set o4 _) w2.heap.size a1 n' c' l' rfl (((h2'.alloc (Nat.le_refl _) _).below b4).setCell hbg _) (n + 12 + n') ((fenc l).set k (b ^^^ by_) ++ l') rfl rfl (by omega) (by have := b4.size; simp at this ⊢; omega) ?_
           intro A5 c5 w5 o5 b5 hc5 hm5)
        | fail)
      have b25 : Below w2.heap.size w2 w5 := ((((Below.refl _ _).alloc (Nat.le_refl _) _).trans b4).setCell hbg _).trans b5
      refine (dec_any A5 (n + 12 + n') c5 _ _ (Rd.of_own o5) hc5 hm5 (by omega)).mono ?_
      rw [fdec_sees l l' H5.out HK.out HB.out]
      rintro e w6 ⟨A6, c6, rfl, o6, b6, hc6, hm6⟩
      go_wp2_with fail
      refine (known4_any _).mono ?_
      rintro e w8 ⟨rfl, b8'⟩
      go_wp2
      go_ret
      exact ⟨rfl, bseq (bseq (bseq b2 b25) b6) b8'⟩
  · go_enter Try.func11, Try.ntmps11
    go_wp2
    go_ret
    exact ⟨rfl, Below.refl _ _⟩
end Go.Proofs.Ytaipanholndefaa
