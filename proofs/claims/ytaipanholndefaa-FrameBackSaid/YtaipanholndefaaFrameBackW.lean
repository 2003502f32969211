import Derived.Test.YtaipanholndefaaKnown4
import Derived.Test.YtaipanholndefaaSame4
namespace Go.Proofs.Ytaipanholndefaa
set_option linter.all false
open Go.RowKit
set_option maxRecDepth 100000 in
set_option maxHeartbeats 1600000 in
theorem frameBack_walk (a0 a1 : Option Addr) (n c n' c' : Nat) (l l' : List UInt8) (w : World) (h : Bs w w.heap.size a0 n l) (h' : Bs w w.heap.size a1 n' l') (hc : n ≤ c) (hm : c ≤ 9223372036854775807) (hc' : n' ≤ c') (hm' : c' ≤ 9223372036854775807) (hsum : n + n' ≤ 9223372036854775807) :
    Calls Try.prog 10 #[.slice a0 n c, .slice a1 n' c'] w (Ret (.bool true) w) := by
  by_cases hn : n + n' ≤ 4000
  · have e0 := h.len
    have hfl := fenc_len l
    have HL : Hid ((fenc l).length = n + 12) := by show _ = _; omega
    have HF : Hid (fdec (fenc l ++ l') = (l, n + 12, 0)) := by
      have := fdec_fenc l l' (by omega)
      rwa [e0] at this
    have E0 := Lib.hid e0
    clear hfl e0
    go_enter Try.func10, Try.ntmps10
    go_wp2_with fail
    refine (enc_any a0 n c l _ h (by omega)).mono ?_
    rintro e w2 ⟨A2, c2, rfl, o2, b2, hc2, hm2⟩
    rw [HL.out] at o2 hc2 ⊢
    have h2 := (h.below b2).more b2.size
    have h2' := (h'.below b2).more b2.size
    have p2 := Rd.of_own o2
    go_wp2_with (first
      | (at_builtin
         refine wpB_append rfl (.tmp 25) (.tmp 26) rfl w2.heap.size _ 0 [] rfl (own_empty w2 _ _) w2.heap.size A2 (n + 12) c2 (fenc l) rfl (p2.alloc (Nat.le_refl _) _) (n + 12) (fenc l) (by omega) rfl (by omega) (by simp) ?_
         intro A4 c4 w4 o4 b4 hc4 hm4)
      | (at_builtin
         refine wpB_append rfl (.tmp 27) (.tmp 28) rfl w2.heap.size _ (n + 12) (fenc l) rfl o4 w2.heap.size a1 n' c' l' rfl ((h2'.alloc (Nat.le_refl _) _).below b4) (n + 12 + n') (fenc l ++ l') rfl rfl (by omega) (by have := b4.size; simp at this; omega) ?_
         intro A5 c5 w5 o5 b5 hc5 hm5)
      | fail)
    have b25 : Below w2.heap.size w2 w5 := (((Below.refl _ _).alloc (Nat.le_refl _) _).trans b4).trans b5
    have h5 := h2.upto b25 b25.size
    refine (dec_any A5 (n + 12 + n') c5 (fenc l ++ l') _ (Rd.of_own o5) hc5 hm5 (by omega)).mono ?_
    rw [HF.out]
    rintro e w6 ⟨A6, c6, rfl, o6, b6, hc6, hm6⟩
    simp only [E0.out] at o6 hc6 ⊢
    have h6 := h5.upto b6 b6.size
    have q1 : (((n + 12 : Nat) : Int) == (n : Int) + 12) = true := by simp
    go_wp2_with fail
    refine (same4_eq A6 a0 n c6 n c l l _ (Rd.of_own o6) h6 (by unfold maxLen; omega) rfl).mono ?_
    rintro e w7 ⟨rfl, b7⟩
    go_wp2_with fail
    refine (known4_any _).mono ?_
    rintro e w8 ⟨rfl, b8'⟩
    go_wp2
    go_ret
    exact ⟨rfl, bseq (bseq (bseq (bseq b2 b25) b6) b7) b8'⟩
  · go_enter Try.func10, Try.ntmps10
    go_wp2
    go_ret
    exact ⟨rfl, Below.refl _ _⟩
end Go.Proofs.Ytaipanholndefaa
