/- octet.Uvarint and scrivenerref1.Uvarint: each answers 'uv 9 v' in memory of its own. -/
import Derived.Test.YtaipanholndefaaMem
import Derived.Test.YtaipanholndefaaUvp
import Derived.LoopTactic
namespace Go.Proofs.Ytaipanholndefaa
set_option linter.all false
open Go.RowKit
theorem u8_wrap_nat (v : Nat) : (v : Int) % 256 = (((b8 v).toNat : Nat) : Int) := by unfold b8; rw [UInt8.toNat_ofNat']; omega
theorem or128 (n : Nat) (h : n < 256) : n ||| 128 = n % 128 + 128 := by
  have : ∀ k : Fin 256, k.1 ||| 128 = k.1 % 128 + 128 := by decide +kernel
  exact this ⟨n, h⟩
theorem o_byte (x : Nat) : bits .or .u8 ((x : Int) % 256) 128 = (((b8 (x % 128 + 128)).toNat : Nat) : Int) := by
  rw [show (x : Int) % 256 = ((x % 256 : Nat) : Int) from by omega, show (128 : Int) = ((128 : Nat) : Int) from rfl, u8_or_nat _ _ (by omega) (by decide), or128 _ (by omega), ofNat_toNat _ (by omega)]
  omega
theorem r_and (x : Nat) (h : x < 18446744073709551616) : bits .and .u64 (x : Int) 127 = (x : Int) % 128 := by
  rw [show (127 : Int) = ((127 : Nat) : Int) from rfl, u64_and_nat _ _ h (by decide), show x &&& 127 = x % 128 from Nat.and_two_pow_sub_one_eq_mod x 7]
  omega
theorem r_byte (x : Nat) : bits .or .u8 ((x : Int) % 128) 128 = (((b8 (x % 128 + 128)).toNat : Nat) : Int) := by
  rw [show (x : Int) % 128 = ((x % 128 : Nat) : Int) from by omega, show (128 : Int) = ((128 : Nat) : Int) from rfl, u8_or_nat _ _ (by omega) (by decide), or128 _ (by omega), ofNat_toNat _ (by omega)]
  omega
set_option maxRecDepth 100000 in
set_option maxHeartbeats 1600000 in
theorem ouv_any (v : Nat) (hv : v < 18446744073709551616) (w : World) :
    Calls Try.prog 22 #[.int .u64 (v : Int)] w (RetOwn 5 1 (uv 9 v).length ((uv 9 v).map bv) w) := by
  go_enter Try.func22, Try.ntmps22
  go_wp2
  go_loopw [0, 3] (fun s0 s3 wr => ∃ (x f n c : Nat) (A : Option Addr) (p : List UInt8), s0 = .int .u64 (x : Int) ∧ s3 = .slice A n c ∧ n + f = 9 ∧ Hid (x < 2 ^ (7 * f + 1) ∧ uv 9 v = p ++ uv f x ∧ p.length = n) ∧ x < 18446744073709551616 ∧ wr.ownsRow w.heap.size 5 1 (.slice A n c) n (p.map bv) ∧ Below w.heap.size w wr) (fun s0 _ _ => (intOf s0).toNat)
  case atStart => exact ⟨v, 9, 0, 0, none, [], rfl, rfl, rfl, ⟨hv, rfl, rfl⟩, hv, World.ownsRow_nil _ _ _ _, Below.refl _ _⟩
  case round =>
    obtain ⟨x, f, n, c, A, p, rfl, rfl, hnf, HX, hx64, ho, hb⟩ := hrel
    by_cases hx : 128 ≤ x
    · have hbyte := o_byte x
      go_wp2_with (first
        | (at_builtin
           refine wpB_append rfl (.tmp 8) (.tmp 12) rfl w.heap.size _ n p rfl (ho.alloc _) (wr.heap.size + 1) (some ⟨wr.heap.size, 0, none⟩) 1 1 [b8 (x % 128 + 128)] rfl (Rd.one_new _ _ _) (n + 1) _ rfl rfl (by omega) (by have := hb.size; simp; omega) ?_
           intro A2 c2 w2 o2 b2 hc2 hm2))
      have hb3 := (hb.alloc hb.size (Obj.cells #[Value.int IntKind.u8 ((b8 (x % 128 + 128)).toNat : Int)] 5)).trans b2
      clear hbyte b2
      go_roundw
      case rel =>
        obtain ⟨h1, h2, h3⟩ := HX.out
        have hf : f ≠ 0 := by
          rintro rfl
          simp at h1
          omega
        obtain ⟨f', rfl⟩ := Nat.exists_eq_succ_of_ne_zero hf
        refine ⟨x / 128, f', n + 1, c2, A2, p ++ [b8 (x % 128 + 128)], congrArg (Value.int .u64) (by omega), rfl, by omega, ⟨?_, ?_, by simp [h3]⟩, by omega, o2, hb3⟩
        · have e : 2 ^ (7 * (f' + 1) + 1) = 128 * 2 ^ (7 * f' + 1) := by rw [show 7 * (f' + 1) + 1 = 7 * f' + 1 + 7 from by omega, Nat.pow_add, Nat.mul_comm]
          rw [Nat.succ_eq_add_one, e] at h1
          omega
        · rw [h2]
          show p ++ uv (f' + 1) x = _
          rw [uv, if_neg (by omega)]
          simp
      case measure => simp [intOf]; omega
    · have hbyte : (x : Int) = (((b8 x).toNat : Nat) : Int) := by rw [ofNat_toNat _ (by omega)]
      have HB := Lib.hid hbyte
      clear hbyte
      go_wp2_with (first
        | (at_builtin
           refine wpB_append rfl (.tmp 14) (.tmp 17) rfl w.heap.size _ n p rfl (ho.alloc _) (wr.heap.size + 1) (some ⟨wr.heap.size, 0, none⟩) 1 1 [b8 x] rfl (Bs.one_new _ _ _ _ HB.out) (n + 1) _ rfl rfl (by omega) (by have := hb.size; simp; omega) ?_
           intro A2 c2 w2 o2 b2 hc2 hm2))
      go_ret
      obtain ⟨h1, h2, h3⟩ := HX.out
      have e : uv 9 v = p ++ [b8 x] := by
        rw [h2]
        cases f with
        | zero => rfl
        | succ f => rw [uv, if_pos (by omega)]
      have el : (uv 9 v).length = n + 1 := by rw [e]; simp [h3]
      rw [el, e]
      exact ⟨A2, c2, rfl, o2, (hb.alloc hb.size _).trans b2, hc2, hm2⟩
set_option maxRecDepth 100000 in
set_option maxHeartbeats 1600000 in
theorem ruv_any (v : Nat) (hv : v < 18446744073709551616) (w : World) :
    Calls Try.prog 24 #[.int .u64 (v : Int)] w (RetOwn 5 1 (uv 9 v).length ((uv 9 v).map bv) w) := by
  go_enter Try.func24, Try.ntmps24
  go_wp2
  go_loopw [0, 3] (fun s0 s3 wr => ∃ (x f n c : Nat) (A : Option Addr) (p : List UInt8), s0 = .int .u64 (x : Int) ∧ s3 = .slice A n c ∧ n + f = 9 ∧ Hid (x < 2 ^ (7 * f + 1) ∧ uv 9 v = p ++ uv f x ∧ p.length = n) ∧ x < 18446744073709551616 ∧ wr.ownsRow w.heap.size 5 1 (.slice A n c) n (p.map bv) ∧ Below w.heap.size w wr) (fun s0 _ _ => (intOf s0).toNat)
  case atStart => exact ⟨v, 9, 0, 0, none, [], rfl, rfl, rfl, ⟨hv, rfl, rfl⟩, hv, World.ownsRow_nil _ _ _ _, Below.refl _ _⟩
  case round =>
    obtain ⟨x, f, n, c, A, p, rfl, rfl, hnf, HX, hx64, ho, hb⟩ := hrel
    by_cases hx : 128 ≤ x
    · have hand := r_and x hx64
      have hbyte := r_byte x
      go_wp2_with (first
        | (at_builtin
           refine wpB_append rfl (.tmp 6) (.tmp 11) rfl w.heap.size _ n p rfl (ho.alloc _) (wr.heap.size + 1) (some ⟨wr.heap.size, 0, none⟩) 1 1 [b8 (x % 128 + 128)] rfl (Rd.one_new _ _ _) (n + 1) _ rfl rfl (by omega) (by have := hb.size; simp; omega) ?_
           intro A2 c2 w2 o2 b2 hc2 hm2))
      have hb3 := (hb.alloc hb.size (Obj.cells #[Value.int IntKind.u8 ((b8 (x % 128 + 128)).toNat : Int)] 5)).trans b2
      clear hbyte b2 hand
      go_roundw
      case rel =>
        obtain ⟨h1, h2, h3⟩ := HX.out
        have hf : f ≠ 0 := by
          rintro rfl
          simp at h1
          omega
        obtain ⟨f', rfl⟩ := Nat.exists_eq_succ_of_ne_zero hf
        refine ⟨x / 128, f', n + 1, c2, A2, p ++ [b8 (x % 128 + 128)], congrArg (Value.int .u64) (by omega), rfl, by omega, ⟨?_, ?_, by simp [h3]⟩, by omega, o2, hb3⟩
        · have e : 2 ^ (7 * (f' + 1) + 1) = 128 * 2 ^ (7 * f' + 1) := by rw [show 7 * (f' + 1) + 1 = 7 * f' + 1 + 7 from by omega, Nat.pow_add, Nat.mul_comm]
          rw [Nat.succ_eq_add_one, e] at h1
          omega
        · rw [h2]
          show p ++ uv (f' + 1) x = _
          rw [uv, if_neg (by omega)]
          simp
      case measure => simp [intOf]; omega
    · have hbyte : (x : Int) = (((b8 x).toNat : Nat) : Int) := by rw [ofNat_toNat _ (by omega)]
      have HB := Lib.hid hbyte
      clear hbyte
      go_wp2_with (first
        | (at_builtin
           refine wpB_append rfl (.tmp 15) (.tmp 18) rfl w.heap.size _ n p rfl (ho.alloc _) (wr.heap.size + 1) (some ⟨wr.heap.size, 0, none⟩) 1 1 [b8 x] rfl (Bs.one_new _ _ _ _ HB.out) (n + 1) _ rfl rfl (by omega) (by have := hb.size; simp; omega) ?_
           intro A2 c2 w2 o2 b2 hc2 hm2))
      go_ret
      obtain ⟨h1, h2, h3⟩ := HX.out
      have e : uv 9 v = p ++ [b8 x] := by
        rw [h2]
        cases f with
        | zero => rfl
        | succ f => rw [uv, if_pos (by omega)]
      have el : (uv 9 v).length = n + 1 := by rw [e]; simp [h3]
      rw [el, e]
      exact ⟨A2, c2, rfl, o2, (hb.alloc hb.size _).trans b2, hc2, hm2⟩
end Go.Proofs.Ytaipanholndefaa
