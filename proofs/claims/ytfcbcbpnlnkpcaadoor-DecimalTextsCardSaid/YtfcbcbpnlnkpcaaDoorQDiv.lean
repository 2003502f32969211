/- bits.Div64 by ten: the library's own text is walked. -/
import Derived.Test.YtfcbcbpnlnkpcaaDoorQLayd
import Derived.Lib.VarintBits
import Derived.Lib.EndianBits
import Derived.LoopTactic
import Derived.StillTailTactics
import Derived.Deep.QuietTactic
import Derived.BigQuiet
import Derived.Deep.Cut
import Derived.Outline
namespace Go.Proofs.YtfcbcbpnlnkpcaaDoor
set_option linter.all false
open Go.RowKit
set_option maxRecDepth 100000 in
set_option maxHeartbeats 1600000 in
theorem div64_small (l : Nat) (hl : l < 18446744073709551616) (w : World) :
    Calls Tryd.prog 53 #[.int .u64 0, .int .u64 l, .int .u64 10] w (RetQ (.tuple #[.int .u64 ((l / 10 : Nat) : Int), .int .u64 ((l % 10 : Nat) : Int)]) w) := by
  go_enter Tryd.func53, Tryd.ntmps53
  go_wp2_with fail
  go_quiet (fail)
  go_wp2_with fail
  go_ret2
  exact ⟨by rw [Int.natCast_ediv, Int.natCast_emod]; rfl, ⟨_, rfl⟩⟩
/-- The steps of Div64 at ten, in Nat. -/
def DivHyp (h l U V Q R S P T : Nat) : Prop :=
  U = h * 1152921504606846976 + l / 16 ∧ V = l % 16 * 268435456 ∧ Q = U / 2684354560 ∧ R = U % 2684354560 ∧ S = R * 4294967296 + V ∧ P = S / 2684354560 ∧ T = S % 2684354560
theorem u64w {x : Int} {y : Nat} (h : x % 18446744073709551616 = (y : Int)) : IntKind.u64.wrap x = (y : Int) := by rw [IntKind.wrap_u64]; exact h
theorem u64_low32 (x : Int) (h₀ : 0 ≤ x) (h₁ : x < 18446744073709551616) : bits .and .u64 x 4294967295 = x % 4294967296 := bits_mask .u64 64 (by decide) wraps_u64 32 (by decide) x h₀ h₁
theorem div_bounds {h l U V Q R S P T : Nat} (H : DivHyp h l U V Q R S P T) (h1 : h < 10) (hl : l < 18446744073709551616) :
    U < 11529215046068469760 ∧ V < 4294967296 ∧ Q < 4294967296 ∧ R < 2684354560 ∧ S < 11529215046068469760 ∧ P < 4294967296 ∧ T < 2684354560 := by
  obtain ⟨hU, hV, hQ, hR, hS, hP, hT⟩ := H
  have a : U < 11529215046068469760 := by clear hV hQ hR hS hP hT; omega
  have b : V < 4294967296 := by clear hU hQ hR hS hP hT; omega
  have c : R < 2684354560 := by clear hU hV hQ hS hP hT; omega
  have d : S < 11529215046068469760 := by
    have : S ≤ 2684354559 * 4294967296 + V := by rw [hS]; exact Nat.add_le_add_right (Nat.mul_le_mul_right _ (by omega)) _
    have : V ≤ 15 * 268435456 := by rw [hV]; exact Nat.mul_le_mul_right _ (by omega)
    omega
  exact ⟨a, b, by rw [hQ]; exact Nat.div_lt_of_lt_mul (by omega), c, d, by rw [hP]; exact Nat.div_lt_of_lt_mul (by omega), by rw [hT]; exact Nat.mod_lt _ (by decide)⟩
theorem div_eq {h l U V Q R S P T : Nat} (H : DivHyp h l U V Q R S P T) : h * 18446744073709551616 + l = 10 * (Q * 4294967296 + P) + T / 268435456 ∧ T % 268435456 = 0 := by
  obtain ⟨hU, hV, hQ, hR, hS, hP, hT⟩ := H
  have a1 : 2684354560 * Q + R = U := by rw [hQ, hR]; exact Nat.div_add_mod _ _
  have a2 : 2684354560 * P + T = S := by rw [hP, hT]; exact Nat.div_add_mod _ _
  have a3 : 16 * (l / 16) + l % 16 = l := Nat.div_add_mod _ _
  clear hQ hR hP hT
  generalize l / 16 = b at *
  generalize l % 16 = a at *
  have e1 : S = 268435456 * (16 * R + a) := by rw [hS, hV]; omega
  have e2 : T = 268435456 * (16 * R + a - 10 * P) := by omega
  have e3 : 10 * P ≤ 16 * R + a := by omega
  generalize 16 * R + a - 10 * P = t at e2
  have e4 : 16 * R + a = 10 * P + t := by omega
  clear e1 a2 hS hV
  subst e2
  rw [Nat.mul_div_cancel_left _ (by decide), Nat.mul_mod_right]
  exact ⟨by omega, rfl⟩
theorem div_f1 {h l U V Q R S P T : Nat} (H : DivHyp h l U V Q R S P T) (h1 : h < 10) (hl : l < 18446744073709551616) :
    bits .or .u64 ((h : Int) * 1152921504606846976) ((l : Int) / 16) = (U : Int) := by
  obtain ⟨hU, _⟩ := H
  rw [bits_join .u64 64 (by decide) wraps_u64 60 _ _ (by omega) (by omega) (by omega) (by omega) (by omega) (by omega)]
  omega
theorem div_f2 {l : Nat} : IntKind.u64.wrap ((l : Int) * 1152921504606846976) = ((l % 16 * 1152921504606846976 : Nat) : Int) := by
  refine u64w ?_
  omega
theorem div_f3 {a : Nat} (h : a < 16) : bits .and .u64 ((a * 1152921504606846976 : Nat) : Int) 4294967295 = 0 := by
  have := u64_low32 ((a * 1152921504606846976 : Nat) : Int) (by omega) (by omega)
  rw [this]
  omega
theorem div_f4 {a : Nat} : ((a * 1152921504606846976 : Nat) : Int) / 4294967296 = ((a * 268435456 : Nat) : Int) := by omega
theorem div_q {a : Nat} (h : a < 18446744073709551616) : IntKind.u64.wrap ((a : Int).tdiv 2684354560) = ((a / 2684354560 : Nat) : Int) := by
  rw [Int.tdiv_eq_ediv_of_nonneg (by omega)]; exact u64w (by omega)
theorem div_r {a : Nat} (h : a < 18446744073709551616) : IntKind.u64.wrap ((a : Int) - IntKind.u64.wrap (((a / 2684354560 : Nat) : Int) * 2684354560)) = ((a % 2684354560 : Nat) : Int) := by
  simp only [IntKind.wrap_u64]; omega
theorem div_s {h l U V Q R S P T : Nat} (H : DivHyp h l U V Q R S P T) (h1 : h < 10) (hl : l < 18446744073709551616) :
    IntKind.u64.wrap (IntKind.u64.wrap (IntKind.u64.wrap ((U : Int) * 4294967296) + V) - IntKind.u64.wrap ((Q : Int) * 11529215046068469760)) = (S : Int) := by
  have B := div_bounds H h1 hl
  obtain ⟨hU, hV, hQ, hR, hS, hP, hT⟩ := H
  have a1 : 2684354560 * Q + R = U := by rw [hQ, hR]; exact Nat.div_add_mod _ _
  have hSl := B.2.2.2.2.1
  clear hU hV hQ hR hP hT B
  simp only [IntKind.wrap_u64]
  rw [Int.emod_add_emod, Int.sub_emod, Int.emod_emod, Int.emod_emod, ← Int.sub_emod]
  rw [show (U : Int) * 4294967296 + V - (Q : Int) * 11529215046068469760 = (S : Int) from by omega]
  omega
theorem div_quo {h l U V Q R S P T : Nat} (H : DivHyp h l U V Q R S P T) (h1 : h < 10) (hl : l < 18446744073709551616) :
    IntKind.u64.wrap (IntKind.u64.wrap ((Q : Int) * 4294967296) + P) = (((h * 18446744073709551616 + l) / 10 : Nat) : Int) := by
  have B := div_bounds H h1 hl
  have E := div_eq H
  have e2 : T / 268435456 < 10 := Nat.div_lt_of_lt_mul (by omega)
  have e3 : (h * 18446744073709551616 + l) / 10 = Q * 4294967296 + P := by rw [E.1]; omega
  rw [e3]
  refine u64w ?_
  have b3 := B.2.2.1; have b6 := B.2.2.2.2.2.1
  clear B E e2 e3 H
  rw [IntKind.wrap_u64, Int.emod_add_emod]
  omega
theorem div_rem {h l U V Q R S P T : Nat} (H : DivHyp h l U V Q R S P T) (h1 : h < 10) (hl : l < 18446744073709551616) :
    IntKind.u64.wrap (IntKind.u64.wrap ((S : Int) * 4294967296) - IntKind.u64.wrap ((P : Int) * 11529215046068469760)) / 1152921504606846976 = (((h * 18446744073709551616 + l) % 10 : Nat) : Int) := by
  have B := div_bounds H h1 hl
  have E := div_eq H
  have e2 : T / 268435456 < 10 := Nat.div_lt_of_lt_mul (by omega)
  have e3 : (h * 18446744073709551616 + l) % 10 = T / 268435456 := by rw [E.1]; omega
  rw [e3]
  have b7 := B.2.2.2.2.2.2
  have a2 : 2684354560 * P + T = S := by rw [H.2.2.2.2.2.1, H.2.2.2.2.2.2]; exact Nat.div_add_mod _ _
  clear B E e3 H
  simp only [IntKind.wrap_u64]
  rw [Int.sub_emod, Int.emod_emod, Int.emod_emod, ← Int.sub_emod, show (S : Int) * 4294967296 - (P : Int) * 11529215046068469760 = (T : Int) * 4294967296 from by omega]
  omega
set_option maxRecDepth 100000 in
set_option maxHeartbeats 3200000 in
theorem div64_big (h l : Nat) (h0 : 0 < h) (h1 : h < 10) (hl : l < 18446744073709551616) (w : World) :
    Calls Tryd.prog 53 #[.int .u64 h, .int .u64 l, .int .u64 10] w (RetQ (.tuple #[.int .u64 (((h * 18446744073709551616 + l) / 10 : Nat) : Int), .int .u64 (((h * 18446744073709551616 + l) % 10 : Nat) : Int)]) w) := by
  obtain ⟨U, V, Q, R, S, P, T, H⟩ : ∃ U V Q R S P T, DivHyp h l U V Q R S P T := ⟨_, _, _, _, _, _, _, rfl, rfl, rfl, rfl, rfl, rfl, rfl⟩
  have HH := Lib.hid H
  have a16 : l % 16 < 16 := Nat.mod_lt _ (by decide)
  have F := Lib.hid (div_bounds H h1 hl)
  clear H
  have t1 : ¬ ((10 : Int) ≤ (h : Int)) := by omega
  have t2 : ¬ ((h : Int) = 0) := by omega
  go_enter Tryd.func53, Tryd.ntmps53
  go_wp2_with (go_at_call 75; refine (lz10 _).mono ?_; rintro e w' ⟨rfl, rfl⟩)
  rw [show bits .and .u64 11529215046068469760 4294967295 = 0 from (u64_low32 _ (by decide) (by decide)).trans rfl,
    div_f1 HH.out h1 hl, div_f2, div_f3 a16, div_f4, ← HH.out.2.1, div_q (Nat.lt_trans F.out.1 (by decide)), ← HH.out.2.2.1]
  rw [show IntKind.u64.wrap ((U : Int) - IntKind.u64.wrap ((Q : Int) * 2684354560)) = (R : Int) from by rw [HH.out.2.2.1, HH.out.2.2.2.1]; exact div_r (Nat.lt_trans F.out.1 (by decide))]
  refine wp_loop_once ?_
  have t3 : ¬ ((4294967296 : Int) ≤ (Q : Int)) := by have := F.out.2.2.1; omega
  have t4 : ¬ (IntKind.u64.wrap (IntKind.u64.wrap (4294967296 * (R : Int)) + V) < 0) := by simp only [IntKind.wrap_u64]; omega
  go_wp2_with fail
  rw [div_s HH.out h1 hl, div_q (Nat.lt_trans F.out.2.2.2.2.1 (by decide)), ← HH.out.2.2.2.2.2.1]
  rw [show IntKind.u64.wrap ((S : Int) - IntKind.u64.wrap ((P : Int) * 2684354560)) = (T : Int) from by rw [HH.out.2.2.2.2.2.1, HH.out.2.2.2.2.2.2]; exact div_r (Nat.lt_trans F.out.2.2.2.2.1 (by decide))]
  refine wp_loop_once ?_
  have t5 : ¬ ((4294967296 : Int) ≤ (P : Int)) := by have := F.out.2.2.2.2.2.1; omega
  obtain ⟨X, hX, hXl⟩ : ∃ X : Nat, IntKind.u64.wrap (4294967296 * (T : Int)) = (X : Int) ∧ X < 18446744073709551616 := ⟨4294967296 * T, u64w (by have := F.out.2.2.2.2.2.2; omega), by have := F.out.2.2.2.2.2.2; omega⟩
  have hX2 : IntKind.u64.wrap (X : Int) = (X : Int) := u64w (by omega)
  have t7 : ¬ ((X : Int) < 0) := by omega
  go_upto_region 28 with fail
  clear t3 t4 t5 t7 hX hX2 hXl
  have G1 : Hid (IntKind.u64.wrap (IntKind.u64.wrap ((S : Int) * 4294967296) - IntKind.u64.wrap ((P : Int) * 11529215046068469760)) / 1152921504606846976 = (((h * 18446744073709551616 + l) % 10 : Nat) : Int)) := div_rem HH.out h1 hl
  have G2 : Hid (IntKind.u64.wrap (IntKind.u64.wrap ((Q : Int) * 4294967296) + P) = (((h * 18446744073709551616 + l) / 10 : Nat) : Int)) := div_quo HH.out h1 hl
  generalize (((h * 18446744073709551616 + l) / 10 : Nat) : Int) = quo at *
  generalize (((h * 18446744073709551616 + l) % 10 : Nat) : Int) = rem at *
  go_wp2_with fail
  rw [G2.out, show IntKind.u64.wrap (IntKind.u64.wrap ((S : Int) * 4294967296)) = IntKind.u64.wrap ((S : Int) * 4294967296) from by rw [IntKind.wrap_u64, IntKind.wrap_u64]; exact Int.emod_emod _ _, G1.out]
  go_ret2
  exact ⟨rfl, 0, rfl⟩
theorem div64_any (h l : Nat) (h1 : h < 10) (hl : l < 18446744073709551616) (w : World) :
    Calls Tryd.prog 53 #[.int .u64 h, .int .u64 l, .int .u64 10] w (RetQ (.tuple #[.int .u64 (((h * 18446744073709551616 + l) / 10 : Nat) : Int), .int .u64 (((h * 18446744073709551616 + l) % 10 : Nat) : Int)]) w) := by
  by_cases h0 : 0 < h
  · exact div64_big h l h0 h1 hl w
  · obtain rfl : h = 0 := by omega
    have := div64_small l hl w
    simpa using this
end Go.Proofs.YtfcbcbpnlnkpcaaDoor
