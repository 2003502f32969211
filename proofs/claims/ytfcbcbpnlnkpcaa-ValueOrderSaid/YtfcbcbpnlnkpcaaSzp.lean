/- How many nodes, how deep: the plain law. -/
import Derived.Test.YtfcbcbpnlnkpcaaVal
namespace Go.Proofs.Ytfcbcbpnlnkpcaa
set_option linter.all false
open Go.RowKit
/-- How many nodes a forest has; how deep it is. -/
def szF : F → Nat
  | .nil => 0
  | .cons _ k r => szF k + 1 + szF r
def dpF : F → Nat
  | .nil => 0
  | .cons _ k r => max (dpF k + 1) (dpF r)
theorem szF_drop {f : F} {i : Nat} {n : Nd} {k : F} (h : f.get i = some (n, k)) : szF (f.drop i) = szF k + 1 + szF (f.drop (i + 1)) := by rw [F.drop_get f i h]; rfl
theorem dpF_drop {f : F} {i : Nat} {n : Nd} {k : F} (h : f.get i = some (n, k)) : dpF (f.drop i) = max (dpF k + 1) (dpF (f.drop (i + 1))) := by rw [F.drop_get f i h]; rfl
theorem F.drop0 (f : F) : f.drop 0 = f := by cases f <;> rfl
theorem szF_get : ∀ {f : F} {i : Nat} {n : Nd} {k : F}, f.get i = some (n, k) → szF k + 1 ≤ szF f
  | .nil, i, n, k, h => by simp [F.get] at h
  | .cons n' k' r, 0, n, k, h => by
    simp only [F.get, Option.some.injEq, Prod.mk.injEq] at h
    obtain ⟨rfl, rfl⟩ := h
    simp only [szF]; omega
  | .cons n' k' r, i + 1, n, k, h => by
    have := szF_get (f := r) (i := i) h
    simp only [szF]; omega
theorem dpF_le : ∀ f : F, dpF f ≤ szF f
  | .nil => by simp [dpF]
  | .cons _ k r => by
    have := dpF_le k
    have := dpF_le r
    simp only [dpF, szF]; omega
end Go.Proofs.Ytfcbcbpnlnkpcaa
