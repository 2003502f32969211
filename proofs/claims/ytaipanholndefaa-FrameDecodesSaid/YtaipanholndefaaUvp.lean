/- The plain law of seven digits a byte. No program in sight. -/
import Derived.Laws.BitsAllLaws
namespace Go.Proofs.Ytaipanholndefaa
set_option linter.all false

/-- Bytes as a number: the value, how many bytes, the error; from the place 'i' on, with 'v' in hand. -/
def ru : Nat → Nat → List UInt8 → Nat × Nat × Nat
  | _, _, [] => (0, 0, 2)
  | i, v, c :: cs => if (i = 9 ∧ 1 < c.toNat) ∨ (c.toNat = 0 ∧ 0 < i) then (0, 0, 3) else if c.toNat < 128 then (v + c.toNat * 2 ^ (7 * i), i + 1, 0) else ru (i + 1) (v + (c.toNat % 128) * 2 ^ (7 * i)) cs
/-- A byte, under a name that no rule of Lean opens. -/
def b8 (n : Nat) : UInt8 := UInt8.ofNat n
/-- A number as bytes. -/
def uv : Nat → Nat → List UInt8
  | 0, v => [b8 v]
  | f + 1, v => if v < 128 then [b8 v] else b8 (v % 128 + 128) :: uv f (v / 128)

theorem or_step (x k : Nat) (b : UInt8) (hx : x < 2 ^ (7 * k)) (hk : k ≤ 9) (h9 : k = 9 → b.toNat % 128 ≤ 1) :
    bits .or .u64 (x : Int) (IntKind.u64.wrap (IntKind.u64.wrap (bits .and .u8 (b.toNat : Int) 127) * 2 ^ (k * 7))) = ((x + (b.toNat % 128) * 2 ^ (7 * k) : Nat) : Int) ∧ x + (b.toNat % 128) * 2 ^ (7 * k) < 18446744073709551616 := by
  have hb := b.toNat_lt
  have h127 : bits .and .u8 (b.toNat : Int) 127 = ((b.toNat % 128 : Nat) : Int) := by
    rw [show (127 : Int) = ((127 : Nat) : Int) from rfl, u8_and_nat _ _ hb (by decide)]
    congr 1
    exact Nat.and_two_pow_sub_one_eq_mod b.toNat 7
  rw [h127]
  have hm : b.toNat % 128 < 128 := Nat.mod_lt _ (by decide)
  generalize b.toNat % 128 = d at *
  have hw : ∀ n : Nat, n < 18446744073709551616 → IntKind.u64.wrap (n : Int) = (n : Int) := by
    intro n hn; rw [IntKind.wrap_u64]; omega
  rw [hw d (by omega)]
  have hp : (d : Int) * 2 ^ (k * 7) = ((d * 2 ^ (7 * k) : Nat) : Int) := by
    rw [Nat.mul_comm 7 k]; simp [Int.natCast_mul, Int.natCast_pow]
  rw [hp]
  have hk' : k = 0 ∨ k = 1 ∨ k = 2 ∨ k = 3 ∨ k = 4 ∨ k = 5 ∨ k = 6 ∨ k = 7 ∨ k = 8 ∨ k = 9 := by omega
  have hlt : x + d * 2 ^ (7 * k) < 18446744073709551616 := by
    rcases hk' with rfl | rfl | rfl | rfl | rfl | rfl | rfl | rfl | rfl | rfl <;> simp at * <;> omega
  have hdl : d * 2 ^ (7 * k) < 18446744073709551616 := by omega
  rw [hw _ hdl, u64_or_nat _ _ (by omega) hdl, Nat.or_comm, nat_join (7 * k) _ _ (by simp) hx, Nat.add_comm]
  exact ⟨rfl, hlt⟩

theorem pow_next (x k d : Nat) (hx : x < 2 ^ (7 * k)) (hd : d < 128) : x + d * 2 ^ (7 * k) < 2 ^ (7 * (k + 1)) := by
  have : 2 ^ (7 * (k + 1)) = 128 * 2 ^ (7 * k) := by rw [show 7 * (k + 1) = 7 * k + 7 from by omega, Nat.pow_add, Nat.mul_comm]
  rw [this]
  have := Nat.mul_le_mul_right (2 ^ (7 * k)) (show d + 1 ≤ 128 by omega)
  rw [Nat.add_mul, Nat.one_mul] at this
  omega

theorem ru_drop {l : List UInt8} {k : Nat} {b : UInt8} (h : l[k]? = some b) (i v : Nat) :
    ru i v (l.drop k) = if (i = 9 ∧ 1 < b.toNat) ∨ (b.toNat = 0 ∧ 0 < i) then (0, 0, 3) else if b.toNat < 128 then (v + b.toNat * 2 ^ (7 * i), i + 1, 0) else ru (i + 1) (v + (b.toNat % 128) * 2 ^ (7 * i)) (l.drop (k + 1)) := by
  have : l.drop k = b :: l.drop (k + 1) := by
    obtain ⟨hk, e⟩ := List.getElem?_eq_some_iff.1 h
    rw [List.drop_eq_getElem_cons hk, e]
  rw [this]; rfl

theorem uv_len : ∀ (f v : Nat), 1 ≤ (uv f v).length ∧ (uv f v).length ≤ f + 1
  | 0, v => by simp [uv]
  | f + 1, v => by
    have := uv_len f (v / 128)
    unfold uv
    split
    · simp
    · simp only [List.length_cons]; omega

theorem ofNat_toNat (n : Nat) (h : n < 256) : (b8 n).toNat = n := by unfold b8; rw [UInt8.toNat_ofNat']; omega

theorem ru_uv (more : List UInt8) : ∀ (f i x v : Nat), v < 2 ^ (64 - 7 * i) → i + f = 9 → (0 < i → 0 < v) →
    ru i x (uv f v ++ more) = (x + v * 2 ^ (7 * i), i + (uv f v).length, 0)
  | 0, i, x, v, hv, hi, h0 => by
    obtain rfl : i = 9 := by omega
    have hv' : v < 2 := by simpa using hv
    have := h0 (by omega)
    have ho := ofNat_toNat v (by omega)
    show (if _ then _ else _) = _
    rw [ho, if_neg (by omega), if_pos (by omega)]
    rfl
  | f + 1, i, x, v, hv, hi, h0 => by
    unfold uv
    by_cases h : v < 128
    · rw [if_pos h]
      have ho := ofNat_toNat v (by omega)
      show (if _ then _ else _) = _
      rw [ho, if_neg (by omega), if_pos h]
      simp [h]
    · rw [if_neg h]
      have ho := ofNat_toNat (v % 128 + 128) (by omega)
      show (if _ then _ else _) = _
      rw [ho, if_neg (by omega), if_neg (by omega)]
      have hp : 2 ^ (64 - 7 * i) = 128 * 2 ^ (64 - 7 * (i + 1)) := by
        rw [show 64 - 7 * i = (64 - 7 * (i + 1)) + 7 from by omega, Nat.pow_add, Nat.mul_comm]
      have := ru_uv more f (i + 1) (x + (v % 128 + 128) % 128 * 2 ^ (7 * i)) (v / 128) (by rw [hp] at hv; omega) (by omega) (by intro; omega)
      refine Eq.trans this ?_
      simp only [List.length_cons]
      have e1 : (v % 128 + 128) % 128 = v % 128 := by omega
      have e2 : 2 ^ (7 * (i + 1)) = 128 * 2 ^ (7 * i) := by rw [show 7 * (i + 1) = 7 * i + 7 from by omega, Nat.pow_add, Nat.mul_comm]
      rw [e1, e2, ← Nat.mul_assoc, Nat.add_assoc, ← Nat.add_mul, show v % 128 + v / 128 * 128 = v from by omega, show i + 1 + (uv f (v / 128)).length = i + ((uv f (v / 128)).length + 1) from by omega]
theorem ru_back (v : Nat) (hv : v < 18446744073709551616) (more : List UInt8) : ru 0 0 (uv 9 v ++ more) = (v, (uv 9 v).length, 0) := by
  have := ru_uv more 9 0 0 v (by simpa using hv) rfl (by omega)
  simpa using this
theorem ru_known : ru 0 0 [172, 2, 255] = (300, 2, 0) := by decide
end Go.Proofs.Ytaipanholndefaa
