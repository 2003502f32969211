/- Numbers of both signs; eight bytes, four bytes: contracts of octet's and of the reference's functions. -/
import Derived.Test.YtaipanholndefaaMem
namespace Go.Proofs.Ytaipanholndefaa
set_option linter.all false
open Go.RowKit

def zig (v : Int) : Int := if 0 ≤ v then 2 * v else -2 * v - 1
def zag (u : Int) : Int := if u % 2 = 0 then u / 2 else -(u / 2) - 1
theorem zag_zig (v : Int) : zag (zig v) = v := by unfold zag zig; split <;> split <;> omega
theorem zig_zag (u : Int) (h : 0 ≤ u) : zig (zag u) = u := by unfold zag zig; split <;> split <;> omega
theorem zig_rng (v : Int) (h1 : -9223372036854775808 ≤ v) (h2 : v ≤ 9223372036854775807) : 0 ≤ zig v ∧ zig v ≤ 18446744073709551615 := by unfold zig; split <;> omega
theorem zag_rng (u : Int) (h1 : 0 ≤ u) (h2 : u ≤ 18446744073709551615) : -9223372036854775808 ≤ zag u ∧ zag u ≤ 9223372036854775807 := by unfold zag; split <;> omega

theorem u64_xor_ones (X : Nat) (h : X < 18446744073709551616) : bits .xor .u64 (X : Int) 18446744073709551615 = ((18446744073709551615 - X : Nat) : Int) := by
  rw [show (18446744073709551615 : Int) = ((18446744073709551615 : Nat) : Int) from rfl, u64_xor_nat _ _ h (by decide)]
  congr 1
  have h1 := BitVec.toNat_not (x := BitVec.ofNat 64 X)
  have h2 : ~~~ (BitVec.ofNat 64 X) = BitVec.ofNat 64 X ^^^ BitVec.allOnes 64 := by rw [BitVec.xor_allOnes]
  rw [h2, BitVec.toNat_xor, BitVec.toNat_ofNat, BitVec.toNat_allOnes, Nat.mod_eq_of_lt (by simpa using h)] at h1
  simpa using h1
theorem zig_bits (v : Int) (h1 : -9223372036854775808 ≤ v) (h2 : v ≤ 9223372036854775807) :
    bits .xor .u64 (IntKind.u64.wrap (wrap64 (v * 2))) (IntKind.u64.wrap (v / 9223372036854775808)) = zig v := by
  have e1 : IntKind.u64.wrap (wrap64 (v * 2)) = (v * 2) % 18446744073709551616 := by
    rw [IntKind.wrap_u64]; unfold wrap64; omega
  rw [e1, IntKind.wrap_u64]
  unfold zig
  by_cases h : 0 ≤ v
  · rw [if_pos h, show v / 9223372036854775808 % 18446744073709551616 = ((0 : Nat) : Int) from by omega, show v * 2 % 18446744073709551616 = ((2 * v).toNat : Int) from by omega, u64_xor_nat _ _ (by omega) (by decide), Nat.xor_zero]
    omega
  · rw [if_neg h, show v / 9223372036854775808 % 18446744073709551616 = 18446744073709551615 from by omega, show v * 2 % 18446744073709551616 = ((v * 2 % 18446744073709551616).toNat : Int) from by omega, u64_xor_ones _ (by omega)]
    omega
theorem i64_xor_def (a b : Int) : bits .xor .i64 a b = IntKind.i64.wrap (((BitVec.ofInt 64 a ^^^ BitVec.ofInt 64 b).toNat : Nat) : Int) := rfl
theorem ofInt64 (a : Int) (h : 0 ≤ a) (h2 : a ≤ 9223372036854775807) : (BitVec.ofInt 64 a).toNat = a.toNat := by
  obtain ⟨n, rfl⟩ := Int.eq_ofNat_of_zero_le h
  exact ofInt_u64 n (by omega)
theorem zag_bits (u : Int) (h1 : 0 ≤ u) (h2 : u ≤ 18446744073709551615) :
    bits .xor .i64 (u / 2) (wrap64 (-wrap64 (bits .and .u64 u 1))) = zag u := by
  have ea : bits .and .u64 u 1 = u % 2 := by
    obtain ⟨n, rfl⟩ := Int.eq_ofNat_of_zero_le h1
    rw [show (1 : Int) = ((1 : Nat) : Int) from rfl, u64_and_nat _ _ (by omega) (by decide), Nat.and_one_is_mod]
    omega
  rw [ea, i64_xor_def]
  have hu := ofInt64 (u / 2) (by omega) (by omega)
  unfold zag
  by_cases h : u % 2 = 0
  · rw [if_pos h, h, show wrap64 (-wrap64 0) = 0 from by unfold wrap64; omega, show BitVec.ofInt 64 0 = 0#64 from by decide, BitVec.xor_zero, hu, IntKind.wrap_i64]
    omega
  · rw [if_neg h, show u % 2 = 1 from by omega, show wrap64 (-wrap64 1) = -1 from by unfold wrap64; omega, show BitVec.ofInt 64 (-1) = BitVec.allOnes 64 from by decide, BitVec.xor_allOnes, BitVec.toNat_not, hu, IntKind.wrap_i64]
    omega
theorem ret_int {k : IntKind} {a b : Int} (h : a = b) : Ending.returned (.int k a) = .returned (.int k b) := by rw [h]

section
variable (w : World)
theorem ozig_any (v : Int) (h1 : -9223372036854775808 ≤ v) (h2 : v ≤ 9223372036854775807) : Calls Try.prog 18 #[.int .i64 v] w (RetS (.int .u64 (zig v)) w) := by
  have hz := Lib.hid (zig_bits v h1 h2)
  clear h1 h2
  go_enter Try.func18, Try.ntmps18
  go_wp2
  go_ret
  exact ⟨ret_int hz.out, rfl⟩
theorem rzig_any (v : Int) (h1 : -9223372036854775808 ≤ v) (h2 : v ≤ 9223372036854775807) : Calls Try.prog 19 #[.int .i64 v] w (RetS (.int .u64 (zig v)) w) := by
  by_cases h : 0 ≤ v
  · go_enter Try.func19, Try.ntmps19
    go_wp2
    go_ret
    exact ⟨ret_int (by unfold zig; rw [if_pos h]), rfl⟩
  · go_enter Try.func19, Try.ntmps19
    go_wp2
    go_ret
    exact ⟨ret_int (by unfold zig; rw [if_neg (by omega)]; omega), rfl⟩
theorem ozag_any (u : Int) (h1 : 0 ≤ u) (h2 : u ≤ 18446744073709551615) : Calls Try.prog 20 #[.int .u64 u] w (RetS (.int .i64 (zag u)) w) := by
  have hz := Lib.hid (zag_bits u h1 h2)
  go_enter Try.func20, Try.ntmps20
  go_wp2
  go_ret
  exact ⟨ret_int hz.out, rfl⟩
theorem rzag_any (u : Int) (h1 : 0 ≤ u) (h2 : u ≤ 18446744073709551615) : Calls Try.prog 21 #[.int .u64 u] w (RetS (.int .i64 (zag u)) w) := by
  by_cases h : u % 2 = 0
  · have hq : (u % 2 == 0) = true := by simpa using h
    have H := Lib.hid h
    clear h
    go_enter Try.func21, Try.ntmps21
    go_wp2
    go_ret
    exact ⟨ret_int (by unfold zag; rw [if_pos H.out]), rfl⟩
  · have hq : (u % 2 == 0) = false := by simpa using h
    have H := Lib.hid h
    clear h
    go_enter Try.func21, Try.ntmps21
    go_wp2
    go_ret
    exact ⟨ret_int (by unfold zag; rw [if_neg H.out]), rfl⟩
end
end Go.Proofs.Ytaipanholndefaa
