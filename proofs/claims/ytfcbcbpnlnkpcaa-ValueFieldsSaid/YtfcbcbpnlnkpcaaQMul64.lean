/- bits.Mul64: the kit's contract at this program's numbers. -/
import Derived.Shelf.Bits.Mul64
import Derived.Test.YtfcbcbpnlnkpcaaQBase
namespace Go.Proofs.Ytfcbcbpnlnkpcaa
set_option linter.all false
open Go.Shelf
def mul64_ren : Go.Shelf.Ren := ⟨fun | 264 => 58 | n => n, fun | 53 => 69 | 46 => 62 | n => n, fun | n => n⟩
theorem mul64_lays : Go.Proofs.Lays.n264 Try.prog mul64_ren := {
  mixed := by kernel_rfl
  f264 := Try.func58.trans (congrArg some (by kernel_rfl))
  t46 := Try.underlying62
  a46 := Try.isAgg62
  z46 := Try.sizeOf62
  v46 := Try.zeroValue62
  t53 := Try.underlying69
  a53 := Try.isAgg69
  z53 := Try.sizeOf69
  v53 := Try.zeroValue69 }
open Go.RowKit in
theorem mul64_any (x y : Nat) (hx : x < 18446744073709551616) (hy : y < 18446744073709551616) (w : World) :
    Calls Try.prog 58 #[.int .u64 x, .int .u64 y] w (RetS (.tuple #[.int .u64 ((x * y / 18446744073709551616 : Nat) : Int), .int .u64 ((x * y % 18446744073709551616 : Nat) : Int)]) w) :=
  (Any.bits_Mul64 mul64_lays x y hx hy w).mono fun e w' ⟨h1, h2⟩ => ⟨h1, h2.symm⟩
end Go.Proofs.Ytfcbcbpnlnkpcaa
