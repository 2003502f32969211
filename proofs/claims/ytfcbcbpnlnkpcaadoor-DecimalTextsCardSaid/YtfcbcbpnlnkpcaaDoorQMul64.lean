/- bits.Mul64: the kit's contract at this program's numbers. -/
import Derived.Shelf.Bits.Mul64
import Derived.Test.YtfcbcbpnlnkpcaaDoorQBase
namespace Go.Proofs.YtfcbcbpnlnkpcaaDoor
set_option linter.all false
open Go.Shelf
def mul64_ren : Go.Shelf.Ren := ⟨fun | 264 => 38 | n => n, fun | 53 => 53 | 46 => 89 | n => n, fun | n => n⟩
theorem mul64_lays : Go.Proofs.Lays.n264 Tryd.prog mul64_ren := {
  mixed := by kernel_rfl
  f264 := Tryd.func38.trans (congrArg some (by kernel_rfl))
  t46 := Tryd.underlying89
  a46 := Tryd.isAgg89
  z46 := Tryd.sizeOf89
  v46 := Tryd.zeroValue89
  t53 := Tryd.underlying53
  a53 := Tryd.isAgg53
  z53 := Tryd.sizeOf53
  v53 := Tryd.zeroValue53 }
open Go.RowKit in
theorem mul64_any (x y : Nat) (hx : x < 18446744073709551616) (hy : y < 18446744073709551616) (w : World) :
    Calls Tryd.prog 38 #[.int .u64 x, .int .u64 y] w (RetS (.tuple #[.int .u64 ((x * y / 18446744073709551616 : Nat) : Int), .int .u64 ((x * y % 18446744073709551616 : Nat) : Int)]) w) :=
  (Any.bits_Mul64 mul64_lays x y hx hy w).mono fun e w' ⟨h1, h2⟩ => ⟨h1, h2.symm⟩
end Go.Proofs.YtfcbcbpnlnkpcaaDoor
