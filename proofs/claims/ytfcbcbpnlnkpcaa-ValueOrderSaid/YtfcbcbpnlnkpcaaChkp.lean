/- What is wrong with a value, all below it too: the plain law. No program in sight. -/
import Derived.Test.YtfcbcbpnlnkpcaaValp
import Derived.Test.YtfcbcbpnlnkpcaaBox
namespace Go.Proofs.Ytfcbcbpnlnkpcaa
set_option linter.all false
open Go.RowKit
/-- What is wrong with a forest's nodes, at depth d: the first that is. -/
def chkF : F → Nat → Nat
  | .nil, _ => 0
  | .cons n k r, d => if (if 16 < d then 9 else if nerr n k.len ≠ 0 then nerr n k.len else chkF k (d + 1)) ≠ 0 then (if 16 < d then 9 else if nerr n k.len ≠ 0 then nerr n k.len else chkF k (d + 1)) else chkF r d
/-- What is wrong with a value at depth d. -/
def chk (n : Nd) (k : F) (d : Nat) : Nat := if 16 < d then 9 else if nerr n k.len ≠ 0 then nerr n k.len else chkF k (d + 1)
theorem chkF_drop {f : F} {i : Nat} {n : Nd} {k : F} (h : f.get i = some (n, k)) (d : Nat) : chkF (f.drop i) d = if chk n k d ≠ 0 then chk n k d else chkF (f.drop (i + 1)) d := by
  rw [F.drop_get f i h]; rfl
end Go.Proofs.Ytfcbcbpnlnkpcaa
