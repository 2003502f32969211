/- ValueFields at any values. -/
import Derived.Test.YtfcbcbpnlnkpcaaQVfA
import Derived.Test.YtfcbcbpnlnkpcaaQVfB
import Derived.Test.YtfcbcbpnlnkpcaaQVfC
namespace Go.Proofs.Ytfcbcbpnlnkpcaa
set_option linter.all false
open Go.RowKit
theorem valueFields_walk (n : Nd) (k : F) (m : Nd) (q : F) (v u : Value) (x : List UInt8) (w : World) (hv : Vo w (· < w.heap.size) n k v) (hu : Vo w (· < w.heap.size) m q u) :
    Calls Try.prog 6 #[v, .string (str x), u] w (Ret (.bool true) w) := by
  rcases hh : heavyF (.cons n k (.cons m q .nil)) with _ | _
  · rcases Nat.lt_or_ge 500 x.length with hx | hx
    · exact vf_long n k m q v u x w hv hu hh hx
    · by_cases h1 : chk n k 1 = 0
      · by_cases hE : (withV n k x m q).1 = 0
        · exact vf_ok n k m q v u x w hv hu hh hx h1 hE
        · exact vf_err n k m q v u x w hv hu hh hx h1 hE
      · exact vf_bad n k m q v u x w hv hu hh hx h1
  · exact vf_heavy n k m q v u x w hv hu hh
end Go.Proofs.Ytfcbcbpnlnkpcaa
