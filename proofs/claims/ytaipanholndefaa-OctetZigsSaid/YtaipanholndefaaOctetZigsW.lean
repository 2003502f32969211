import Derived.Test.YtaipanholndefaaKnown1
import Derived.Test.YtaipanholndefaaNum1
namespace Go.Proofs.Ytaipanholndefaa
set_option linter.all false
open Go.RowKit
set_option maxRecDepth 100000 in
set_option maxHeartbeats 800000 in
theorem octetZigs_walk (v u : Int) (w : World) (h1 : -9223372036854775808 ≤ v) (h2 : v ≤ 9223372036854775807) (h3 : 0 ≤ u) (h4 : u ≤ 18446744073709551615) :
    Calls Try.prog 5 #[.int .i64 v, .int .u64 u] w (Ret (.bool true) w) := by
  have hz := zig_rng v h1 h2
  have hg := zag_rng u h3 h4
  go_enter Try.func5, Try.ntmps5
  go_wp2_with fail
  refine (ozig_any _ v h1 h2).mono ?_
  rintro e w' ⟨rfl, rfl⟩
  go_wp2_with fail
  refine (rzig_any _ v h1 h2).mono ?_
  rintro e w' ⟨rfl, rfl⟩
  go_wp2_with fail
  refine (ozig_any _ v h1 h2).mono ?_
  rintro e w' ⟨rfl, rfl⟩
  go_wp2_with fail
  refine (ozag_any _ (zig v) hz.1 hz.2).mono ?_
  rintro e w' ⟨rfl, rfl⟩
  rw [zag_zig]
  go_wp2_with fail
  refine (ozag_any _ u h3 h4).mono ?_
  rintro e w' ⟨rfl, rfl⟩
  go_wp2_with fail
  refine (rzag_any _ u h3 h4).mono ?_
  rintro e w' ⟨rfl, rfl⟩
  go_wp2_with fail
  refine (ozag_any _ u h3 h4).mono ?_
  rintro e w' ⟨rfl, rfl⟩
  go_wp2_with fail
  refine (ozig_any _ (zag u) hg.1 hg.2).mono ?_
  rintro e w' ⟨rfl, rfl⟩
  rw [zig_zag u h3]
  go_wp2_with fail
  refine (known1_any _).mono ?_
  rintro e w1 ⟨rfl, b1⟩
  go_wp2
  go_ret
  exact ⟨rfl, b1⟩
end Go.Proofs.Ytaipanholndefaa
