/- disk: a nil Disk. DiskOfNothing: what the law computes: true. -/
import Derived.Test.YtcoimlenejffpaaDiskK
import Derived.Test.YtcoimlenejffpaaOpenD
namespace Go.Proofs.Ytcoimlenejffpaa
set_option linter.all false
open Go.RowKit
set_option maxRecDepth 100000 in
theorem may_nil (A : Option Addr) (n c : Nat) (w : World) : Calls Try.prog 29 #[.pointer none, .slice A n c] w (RetS (.int .i64 1) w) := by
  go_enter Try.func29, Try.ntmps29
  go_wp2_with fail
  go_ret
  exact ⟨rfl, rfl⟩
set_option maxRecDepth 100000 in
theorem fuse_nil (n : Int) (w : World) : Calls Try.prog 17 #[.pointer none, .int .i64 n] w (Ret (.tuple #[]) w) := by
  go_enter Try.func17, Try.ntmps17
  go_wp2_with fail
  go_end0
  exact ⟨rfl, Below.refl _ _⟩
set_option maxRecDepth 100000 in
theorem crash_nil (n : Int) (w : World) : Calls Try.prog 13 #[.pointer none, .int .i64 n] w (Ret (.tuple #[]) w) := by
  go_enter Try.func13, Try.ntmps13
  go_wp2_with fail
  refine bodyPost_ret (results_none rfl _ _ _) rfl ?_
  exact ⟨rfl, Below.refl _ _⟩
set_option maxRecDepth 100000 in
theorem read_nil (s : List UInt8) (w : World) : Calls Try.prog 14 #[.pointer none, .string (str s)] w (Ret (.tuple #[.slice none 0 0, .int .i64 7]) w) := by
  go_enter Try.func14, Try.ntmps14
  go_wp2_with fail
  go_ret2
  exact ⟨rfl, Below.refl _ _⟩
set_option maxRecDepth 100000 in
theorem append_nil (s : List UInt8) (A : Option Addr) (m c : Nat) (w : World) : Calls Try.prog 11 #[.pointer none, .string (str s), .slice A m c] w (Ret (.int .i64 1) w) := by
  go_enter Try.func11, Try.ntmps11
  go_wp2_with fail
  refine (may_nil _ _ _ _).mono ?_
  rintro en w1 ⟨rfl, rfl⟩
  go_wp2_with fail
  go_ret
  exact ⟨rfl, below_refl_alloc w _⟩
set_option maxRecDepth 100000 in
theorem sync_nil (s : List UInt8) (w : World) : Calls Try.prog 12 #[.pointer none, .string (str s)] w (Ret (.int .i64 1) w) := by
  go_enter Try.func12, Try.ntmps12
  go_wp2_with fail
  refine (may_nil _ _ _ _).mono ?_
  rintro en w1 ⟨rfl, rfl⟩
  go_wp2_with fail
  go_ret
  exact ⟨rfl, below_refl_alloc w _⟩
set_option maxRecDepth 100000 in
theorem trunc_nil (s : List UInt8) (n : Int) (w : World) : Calls Try.prog 28 #[.pointer none, .string (str s), .int .i64 n] w (Ret (.int .i64 1) w) := by
  go_enter Try.func28, Try.ntmps28
  go_wp2_with fail
  refine (may_nil _ _ _ _).mono ?_
  rintro en w1 ⟨rfl, rfl⟩
  go_wp2_with fail
  go_ret
  exact ⟨rfl, below_refl_alloc w _⟩
set_option maxRecDepth 100000 in
theorem rename_nil (s : List UInt8) (t : List UInt8) (w : World) : Calls Try.prog 19 #[.pointer none, .string (str s), .string (str t)] w (Ret (.int .i64 1) w) := by
  go_enter Try.func19, Try.ntmps19
  go_wp2_with fail
  refine (may_nil _ _ _ _).mono ?_
  rintro en w1 ⟨rfl, rfl⟩
  go_wp2_with fail
  go_ret
  exact ⟨rfl, below_refl_alloc w _⟩
set_option maxRecDepth 100000 in
theorem remove_nil (s : List UInt8) (w : World) : Calls Try.prog 18 #[.pointer none, .string (str s)] w (Ret (.int .i64 1) w) := by
  go_enter Try.func18, Try.ntmps18
  go_wp2_with fail
  refine (may_nil _ _ _ _).mono ?_
  rintro en w1 ⟨rfl, rfl⟩
  go_wp2_with fail
  go_ret
  exact ⟨rfl, below_refl_alloc w _⟩
set_option maxRecDepth 100000 in
theorem list_nil (w : World) : Calls Try.prog 21 #[.pointer none] w (Ret (.slice none 0 0) w) := by
  go_enter Try.func21, Try.ntmps21
  go_wp2_with fail
  go_ret
  exact ⟨rfl, Below.refl _ _⟩
set_option maxRecDepth 100000 in
theorem used_nil (w : World) : Calls Try.prog 16 #[.pointer none] w (Ret (.int .i64 0) w) := by
  go_enter Try.func16, Try.ntmps16
  go_wp2_with fail
  go_ret
  exact ⟨rfl, Below.refl _ _⟩
set_option maxRecDepth 100000 in
theorem copy_nil (w : World) : Calls Try.prog 24 #[.pointer none] w (Ret (.pointer none) w) := by
  go_enter Try.func24, Try.ntmps24
  go_wp2_with fail
  go_ret
  exact ⟨rfl, Below.refl _ _⟩
set_option maxRecDepth 100000 in
set_option maxHeartbeats 3200000 in
theorem diskOfNothing_walk (s : List UInt8) (A : Option Addr) (m c : Nat) (n : Int) (W : World) (hs : s.length ≤ 140737488351232) (hm : m ≤ 140737488351232) :
    Calls Try.prog 8 #[.string (str s), .slice A m c, .int .i64 n] W (Ret (.bool true) W) := by
  have hz := str_sz s
  by_cases hn : 8000 < s.length + m
  · go_enter Try.func8, Try.ntmps8
    go_wp2_with fail
    go_ret
    exact ⟨rfl, Below.refl _ _⟩
  · go_enter Try.func8, Try.ntmps8
    go_wp2_with fail
    refine (fuse_nil n _).mono ?_
    rintro e w1 ⟨rfl, b1⟩
    have B1 := Lib.hid (b1)
    clear b1
    go_wp2_with fail
    refine (crash_nil n _).mono ?_
    rintro e w2 ⟨rfl, b2⟩
    have B2 := Lib.hid (bseq B1.out b2)
    clear b2
    go_wp2_with fail
    refine (read_nil s _).mono ?_
    rintro e w3 ⟨rfl, b3⟩
    have B3 := Lib.hid (bseq B2.out b3)
    clear b3
    go_wp2_with fail
    refine (append_nil s A m c _).mono ?_
    rintro e w4 ⟨rfl, b4⟩
    have B4 := Lib.hid (bseq B3.out b4)
    clear b4
    go_wp2_with fail
    refine (sync_nil s _).mono ?_
    rintro e w5 ⟨rfl, b5⟩
    have B5 := Lib.hid (bseq B4.out b5)
    clear b5
    go_wp2_with fail
    refine (trunc_nil s n _).mono ?_
    rintro e w6 ⟨rfl, b6⟩
    have B6 := Lib.hid (bseq B5.out b6)
    clear b6
    go_wp2_with fail
    refine (rename_nil s s _).mono ?_
    rintro e w7 ⟨rfl, b7⟩
    have B7 := Lib.hid (bseq B6.out b7)
    clear b7
    go_wp2_with fail
    refine (remove_nil s _).mono ?_
    rintro e w8 ⟨rfl, b8⟩
    have B8 := Lib.hid (bseq B7.out b8)
    clear b8
    go_wp2_with fail
    refine (list_nil _).mono ?_
    rintro e w9 ⟨rfl, b9⟩
    have B9 := Lib.hid (bseq B8.out b9)
    clear b9
    go_wp2_with fail
    refine (used_nil _).mono ?_
    rintro e w10 ⟨rfl, b10⟩
    have B10 := Lib.hid (bseq B9.out b10)
    clear b10
    go_wp2_with fail
    refine (copy_nil _).mono ?_
    rintro e w11 ⟨rfl, b11⟩
    have B11 := Lib.hid (bseq B10.out b11)
    clear b11
    go_wp2_with fail
    refine (known3_any _).mono ?_
    rintro e w12 ⟨rfl, b12⟩
    have B12 := Lib.hid (bseq B11.out b12)
    clear b12
    go_wp2_with fail
    go_ret
    exact ⟨rfl, B12.out⟩
end Go.Proofs.Ytcoimlenejffpaa
