/- scrivenerlaw5.known: true. -/
import Derived.Test.YtfcbcbpnlnkpcaaQComparep
import Derived.Outline
namespace Go.Proofs.Ytfcbcbpnlnkpcaa
set_option linter.all false
open Go.RowKit
/-- A number alone. -/
def numN (kind int scale : Int) : Nd := ⟨kind, int, scale, [], []⟩
theorem num_vo (w : World) (S : Nat → Prop) (kind int scale : Int) (h1 : I64 kind) (h2 : I64 int) (h3 : I64 scale) :
    Vo w S (numN kind int scale) .nil (.agg #[.int .i64 kind, .int .i64 int, .int .i64 scale, .string ⟨#[]⟩, .slice none 0 0, .slice none 0 0]) :=
  ⟨none, 0, none, 0, rfl, ⟨h1, h2, h3, by simp [numN], by simp [numN]⟩, ⟨by simp [numN], by simp [numN]⟩, ⟨by simp [F.len], by simp [F.len]⟩, ⟨by simp [numN], fun h => absurd h (by simp [numN])⟩, [], ⟨by simp [F.len], fun h => absurd h (by simp [F.len])⟩, rfl⟩
set_option maxRecDepth 100000 in
set_option maxHeartbeats 1600000 in
theorem known5_any (w : World) : Calls Try.prog 14 #[] w (Ret (.bool true) w) := by
  have i1 : ∀ x : Int, -1000 ≤ x → x ≤ 1000 → I64 x := fun x h1 h2 => ⟨by omega, by omega⟩
  have h1 : Hid (∀ w, Calls Try.prog 15 #[.agg #[.int .i64 3, .int .i64 2, .int .i64 0, .string ⟨#[]⟩, .slice none 0 0, .slice none 0 0], .agg #[.int .i64 4, .int .i64 25, .int .i64 1, .string ⟨#[]⟩, .slice none 0 0, .slice none 0 0]] w (Ret (.int .i64 (-1)) w)) := fun w =>
    Compare_any (numN 3 2 0) .nil (numN 4 25 1) .nil _ _ w (num_vo _ _ _ _ _ (i1 _ (by omega) (by omega)) (i1 _ (by omega) (by omega)) (i1 _ (by omega) (by omega))) (num_vo _ _ _ _ _ (i1 _ (by omega) (by omega)) (i1 _ (by omega) (by omega)) (i1 _ (by omega) (by omega)))
  have h2 : Hid (∀ w, Calls Try.prog 11 #[.agg #[.int .i64 4, .int .i64 20, .int .i64 1, .string ⟨#[]⟩, .slice none 0 0, .slice none 0 0]] w (Ret (.int .i64 3) w)) := fun w =>
    Check_any (numN 4 20 1) .nil _ w (num_vo _ _ _ _ _ (i1 _ (by omega) (by omega)) (i1 _ (by omega) (by omega)) (i1 _ (by omega) (by omega)))
  have h3 : Hid (∀ w, Calls Try.prog 11 #[.agg #[.int .i64 1, .int .i64 0, .int .i64 0, .string ⟨#[]⟩, .slice none 0 0, .slice none 0 0]] w (Ret (.int .i64 0) w)) := fun w =>
    Check_any (numN 1 0 0) .nil _ w (num_vo _ _ _ _ _ (i1 _ (by omega) (by omega)) (i1 _ (by omega) (by omega)) (i1 _ (by omega) (by omega)))
  clear i1
  go_enter Try.func14, Try.ntmps14
  go_wp2_with fail
  go_outline
  refine ((unhide h1) _).mono ?_
  rintro e w1 ⟨rfl, b1⟩
  go_wp2_with fail
  refine ((unhide h2) _).mono ?_
  rintro e w2 ⟨rfl, b2⟩
  go_wp2_with fail
  refine ((unhide h3) _).mono ?_
  rintro e w3 ⟨rfl, b3⟩
  go_wp2_with fail
  go_ret
  exact ⟨rfl, bseq (bseq b1 b2) b3⟩
end Go.Proofs.Ytfcbcbpnlnkpcaa
