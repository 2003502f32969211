/- scrivenerlaw6.known. -/
import Derived.Test.YtfcbcbpnlnkpcaaDoorQDecText
import Derived.Test.YtfcbcbpnlnkpcaaDoorQAn
namespace Go.Proofs.YtfcbcbpnlnkpcaaDoor
set_option linter.all false
open Go.RowKit
def k6a : Nd := ⟨4, 15, 1, [], []⟩
def k6b : Nd := ⟨3, 3, 0, [], []⟩
def k6c : Nd := ⟨4, -5, 2, [], []⟩
theorem k6a_num : isNum k6a := ⟨rfl, rfl, ⟨by decide, by decide⟩, .inr ⟨rfl, by decide, by decide, by decide⟩⟩
theorem k6b_num : isNum k6b := ⟨rfl, rfl, ⟨by decide, by decide⟩, .inl ⟨rfl, rfl⟩⟩
theorem k6c_num : isNum k6c := ⟨rfl, rfl, ⟨by decide, by decide⟩, .inr ⟨rfl, by decide, by decide, by decide⟩⟩
theorem k6_make (w : World) : Calls Tryd.prog 10 #[.int .i64 150, .int .i64 2] w (Ret (.tuple #[.agg #[.int .i64 4, .int .i64 15, .int .i64 1, .string ⟨#[]⟩, .slice none 0 0, .slice none 0 0], .int .i64 0]) w) := by
  have h := make_any 150 2 ⟨by decide, by decide⟩ ⟨by decide, by decide⟩ w
  rw [show vans (makeR 150 2) = .tuple #[.agg #[.int .i64 4, .int .i64 15, .int .i64 1, .string ⟨#[]⟩, .slice none 0 0, .slice none 0 0], .int .i64 0] from by kernel_rfl] at h
  exact h
theorem k6_add (w : World) : Calls Tryd.prog 15 #[.agg #[.int .i64 4, .int .i64 15, .int .i64 1, .string ⟨#[]⟩, .slice none 0 0, .slice none 0 0], .agg #[.int .i64 4, .int .i64 15, .int .i64 1, .string ⟨#[]⟩, .slice none 0 0, .slice none 0 0]] w (Ret (.tuple #[.agg #[.int .i64 3, .int .i64 3, .int .i64 0, .string ⟨#[]⟩, .slice none 0 0, .slice none 0 0], .int .i64 0]) w) := by
  have h := addR_any k6a .nil k6a .nil _ _ w (plain_vo (num_plain k6a_num) _ _) (plain_vo (num_plain k6a_num) _ _)
  have e : addR k6a .nil k6a .nil = (k6b, 0) := by
    unfold addR
    rw [num_numB k6a_num]
    kernel_rfl
  rw [e] at h
  exact h
theorem k6_text (w : World) (htab : Lib.TabIs Tryd.prog w "internal/strconv.uint64pow10" .u64 Lib.pow10Tab) : Calls Tryd.prog 27 #[.agg #[.int .i64 4, .int .i64 (-5), .int .i64 2, .string ⟨#[]⟩, .slice none 0 0, .slice none 0 0]] w (Ret (.tuple #[.string ⟨#[45, 48, 46, 48, 53]⟩, .int .i64 0]) w) := by
  have h := Text_any k6c .nil _ w (plain_vo (num_plain k6c_num) _ _) htab
  have e : textN k6c = [45, 48, 46, 48, 53] := by
    have e1 : Lib.decDigits (Int.natAbs (-5)) = [53] := Lib.decDigits_one (i := 5) (by decide)
    show (if (-5 : Int) < 0 then 45 :: bodyN (Int.natAbs (-5)) 2 else bodyN (Int.natAbs (-5)) 2) = _
    unfold bodyN
    rw [e1]
    decide
  have e2 : textR k6c .nil = .tuple #[.string ⟨#[45, 48, 46, 48, 53]⟩, .int .i64 0] := by
    unfold textR
    rw [num_numB k6c_num, if_pos rfl, e]
    rfl
  rw [e2] at h
  exact h
theorem known6_any (w : World) (htab : Lib.TabIs Tryd.prog w "internal/strconv.uint64pow10" .u64 Lib.pow10Tab) : Calls Tryd.prog 13 #[] w (Ret (.bool true) w) := by
  have HA : Hid (∀ w, Calls Tryd.prog 10 #[.int .i64 150, .int .i64 2] w (Ret (.tuple #[.agg #[.int .i64 4, .int .i64 15, .int .i64 1, .string ⟨#[]⟩, .slice none 0 0, .slice none 0 0], .int .i64 0]) w)) := k6_make
  have HB : Hid (∀ w, Calls Tryd.prog 15 #[.agg #[.int .i64 4, .int .i64 15, .int .i64 1, .string ⟨#[]⟩, .slice none 0 0, .slice none 0 0], .agg #[.int .i64 4, .int .i64 15, .int .i64 1, .string ⟨#[]⟩, .slice none 0 0, .slice none 0 0]] w (Ret (.tuple #[.agg #[.int .i64 3, .int .i64 3, .int .i64 0, .string ⟨#[]⟩, .slice none 0 0, .slice none 0 0], .int .i64 0]) w)) := k6_add
  have HC : Hid (∀ w', Below w.heap.size w w' → Calls Tryd.prog 27 #[.agg #[.int .i64 4, .int .i64 (-5), .int .i64 2, .string ⟨#[]⟩, .slice none 0 0, .slice none 0 0]] w' (Ret (.tuple #[.string ⟨#[45, 48, 46, 48, 53]⟩, .int .i64 0]) w')) := fun w' hb => k6_text w' (tab_below htab hb)
  go_enter Tryd.func13, Tryd.ntmps13
  go_upto_region 2 with (go_at_call 10; refine (HA.out _).mono ?_; rintro e w1 ⟨rfl, b1⟩)
  obtain ⟨W1, hW1⟩ : ∃ W1, w1.alloc (.cells #[.int .i64 4, .int .i64 15, .int .i64 1, .string ⟨#[]⟩, .slice none 0 0, .slice none 0 0] 25) = W1 := ⟨_, rfl⟩
  rw [hW1]
  have K1 : Blk W1 w1.heap.size #[.int .i64 4, .int .i64 15, .int .i64 1, .string ⟨#[]⟩, .slice none 0 0, .slice none 0 0] 25 := by rw [← hW1]; exact Blk.new _ _ _
  have B1 : Below w.heap.size w W1 := by rw [← hW1]; exact b1.alloc b1.size _
  clear hW1
  have x0 : W1.cell? ⟨w1.heap.size, 0, none⟩ = some (.int .i64 4) := K1.cell 0
  have x1 : W1.cell? ⟨w1.heap.size, 1, none⟩ = some (.int .i64 15) := K1.cell 1
  have x2 : W1.cell? ⟨w1.heap.size, 2, none⟩ = some (.int .i64 1) := K1.cell 2
  have x3 : W1.cell? ⟨w1.heap.size, 3, none⟩ = some (.string ⟨#[]⟩) := K1.cell 3
  have x4 : W1.cell? ⟨w1.heap.size, 4, none⟩ = some (.slice none 0 0) := K1.cell 4
  have x5 : W1.cell? ⟨w1.heap.size, 5, none⟩ = some (.slice none 0 0) := K1.cell 5
  have HK1 := Lib.hid K1
  have HB1 := Lib.hid B1
  clear K1 B1 b1
  go_upto_region 3 with (go_at_call 15; refine (HB.out _).mono ?_; rintro e w2 ⟨rfl, b2⟩)
  obtain ⟨W2, hW2⟩ : ∃ W2, w2.alloc (.cells #[.int .i64 3, .int .i64 3, .int .i64 0, .string ⟨#[]⟩, .slice none 0 0, .slice none 0 0] 25) = W2 := ⟨_, rfl⟩
  rw [hW2]
  have K2 : Blk W2 w2.heap.size #[.int .i64 3, .int .i64 3, .int .i64 0, .string ⟨#[]⟩, .slice none 0 0, .slice none 0 0] 25 := by rw [← hW2]; exact Blk.new _ _ _
  have B2 : Below W1.heap.size W1 W2 := by rw [← hW2]; exact b2.alloc b2.size _
  have HK2 := Lib.hid K2
  have HK3 := Lib.hid (HK1.out.below B2 HK1.out.lt)
  have HB2 := Lib.hid (HB1.out.trans (B2.mono HB1.out.size))
  clear hW2 K2 B2 b2 x0 x1 x2 x3 x4 x5 HK1 HB1
  go_wp2_with fail
  refine (HC.out _ HB2.out).mono ?_
  rintro e w3 ⟨rfl, b3⟩
  have z0 : w3.cell? ⟨w1.heap.size, 2, none⟩ = some (.int .i64 1) := (HK3.out.below b3 HK3.out.lt).cell 2
  have z1 : w3.cell? ⟨w2.heap.size, 0, none⟩ = some (.int .i64 3) := (HK2.out.below b3 HK2.out.lt).cell 0
  have z2 : w3.cell? ⟨w2.heap.size, 1, none⟩ = some (.int .i64 3) := (HK2.out.below b3 HK2.out.lt).cell 1
  have HB3 := Lib.hid (HB2.out.trans (b3.mono HB2.out.size))
  clear b3
  go_wp2_with fail
  go_ret
  exact ⟨rfl, HB3.out⟩
end Go.Proofs.YtfcbcbpnlnkpcaaDoor
