/- nerr, kind by kind. (Printed by a small program of mine.) -/
import Derived.Test.YtfcbcbpnlnkpcaaChkp
namespace Go.Proofs.Ytfcbcbpnlnkpcaa
set_option linter.all false
open Go.RowKit
theorem empty_len {l : List UInt8} (h : l.isEmpty = true) : l.length = 0 := by cases l <;> simp_all
theorem nerr_1 (n : Nd) (kl : Nat) (h : n.kind = 1) : nerr n kl = if n.int ≠ 0 ∨ n.scale ≠ 0 ∨ n.text.isEmpty = false ∨ 0 < kl ∨ 0 < n.names.length then 3 else 0 := by
  have hok : okN n kl = (((n.int == 0) && (n.scale == 0)) && (((n.names.length : Int) == 0) && ((kl : Int) == 0)) && n.text.isEmpty) := by unfold okN okF; rw [h]; rfl
  have he : n.text.isEmpty = decide (n.text.length = 0) := by cases n.text <;> simp
  by_cases D : n.int ≠ 0 ∨ n.scale ≠ 0 ∨ n.text.isEmpty = false ∨ 0 < kl ∨ 0 < n.names.length
  · rw [if_pos D]
    have : okN n kl = false := by
      rw [hok, Bool.eq_false_iff]
      intro hh
      rw [he] at hh D
      simp only [Bool.and_eq_true, beq_iff_eq, decide_eq_true_eq, bne_iff_ne, decide_eq_false_iff_not] at hh D
      omega
    unfold nerr
    rw [if_pos this]
  · rw [if_neg D]
    rw [he] at D
    have : okN n kl = true := by
      rw [hok, he]
      simp only [Bool.and_eq_true, beq_iff_eq, decide_eq_true_eq, bne_iff_ne, decide_eq_false_iff_not] at D ⊢
      omega
    simp only [decide_eq_false_iff_not] at D
    unfold nerr
    rw [if_neg (by rw [this]; decide), h]
    (repeat' split) <;> first | rfl | (exfalso; omega) | (exfalso; simp_all; done)
theorem nerr_2 (n : Nd) (kl : Nat) (h : n.kind = 2) : nerr n kl = if n.int < 0 ∨ 1 < n.int ∨ n.scale ≠ 0 ∨ n.text.isEmpty = false ∨ 0 < kl ∨ 0 < n.names.length then 3 else 0 := by
  have hok : okN n kl = ((n.int / 2 == 0) && (n.scale == 0) && (((n.names.length : Int) == 0) && ((kl : Int) == 0)) && n.text.isEmpty) := by unfold okN okF; rw [h]; rfl
  have he : n.text.isEmpty = decide (n.text.length = 0) := by cases n.text <;> simp
  by_cases D : n.int < 0 ∨ 1 < n.int ∨ n.scale ≠ 0 ∨ n.text.isEmpty = false ∨ 0 < kl ∨ 0 < n.names.length
  · rw [if_pos D]
    have : okN n kl = false := by
      rw [hok, Bool.eq_false_iff]
      intro hh
      rw [he] at hh D
      simp only [Bool.and_eq_true, beq_iff_eq, decide_eq_true_eq, bne_iff_ne, decide_eq_false_iff_not] at hh D
      omega
    unfold nerr
    rw [if_pos this]
  · rw [if_neg D]
    rw [he] at D
    have : okN n kl = true := by
      rw [hok, he]
      simp only [Bool.and_eq_true, beq_iff_eq, decide_eq_true_eq, bne_iff_ne, decide_eq_false_iff_not] at D ⊢
      omega
    simp only [decide_eq_false_iff_not] at D
    unfold nerr
    rw [if_neg (by rw [this]; decide), h]
    (repeat' split) <;> first | rfl | (exfalso; omega) | (exfalso; simp_all; done)
theorem nerr_3 (n : Nd) (kl : Nat) (h : n.kind = 3) : nerr n kl = if n.scale ≠ 0 ∨ n.text.isEmpty = false ∨ 0 < kl ∨ 0 < n.names.length then 3 else 0 := by
  have hok : okN n kl = ((n.scale == 0) && (((n.names.length : Int) == 0) && ((kl : Int) == 0)) && n.text.isEmpty) := by unfold okN okF; rw [h]; rfl
  have he : n.text.isEmpty = decide (n.text.length = 0) := by cases n.text <;> simp
  by_cases D : n.scale ≠ 0 ∨ n.text.isEmpty = false ∨ 0 < kl ∨ 0 < n.names.length
  · rw [if_pos D]
    have : okN n kl = false := by
      rw [hok, Bool.eq_false_iff]
      intro hh
      rw [he] at hh D
      simp only [Bool.and_eq_true, beq_iff_eq, decide_eq_true_eq, bne_iff_ne, decide_eq_false_iff_not] at hh D
      omega
    unfold nerr
    rw [if_pos this]
  · rw [if_neg D]
    rw [he] at D
    have : okN n kl = true := by
      rw [hok, he]
      simp only [Bool.and_eq_true, beq_iff_eq, decide_eq_true_eq, bne_iff_ne, decide_eq_false_iff_not] at D ⊢
      omega
    simp only [decide_eq_false_iff_not] at D
    unfold nerr
    rw [if_neg (by rw [this]; decide), h]
    (repeat' split) <;> first | rfl | (exfalso; omega) | (exfalso; simp_all; done)
theorem nerr_4 (n : Nd) (kl : Nat) (h : n.kind = 4) : nerr n kl = if n.scale < 1 ∨ 18 < n.scale ∨ n.int.tmod 10 = 0 ∨ n.text.isEmpty = false ∨ 0 < kl ∨ 0 < n.names.length then 3 else 0 := by
  have hok : okN n kl = (decide (1 ≤ n.scale) && decide (n.scale ≤ 18) && (n.int.tmod 10 != 0) && (((n.names.length : Int) == 0) && ((kl : Int) == 0)) && n.text.isEmpty) := by unfold okN okF; rw [h]; rfl
  have he : n.text.isEmpty = decide (n.text.length = 0) := by cases n.text <;> simp
  by_cases D : n.scale < 1 ∨ 18 < n.scale ∨ n.int.tmod 10 = 0 ∨ n.text.isEmpty = false ∨ 0 < kl ∨ 0 < n.names.length
  · rw [if_pos D]
    have : okN n kl = false := by
      rw [hok, Bool.eq_false_iff]
      intro hh
      rw [he] at hh D
      simp only [Bool.and_eq_true, beq_iff_eq, decide_eq_true_eq, bne_iff_ne, decide_eq_false_iff_not] at hh D
      omega
    unfold nerr
    rw [if_pos this]
  · rw [if_neg D]
    rw [he] at D
    have : okN n kl = true := by
      rw [hok, he]
      simp only [Bool.and_eq_true, beq_iff_eq, decide_eq_true_eq, bne_iff_ne, decide_eq_false_iff_not] at D ⊢
      omega
    simp only [decide_eq_false_iff_not] at D
    unfold nerr
    rw [if_neg (by rw [this]; decide), h]
    (repeat' split) <;> first | rfl | (exfalso; omega) | (exfalso; simp_all; done)
theorem nerr_5 (n : Nd) (kl : Nat) (h : n.kind = 5) : nerr n kl = if n.int < 0 ∨ 9007199254740992 < n.int ∨ n.scale ≠ 0 ∨ n.text.isEmpty = false ∨ 0 < kl ∨ 0 < n.names.length then 3 else 0 := by
  have hok : okN n kl = (decide (0 ≤ n.int) && decide (n.int ≤ 9007199254740992) && (n.scale == 0) && (((n.names.length : Int) == 0) && ((kl : Int) == 0)) && n.text.isEmpty) := by unfold okN okF; rw [h]; rfl
  have he : n.text.isEmpty = decide (n.text.length = 0) := by cases n.text <;> simp
  by_cases D : n.int < 0 ∨ 9007199254740992 < n.int ∨ n.scale ≠ 0 ∨ n.text.isEmpty = false ∨ 0 < kl ∨ 0 < n.names.length
  · rw [if_pos D]
    have : okN n kl = false := by
      rw [hok, Bool.eq_false_iff]
      intro hh
      rw [he] at hh D
      simp only [Bool.and_eq_true, beq_iff_eq, decide_eq_true_eq, bne_iff_ne, decide_eq_false_iff_not] at hh D
      omega
    unfold nerr
    rw [if_pos this]
  · rw [if_neg D]
    rw [he] at D
    have : okN n kl = true := by
      rw [hok, he]
      simp only [Bool.and_eq_true, beq_iff_eq, decide_eq_true_eq, bne_iff_ne, decide_eq_false_iff_not] at D ⊢
      omega
    simp only [decide_eq_false_iff_not] at D
    unfold nerr
    rw [if_neg (by rw [this]; decide), h]
    (repeat' split) <;> first | rfl | (exfalso; omega) | (exfalso; simp_all; done)
theorem nerr_6 (n : Nd) (kl : Nat) (h : n.kind = 6) : nerr n kl = if n.int ≠ 0 ∨ n.scale ≠ 0 ∨ 0 < kl ∨ 0 < n.names.length then 3 else if 16384 < n.text.length then 5 else 0 := by
  have hok : okN n kl = (((n.int == 0) && (n.scale == 0)) && (((n.names.length : Int) == 0) && ((kl : Int) == 0))) := by unfold okN okF; rw [h]; rfl
  by_cases D : n.int ≠ 0 ∨ n.scale ≠ 0 ∨ 0 < kl ∨ 0 < n.names.length
  · rw [if_pos D]
    have : okN n kl = false := by
      rw [hok, Bool.eq_false_iff]
      intro hh
      simp only [Bool.and_eq_true, beq_iff_eq, decide_eq_true_eq, bne_iff_ne] at hh D
      omega
    unfold nerr
    rw [if_pos this]
  · rw [if_neg D]
    have : okN n kl = true := by
      rw [hok]
      simp only [Bool.and_eq_true, beq_iff_eq, decide_eq_true_eq, bne_iff_ne] at D ⊢
      omega
    unfold nerr
    rw [if_neg (by rw [this]; decide), h]
    (repeat' split) <;> first | rfl | (exfalso; omega) | (exfalso; simp_all; done)
theorem nerr_7 (n : Nd) (kl : Nat) (h : n.kind = 7) : nerr n kl = if n.int ≠ 0 ∨ n.scale ≠ 0 ∨ 0 < kl ∨ 0 < n.names.length then 3 else if 16384 < n.text.length then 5 else 0 := by
  have hok : okN n kl = (((n.int == 0) && (n.scale == 0)) && (((n.names.length : Int) == 0) && ((kl : Int) == 0))) := by unfold okN okF; rw [h]; rfl
  by_cases D : n.int ≠ 0 ∨ n.scale ≠ 0 ∨ 0 < kl ∨ 0 < n.names.length
  · rw [if_pos D]
    have : okN n kl = false := by
      rw [hok, Bool.eq_false_iff]
      intro hh
      simp only [Bool.and_eq_true, beq_iff_eq, decide_eq_true_eq, bne_iff_ne] at hh D
      omega
    unfold nerr
    rw [if_pos this]
  · rw [if_neg D]
    have : okN n kl = true := by
      rw [hok]
      simp only [Bool.and_eq_true, beq_iff_eq, decide_eq_true_eq, bne_iff_ne] at D ⊢
      omega
    unfold nerr
    rw [if_neg (by rw [this]; decide), h]
    (repeat' split) <;> first | rfl | (exfalso; omega) | (exfalso; simp_all; done)
theorem nerr_8 (n : Nd) (kl : Nat) (h : n.kind = 8) : nerr n kl = if n.int ≠ 0 ∨ n.scale ≠ 0 ∨ n.text.isEmpty = false ∨ 0 < n.names.length then 3 else if 200 < kl then 5 else 0 := by
  have hok : okN n kl = (((n.int == 0) && (n.scale == 0)) && ((n.names.length : Int) == 0) && n.text.isEmpty) := by unfold okN okF; rw [h]; rfl
  have he : n.text.isEmpty = decide (n.text.length = 0) := by cases n.text <;> simp
  by_cases D : n.int ≠ 0 ∨ n.scale ≠ 0 ∨ n.text.isEmpty = false ∨ 0 < n.names.length
  · rw [if_pos D]
    have : okN n kl = false := by
      rw [hok, Bool.eq_false_iff]
      intro hh
      rw [he] at hh D
      simp only [Bool.and_eq_true, beq_iff_eq, decide_eq_true_eq, bne_iff_ne, decide_eq_false_iff_not] at hh D
      omega
    unfold nerr
    rw [if_pos this]
  · rw [if_neg D]
    rw [he] at D
    have : okN n kl = true := by
      rw [hok, he]
      simp only [Bool.and_eq_true, beq_iff_eq, decide_eq_true_eq, bne_iff_ne, decide_eq_false_iff_not] at D ⊢
      omega
    simp only [decide_eq_false_iff_not] at D
    unfold nerr
    rw [if_neg (by rw [this]; decide), h]
    (repeat' split) <;> first | rfl | (exfalso; omega) | (exfalso; simp_all; done)
theorem nerr_9 (n : Nd) (kl : Nat) (h : n.kind = 9) : nerr n kl = if n.int ≠ 0 ∨ n.scale ≠ 0 ∨ n.text.isEmpty = false then 3 else if 200 < kl then 5 else if fieldsOk n.names kl = false then 3 else 0 := by
  have hok : okN n kl = (((n.int == 0) && (n.scale == 0)) && n.text.isEmpty) := by unfold okN okF; rw [h]; rfl
  have he : n.text.isEmpty = decide (n.text.length = 0) := by cases n.text <;> simp
  by_cases D : n.int ≠ 0 ∨ n.scale ≠ 0 ∨ n.text.isEmpty = false
  · rw [if_pos D]
    have : okN n kl = false := by
      rw [hok, Bool.eq_false_iff]
      intro hh
      rw [he] at hh D
      simp only [Bool.and_eq_true, beq_iff_eq, decide_eq_true_eq, bne_iff_ne, decide_eq_false_iff_not] at hh D
      omega
    unfold nerr
    rw [if_pos this]
  · rw [if_neg D]
    rw [he] at D
    have : okN n kl = true := by
      rw [hok, he]
      simp only [Bool.and_eq_true, beq_iff_eq, decide_eq_true_eq, bne_iff_ne, decide_eq_false_iff_not] at D ⊢
      omega
    simp only [decide_eq_false_iff_not] at D
    unfold nerr
    rw [if_neg (by rw [this]; decide), h]
    (repeat' split) <;> first | rfl | (exfalso; omega) | (exfalso; simp_all; done)
end Go.Proofs.Ytfcbcbpnlnkpcaa
