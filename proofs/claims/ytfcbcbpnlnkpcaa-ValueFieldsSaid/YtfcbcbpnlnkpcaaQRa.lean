/- nerr, kind by kind. (Printed by a small program of mine.) -/
import Derived.Test.YtfcbcbpnlnkpcaaQBase
import Derived.Test.YtfcbcbpnlnkpcaaQCheck
namespace Go.Proofs.Ytfcbcbpnlnkpcaa
set_option linter.all false
open Go.RowKit
theorem nerr_1 (n : Nd) (kl : Nat) (h : n.kind = 1) : nerr n kl = if n.int ≠ 0 ∨ n.scale ≠ 0 ∨ n.text.isEmpty = false ∨ 0 < kl ∨ 0 < n.names.length then 3 else 0 := by
  have hok : okN n kl = (((n.int == 0) && (n.scale == 0)) && (((n.names.length : Int) == 0) && ((kl : Int) == 0)) && n.text.isEmpty) := by unfold okN okF; rw [h]; rfl
  have he : n.text.isEmpty = decide (n.text.length = 0) := by cases n.text <;> simp
  by_cases D : n.int ≠ 0 ∨ n.scale ≠ 0 ∨ n.text.isEmpty = false ∨ 0 < kl ∨ 0 < n.names.length
  · rw [if_pos D]
    have : okN n kl = false := by
      rw [hok, Bool.eq_false_iff]
      intro hh
      rw [he] at hh D
      simp only [Bool.and_eq_true, beq_iff_eq, decide_eq_true_eq, bne_iff_ne, decide_eq_false_iff_not] at hh D
      omega
    unfold nerr
    rw [if_pos this]
  · rw [if_neg D]
    rw [he] at D
    have : okN n kl = true := by
      rw [hok, he]
      simp only [Bool.and_eq_true, beq_iff_eq, decide_eq_true_eq, bne_iff_ne, decide_eq_false_iff_not] at D ⊢
      omega
    simp only [decide_eq_false_iff_not] at D
    unfold nerr
    rw [if_neg (by rw [this]; decide), h]
    (repeat' split) <;> first | rfl | (exfalso; omega) | (exfalso; simp_all; done)
theorem nerr_2 (n : Nd) (kl : Nat) (h : n.kind = 2) : nerr n kl = if n.int < 0 ∨ 1 < n.int ∨ n.scale ≠ 0 ∨ n.text.isEmpty = false ∨ 0 < kl ∨ 0 < n.names.length then 3 else 0 := by
  have hok : okN n kl = ((n.int / 2 == 0) && (n.scale == 0) && (((n.names.length : Int) == 0) && ((kl : Int) == 0)) && n.text.isEmpty) := by unfold okN okF; rw [h]; rfl
  have he : n.text.isEmpty = decide (n.text.length = 0) := by cases n.text <;> simp
  by_cases D : n.int < 0 ∨ 1 < n.int ∨ n.scale ≠ 0 ∨ n.text.isEmpty = false ∨ 0 < kl ∨ 0 < n.names.length
  · rw [if_pos D]
    have : okN n kl = false := by
      rw [hok, Bool.eq_false_iff]
      intro hh
      rw [he] at hh D
      simp only [Bool.and_eq_true, beq_iff_eq, decide_eq_true_eq, bne_iff_ne, decide_eq_false_iff_not] at hh D
      omega
    unfold nerr
    rw [if_pos this]
  · rw [if_neg D]
    rw [he] at D
    have : okN n kl = true := by
      rw [hok, he]
      simp only [Bool.and_eq_true, beq_iff_eq, decide_eq_true_eq, bne_iff_ne, decide_eq_false_iff_not] at D ⊢
      omega
    simp only [decide_eq_false_iff_not] at D
    unfold nerr
    rw [if_neg (by rw [this]; decide), h]
    (repeat' split) <;> first | rfl | (exfalso; omega) | (exfalso; simp_all; done)
theorem nerr_3 (n : Nd) (kl : Nat) (h : n.kind = 3) : nerr n kl = if n.scale ≠ 0 ∨ n.text.isEmpty = false ∨ 0 < kl ∨ 0 < n.names.length then 3 else 0 := by
  have hok : okN n kl = ((n.scale == 0) && (((n.names.length : Int) == 0) && ((kl : Int) == 0)) && n.text.isEmpty) := by unfold okN okF; rw [h]; rfl
  have he : n.text.isEmpty = decide (n.text.length = 0) := by cases n.text <;> simp
  by_cases D : n.scale ≠ 0 ∨ n.text.isEmpty = false ∨ 0 < kl ∨ 0 < n.names.length
  · rw [if_pos D]
    have : okN n kl = false := by
      rw [hok, Bool.eq_false_iff]
      intro hh
      rw [he] at hh D
      simp only [Bool.and_eq_true, beq_iff_eq, decide_eq_true_eq, bne_iff_ne, decide_eq_false_iff_not] at hh D
      omega
    unfold nerr
    rw [if_pos this]
  · rw [if_neg D]
    rw [he] at D
    have : okN n kl = true := by
      rw [hok, he]
      simp only [Bool.and_eq_true, beq_iff_eq, decide_eq_true_eq, bne_iff_ne, decide_eq_false_iff_not] at D ⊢
      omega
    simp only [decide_eq_false_iff_not] at D
    unfold nerr
    rw [if_neg (by rw [this]; decide), h]
    (repeat' split) <;> first | rfl | (exfalso; omega) | (exfalso; simp_all; done)
theorem nerr_4 (n : Nd) (kl : Nat) (h : n.kind = 4) : nerr n kl = if n.scale < 1 ∨ 18 < n.scale ∨ n.int.tmod 10 = 0 ∨ n.text.isEmpty = false ∨ 0 < kl ∨ 0 < n.names.length then 3 else 0 := by
  have hok : okN n kl = (decide (1 ≤ n.scale) && decide (n.scale ≤ 18) && (n.int.tmod 10 != 0) && (((n.names.length : Int) == 0) && ((kl : Int) == 0)) && n.text.isEmpty) := by unfold okN okF; rw [h]; rfl
  have he : n.text.isEmpty = decide (n.text.length = 0) := by cases n.text <;> simp
  by_cases D : n.scale < 1 ∨ 18 < n.scale ∨ n.int.tmod 10 = 0 ∨ n.text.isEmpty = false ∨ 0 < kl ∨ 0 < n.names.length
  · rw [if_pos D]
    have : okN n kl = false := by
      rw [hok, Bool.eq_false_iff]
      intro hh
      rw [he] at hh D
      simp only [Bool.and_eq_true, beq_iff_eq, decide_eq_true_eq, bne_iff_ne, decide_eq_false_iff_not] at hh D
      omega
    unfold nerr
    rw [if_pos this]
  · rw [if_neg D]
    rw [he] at D
    have : okN n kl = true := by
      rw [hok, he]
      simp only [Bool.and_eq_true, beq_iff_eq, decide_eq_true_eq, bne_iff_ne, decide_eq_false_iff_not] at D ⊢
      omega
    simp only [decide_eq_false_iff_not] at D
    unfold nerr
    rw [if_neg (by rw [this]; decide), h]
    (repeat' split) <;> first | rfl | (exfalso; omega) | (exfalso; simp_all; done)
theorem nerr_5 (n : Nd) (kl : Nat) (h : n.kind = 5) : nerr n kl = if n.int < 0 ∨ 9007199254740992 < n.int ∨ n.scale ≠ 0 ∨ n.text.isEmpty = false ∨ 0 < kl ∨ 0 < n.names.length then 3 else 0 := by
  have hok : okN n kl = (decide (0 ≤ n.int) && decide (n.int ≤ 9007199254740992) && (n.scale == 0) && (((n.names.length : Int) == 0) && ((kl : Int) == 0)) && n.text.isEmpty) := by unfold okN okF; rw [h]; rfl
  have he : n.text.isEmpty = decide (n.text.length = 0) := by cases n.text <;> simp
  by_cases D : n.int < 0 ∨ 9007199254740992 < n.int ∨ n.scale ≠ 0 ∨ n.text.isEmpty = false ∨ 0 < kl ∨ 0 < n.names.length
  · rw [if_pos D]
    have : okN n kl = false := by
      rw [hok, Bool.eq_false_iff]
      intro hh
      rw [he] at hh D
      simp only [Bool.and_eq_true, beq_iff_eq, decide_eq_true_eq, bne_iff_ne, decide_eq_false_iff_not] at hh D
      omega
    unfold nerr
    rw [if_pos this]
  · rw [if_neg D]
    rw [he] at D
    have : okN n kl = true := by
      rw [hok, he]
      simp only [Bool.and_eq_true, beq_iff_eq, decide_eq_true_eq, bne_iff_ne, decide_eq_false_iff_not] at D ⊢
      omega
    simp only [decide_eq_false_iff_not] at D
    unfold nerr
    rw [if_neg (by rw [this]; decide), h]
    (repeat' split) <;> first | rfl | (exfalso; omega) | (exfalso; simp_all; done)
theorem nerr_6 (n : Nd) (kl : Nat) (h : n.kind = 6) : nerr n kl = if n.int ≠ 0 ∨ n.scale ≠ 0 ∨ 0 < kl ∨ 0 < n.names.length then 3 else if 16384 < n.text.length then 5 else 0 := by
  have hok : okN n kl = (((n.int == 0) && (n.scale == 0)) && (((n.names.length : Int) == 0) && ((kl : Int) == 0))) := by unfold okN okF; rw [h]; rfl
  by_cases D : n.int ≠ 0 ∨ n.scale ≠ 0 ∨ 0 < kl ∨ 0 < n.names.length
  · rw [if_pos D]
    have : okN n kl = false := by
      rw [hok, Bool.eq_false_iff]
      intro hh
      simp only [Bool.and_eq_true, beq_iff_eq, decide_eq_true_eq, bne_iff_ne] at hh D
      omega
    unfold nerr
    rw [if_pos this]
  · rw [if_neg D]
    have : okN n kl = true := by
      rw [hok]
      simp only [Bool.and_eq_true, beq_iff_eq, decide_eq_true_eq, bne_iff_ne] at D ⊢
      omega
    unfold nerr
    rw [if_neg (by rw [this]; decide), h]
    (repeat' split) <;> first | rfl | (exfalso; omega) | (exfalso; simp_all; done)
theorem nerr_7 (n : Nd) (kl : Nat) (h : n.kind = 7) : nerr n kl = if n.int ≠ 0 ∨ n.scale ≠ 0 ∨ 0 < kl ∨ 0 < n.names.length then 3 else if 16384 < n.text.length then 5 else 0 := by
  have hok : okN n kl = (((n.int == 0) && (n.scale == 0)) && (((n.names.length : Int) == 0) && ((kl : Int) == 0))) := by unfold okN okF; rw [h]; rfl
  by_cases D : n.int ≠ 0 ∨ n.scale ≠ 0 ∨ 0 < kl ∨ 0 < n.names.length
  · rw [if_pos D]
    have : okN n kl = false := by
      rw [hok, Bool.eq_false_iff]
      intro hh
      simp only [Bool.and_eq_true, beq_iff_eq, decide_eq_true_eq, bne_iff_ne] at hh D
      omega
    unfold nerr
    rw [if_pos this]
  · rw [if_neg D]
    have : okN n kl = true := by
      rw [hok]
      simp only [Bool.and_eq_true, beq_iff_eq, decide_eq_true_eq, bne_iff_ne] at D ⊢
      omega
    unfold nerr
    rw [if_neg (by rw [this]; decide), h]
    (repeat' split) <;> first | rfl | (exfalso; omega) | (exfalso; simp_all; done)
theorem nerr_8 (n : Nd) (kl : Nat) (h : n.kind = 8) : nerr n kl = if n.int ≠ 0 ∨ n.scale ≠ 0 ∨ n.text.isEmpty = false ∨ 0 < n.names.length then 3 else if 200 < kl then 5 else 0 := by
  have hok : okN n kl = (((n.int == 0) && (n.scale == 0)) && ((n.names.length : Int) == 0) && n.text.isEmpty) := by unfold okN okF; rw [h]; rfl
  have he : n.text.isEmpty = decide (n.text.length = 0) := by cases n.text <;> simp
  by_cases D : n.int ≠ 0 ∨ n.scale ≠ 0 ∨ n.text.isEmpty = false ∨ 0 < n.names.length
  · rw [if_pos D]
    have : okN n kl = false := by
      rw [hok, Bool.eq_false_iff]
      intro hh
      rw [he] at hh D
      simp only [Bool.and_eq_true, beq_iff_eq, decide_eq_true_eq, bne_iff_ne, decide_eq_false_iff_not] at hh D
      omega
    unfold nerr
    rw [if_pos this]
  · rw [if_neg D]
    rw [he] at D
    have : okN n kl = true := by
      rw [hok, he]
      simp only [Bool.and_eq_true, beq_iff_eq, decide_eq_true_eq, bne_iff_ne, decide_eq_false_iff_not] at D ⊢
      omega
    simp only [decide_eq_false_iff_not] at D
    unfold nerr
    rw [if_neg (by rw [this]; decide), h]
    (repeat' split) <;> first | rfl | (exfalso; omega) | (exfalso; simp_all; done)
theorem nerr_9 (n : Nd) (kl : Nat) (h : n.kind = 9) : nerr n kl = if n.int ≠ 0 ∨ n.scale ≠ 0 ∨ n.text.isEmpty = false then 3 else if 200 < kl then 5 else if fieldsOk n.names kl = false then 3 else 0 := by
  have hok : okN n kl = (((n.int == 0) && (n.scale == 0)) && n.text.isEmpty) := by unfold okN okF; rw [h]; rfl
  have he : n.text.isEmpty = decide (n.text.length = 0) := by cases n.text <;> simp
  by_cases D : n.int ≠ 0 ∨ n.scale ≠ 0 ∨ n.text.isEmpty = false
  · rw [if_pos D]
    have : okN n kl = false := by
      rw [hok, Bool.eq_false_iff]
      intro hh
      rw [he] at hh D
      simp only [Bool.and_eq_true, beq_iff_eq, decide_eq_true_eq, bne_iff_ne, decide_eq_false_iff_not] at hh D
      omega
    unfold nerr
    rw [if_pos this]
  · rw [if_neg D]
    rw [he] at D
    have : okN n kl = true := by
      rw [hok, he]
      simp only [Bool.and_eq_true, beq_iff_eq, decide_eq_true_eq, bne_iff_ne, decide_eq_false_iff_not] at D ⊢
      omega
    simp only [decide_eq_false_iff_not] at D
    unfold nerr
    rw [if_neg (by rw [this]; decide), h]
    (repeat' split) <;> first | rfl | (exfalso; omega) | (exfalso; simp_all; done)
end Go.Proofs.Ytfcbcbpnlnkpcaa
/- scrivenerref5.check: 'chk'. (Printed by a small program of mine.) -/
namespace Go.Proofs.Ytfcbcbpnlnkpcaa
set_option linter.all false
open Go.RowKit
/-- What scrivenerref5.check says of a node. -/
def RChkC (n : Nd) (k : F) : Prop := ∀ (d : Nat) (v : Value) (w : World), d ≤ 17 → Vo w (· < w.heap.size) n k v →
    Calls Try.prog 28 #[v, .int .i64 (d : Int)] w (Ret (.int .i64 (chk n k d : Int)) w)
theorem nerr_0 (n : Nd) (kl : Nat) (h : ∀ c : Int, 1 ≤ c → c ≤ 9 → n.kind ≠ c) : nerr n kl = 3 := by
  unfold nerr okN okF
  simp [h 1 (by omega) (by omega), h 2 (by omega) (by omega), h 3 (by omega) (by omega), h 4 (by omega) (by omega), h 5 (by omega) (by omega), h 6 (by omega) (by omega), h 7 (by omega) (by omega), h 8 (by omega) (by omega), h 9 (by omega) (by omega)]
set_option maxRecDepth 100000 in
set_option maxHeartbeats 12800000 in
theorem rchk_k1 (n : Nd) (k : F) (IH : Hid (∀ i m j, k.get i = some (m, j) → RChkC m j)) (hk0 : n.kind = 1) (d : Nat) (v : Value) (w : World) (hd : d ≤ 16) (hv : Vo w (· < w.heap.size) n k v) :
    Calls Try.prog 28 #[v, .int .i64 (d : Int)] w (Ret (.int .i64 (chk n k d : Int)) w) := by
  obtain ⟨An, cn, Ak, ck, rfl, hok, h1, h2, hn, hk⟩ := hv
  have hbx := boxw_eq w n An cn Ak k.len ck
  have hb0 := boxw_below w n An cn Ak k.len ck
  have hz0 := boxw_size w n An cn Ak k.len ck
  have hs6 := boxw_six w n An cn Ak k.len ck
  generalize boxw w n An cn Ak k.len ck = Wb at *
  have HZ := Lib.hid hz0
  have HS6 := Lib.hid hs6
  obtain ⟨x0, x1, x2, x3, x4, x5⟩ := hs6
  have hte0 : (str n.text).toList.isEmpty = n.text.isEmpty := by rw [str_toList]
  have hsz := str_size n.text
  have hchk : Hid (chk n k d = if 16 < d then 9 else if nerr n k.len ≠ 0 then nerr n k.len else chkF k (d + 1)) := rfl
  have hN : Hid (nerr n k.len = _) := nerr_1 n k.len hk0

  obtain ⟨ht1, ht2, ht3, ht4, ht5⟩ := hok
  obtain ⟨hn1, hn2⟩ := h1
  obtain ⟨hk1, hk2⟩ := h2
  unfold I64 at ht1 ht2 ht3
  unfold ncells
  generalize hC : chk n k d = C at *
  clear hC
  generalize hE : nerr n k.len = E at *
  clear hE hz0 hn
  generalize n.names.length = nl at *
  generalize n.text.isEmpty = te at *
  generalize n.text.length = tl at *
  generalize str n.text = t at *
  generalize n.int = i at *
  generalize n.scale = s at *
  generalize n.kind = kind at *
  subst hk0
  have h16 : ¬ 16 < d := by omega
  have hN0 := hN.out
  clear hN
  by_cases h_0 : i ≠ 0
  · rw [if_pos (Or.inl h_0)] at hN0
    have HC : Hid (C = 3) := by show _ = _; rw [hchk.out, if_neg h16, if_pos (by rw [hN0]; decide), hN0]
    clear hN0 hchk
    have q_0 : (i != 0) = true := by simp; omega
    clear h_0
    go_enter Try.func28, Try.ntmps28
    go_wp2_with fail
    all_goals (go_ret; exact ⟨ret_int (by rw [HC.out]; rfl), hb0⟩)
  · skip
    by_cases h_1 : s ≠ 0
    · rw [if_pos (Or.inr (Or.inl h_1))] at hN0
      have HC : Hid (C = 3) := by show _ = _; rw [hchk.out, if_neg h16, if_pos (by rw [hN0]; decide), hN0]
      clear hN0 hchk
      have q_0 : (i != 0) = false := by simp; omega
      have q_1 : (s != 0) = true := by simp; omega
      clear h_0 h_1
      go_enter Try.func28, Try.ntmps28
      go_wp2_with fail
      all_goals (go_ret; exact ⟨ret_int (by rw [HC.out]; rfl), hb0⟩)
    · skip
      by_cases h_2 : te = false
      · rw [if_pos (Or.inr (Or.inr (Or.inl h_2)))] at hN0
        have HC : Hid (C = 3) := by show _ = _; rw [hchk.out, if_neg h16, if_pos (by rw [hN0]; decide), hN0]
        clear hN0 hchk
        have q_0 : (i != 0) = false := by simp; omega
        have q_1 : (s != 0) = false := by simp; omega
        obtain rfl : te = false := h_2
        clear h_0 h_1
        go_enter Try.func28, Try.ntmps28
        go_wp2_with fail
        all_goals (go_ret; exact ⟨ret_int (by rw [HC.out]; rfl), hb0⟩)
      · skip
        by_cases h_3 : 0 < k.len
        · rw [if_pos (Or.inr (Or.inr (Or.inr (Or.inl h_3))))] at hN0
          have HC : Hid (C = 3) := by show _ = _; rw [hchk.out, if_neg h16, if_pos (by rw [hN0]; decide), hN0]
          clear hN0 hchk
          have q_0 : (i != 0) = false := by simp; omega
          have q_1 : (s != 0) = false := by simp; omega
          obtain rfl : te = true := by cases te <;> simp_all
          clear h_0 h_1 h_2
          go_enter Try.func28, Try.ntmps28
          go_wp2_with fail
          all_goals (go_ret; exact ⟨ret_int (by rw [HC.out]; rfl), hb0⟩)
        · skip
          by_cases h_4 : 0 < nl
          · rw [if_pos (Or.inr (Or.inr (Or.inr (Or.inr (h_4)))))] at hN0
            have HC : Hid (C = 3) := by show _ = _; rw [hchk.out, if_neg h16, if_pos (by rw [hN0]; decide), hN0]
            clear hN0 hchk
            have q_0 : (i != 0) = false := by simp; omega
            have q_1 : (s != 0) = false := by simp; omega
            obtain rfl : te = true := by cases te <;> simp_all
            clear h_0 h_1 h_2
            go_enter Try.func28, Try.ntmps28
            go_wp2_with fail
            all_goals (go_ret; exact ⟨ret_int (by rw [HC.out]; rfl), hb0⟩)
          · skip
            rw [if_neg (by rintro (h | h | h | h | h) <;> contradiction)] at hN0
            have HC : Hid (C = chkF (k.drop 0) (d + 1)) := by show _ = _; rw [hchk.out, if_neg h16, if_neg (by rw [hN0]; decide)]; cases k <;> rfl
            clear hN0 hchk
            have q_0 : (i != 0) = false := by simp; omega
            have q_1 : (s != 0) = false := by simp; omega
            obtain rfl : te = true := by cases te <;> simp_all
            clear h_0 h_1 h_2
            go_enter Try.func28, Try.ntmps28
            go_wp2_with fail
            go_loopw [8, 9] (fun s8 _ wr => ∃ j : Nat, j ≤ k.len ∧ s8 = .int .i64 j ∧ Hid (C = chkF (k.drop j) (d + 1)) ∧ Below (w.heap.size + 1) Wb wr) (fun s8 _ _ => k.len - (intOf s8).toNat)
            case atStart => exact ⟨0, Nat.zero_le _, rfl, HC.out, Below.refl _ _⟩
            case round =>
              obtain ⟨j, hj, rfl, HJ, hb⟩ := hrel
              obtain ⟨c0, c1, c2, c3, c4, c5⟩ := (unhide HS6).below hb (by omega)
              have hbw := hb0.trans (hb.mono (by omega))
              have hsz' : w.heap.size + 1 ≤ wr.heap.size := by have := hb.size; rw [HZ.out] at this; exact this
              by_cases hlt : j < k.len
              · exact absurd hlt (by omega)
              · have HN : Hid (C = 0) := by
                  show _ = _
                  rw [HJ.out, F.drop_len k j (by omega)]; rfl
                go_wp2_with fail
                go_ret
                exact ⟨ret_int (by rw [HN.out]; rfl), hbw⟩
set_option maxRecDepth 100000 in
set_option maxHeartbeats 12800000 in
theorem rchk_k0 (n : Nd) (k : F) (IH : Hid (∀ i m j, k.get i = some (m, j) → RChkC m j)) (hk0 : ∀ c : Int, 1 ≤ c → c ≤ 9 → n.kind ≠ c) (d : Nat) (v : Value) (w : World) (hd : d ≤ 16) (hv : Vo w (· < w.heap.size) n k v) :
    Calls Try.prog 28 #[v, .int .i64 (d : Int)] w (Ret (.int .i64 (chk n k d : Int)) w) := by
  obtain ⟨An, cn, Ak, ck, rfl, hok, h1, h2, hn, hk⟩ := hv
  have hbx := boxw_eq w n An cn Ak k.len ck
  have hb0 := boxw_below w n An cn Ak k.len ck
  have hz0 := boxw_size w n An cn Ak k.len ck
  have hs6 := boxw_six w n An cn Ak k.len ck
  generalize boxw w n An cn Ak k.len ck = Wb at *
  have HZ := Lib.hid hz0
  have HS6 := Lib.hid hs6
  obtain ⟨x0, x1, x2, x3, x4, x5⟩ := hs6
  have hte0 : (str n.text).toList.isEmpty = n.text.isEmpty := by rw [str_toList]
  have hsz := str_size n.text
  have hchk : Hid (chk n k d = if 16 < d then 9 else if nerr n k.len ≠ 0 then nerr n k.len else chkF k (d + 1)) := rfl
  have hN : Hid (nerr n k.len = _) := nerr_0 n k.len hk0

  obtain ⟨ht1, ht2, ht3, ht4, ht5⟩ := hok
  obtain ⟨hn1, hn2⟩ := h1
  obtain ⟨hk1, hk2⟩ := h2
  unfold I64 at ht1 ht2 ht3
  unfold ncells
  generalize hC : chk n k d = C at *
  clear hC
  generalize hE : nerr n k.len = E at *
  clear hE hz0 hn
  generalize n.names.length = nl at *
  generalize n.text.isEmpty = te at *
  generalize n.text.length = tl at *
  generalize str n.text = t at *
  generalize n.int = i at *
  generalize n.scale = s at *
  generalize n.kind = kind at *
  have k1 : (kind == 1) = false := by simpa using hk0 1 (by omega) (by omega)
  have k2 : (kind == 2) = false := by simpa using hk0 2 (by omega) (by omega)
  have k3 : (kind == 3) = false := by simpa using hk0 3 (by omega) (by omega)
  have k4 : (kind == 4) = false := by simpa using hk0 4 (by omega) (by omega)
  have k5 : (kind == 5) = false := by simpa using hk0 5 (by omega) (by omega)
  have k6 : (kind == 6) = false := by simpa using hk0 6 (by omega) (by omega)
  have k7 : (kind == 7) = false := by simpa using hk0 7 (by omega) (by omega)
  have k8 : (kind == 8) = false := by simpa using hk0 8 (by omega) (by omega)
  have k9 : (kind == 9) = false := by simpa using hk0 9 (by omega) (by omega)
  clear hk0
  have h16 : ¬ 16 < d := by omega
  have HC : Hid (C = 3) := by show _ = _; rw [hchk.out, if_neg h16, if_pos (by rw [hN.out]; decide), hN.out]
  clear hN hchk
  go_enter Try.func28, Try.ntmps28
  go_wp2_with fail
  all_goals (go_ret; exact ⟨ret_int (by rw [HC.out]; rfl), hb0⟩)
end Go.Proofs.Ytfcbcbpnlnkpcaa
/- scrivenerref5.check: 'chk'. (Printed by a small program of mine.) -/
namespace Go.Proofs.Ytfcbcbpnlnkpcaa
set_option linter.all false
open Go.RowKit
set_option maxRecDepth 100000 in
set_option maxHeartbeats 12800000 in
theorem rchk_k2 (n : Nd) (k : F) (IH : Hid (∀ i m j, k.get i = some (m, j) → RChkC m j)) (hk0 : n.kind = 2) (d : Nat) (v : Value) (w : World) (hd : d ≤ 16) (hv : Vo w (· < w.heap.size) n k v) :
    Calls Try.prog 28 #[v, .int .i64 (d : Int)] w (Ret (.int .i64 (chk n k d : Int)) w) := by
  obtain ⟨An, cn, Ak, ck, rfl, hok, h1, h2, hn, hk⟩ := hv
  have hbx := boxw_eq w n An cn Ak k.len ck
  have hb0 := boxw_below w n An cn Ak k.len ck
  have hz0 := boxw_size w n An cn Ak k.len ck
  have hs6 := boxw_six w n An cn Ak k.len ck
  generalize boxw w n An cn Ak k.len ck = Wb at *
  have HZ := Lib.hid hz0
  have HS6 := Lib.hid hs6
  obtain ⟨x0, x1, x2, x3, x4, x5⟩ := hs6
  have hte0 : (str n.text).toList.isEmpty = n.text.isEmpty := by rw [str_toList]
  have hsz := str_size n.text
  have hchk : Hid (chk n k d = if 16 < d then 9 else if nerr n k.len ≠ 0 then nerr n k.len else chkF k (d + 1)) := rfl
  have hN : Hid (nerr n k.len = _) := nerr_2 n k.len hk0

  obtain ⟨ht1, ht2, ht3, ht4, ht5⟩ := hok
  obtain ⟨hn1, hn2⟩ := h1
  obtain ⟨hk1, hk2⟩ := h2
  unfold I64 at ht1 ht2 ht3
  unfold ncells
  generalize hC : chk n k d = C at *
  clear hC
  generalize hE : nerr n k.len = E at *
  clear hE hz0 hn
  generalize n.names.length = nl at *
  generalize n.text.isEmpty = te at *
  generalize n.text.length = tl at *
  generalize str n.text = t at *
  generalize n.int = i at *
  generalize n.scale = s at *
  generalize n.kind = kind at *
  subst hk0
  have h16 : ¬ 16 < d := by omega
  have hN0 := hN.out
  clear hN
  by_cases h_0 : i < 0
  · rw [if_pos (Or.inl h_0)] at hN0
    have HC : Hid (C = 3) := by show _ = _; rw [hchk.out, if_neg h16, if_pos (by rw [hN0]; decide), hN0]
    clear hN0 hchk
    have q_0 : decide (i < 0) = true := by simp; omega
    clear h_0
    go_enter Try.func28, Try.ntmps28
    go_wp2_with fail
    all_goals (go_ret; exact ⟨ret_int (by rw [HC.out]; rfl), hb0⟩)
  · skip
    by_cases h_1 : 1 < i
    · rw [if_pos (Or.inr (Or.inl h_1))] at hN0
      have HC : Hid (C = 3) := by show _ = _; rw [hchk.out, if_neg h16, if_pos (by rw [hN0]; decide), hN0]
      clear hN0 hchk
      have q_0 : decide (i < 0) = false := by simp; omega
      have q_1 : decide (1 < i) = true := by simp; omega
      clear h_0 h_1
      go_enter Try.func28, Try.ntmps28
      go_wp2_with fail
      all_goals (go_ret; exact ⟨ret_int (by rw [HC.out]; rfl), hb0⟩)
    · skip
      by_cases h_2 : s ≠ 0
      · rw [if_pos (Or.inr (Or.inr (Or.inl h_2)))] at hN0
        have HC : Hid (C = 3) := by show _ = _; rw [hchk.out, if_neg h16, if_pos (by rw [hN0]; decide), hN0]
        clear hN0 hchk
        have q_0 : decide (i < 0) = false := by simp; omega
        have q_1 : decide (1 < i) = false := by simp; omega
        have q_2 : (s != 0) = true := by simp; omega
        clear h_0 h_1 h_2
        go_enter Try.func28, Try.ntmps28
        go_wp2_with fail
        all_goals (go_ret; exact ⟨ret_int (by rw [HC.out]; rfl), hb0⟩)
      · skip
        by_cases h_3 : te = false
        · rw [if_pos (Or.inr (Or.inr (Or.inr (Or.inl h_3))))] at hN0
          have HC : Hid (C = 3) := by show _ = _; rw [hchk.out, if_neg h16, if_pos (by rw [hN0]; decide), hN0]
          clear hN0 hchk
          have q_0 : decide (i < 0) = false := by simp; omega
          have q_1 : decide (1 < i) = false := by simp; omega
          have q_2 : (s != 0) = false := by simp; omega
          obtain rfl : te = false := h_3
          clear h_0 h_1 h_2
          go_enter Try.func28, Try.ntmps28
          go_wp2_with fail
          all_goals (go_ret; exact ⟨ret_int (by rw [HC.out]; rfl), hb0⟩)
        · skip
          by_cases h_4 : 0 < k.len
          · rw [if_pos (Or.inr (Or.inr (Or.inr (Or.inr (Or.inl h_4)))))] at hN0
            have HC : Hid (C = 3) := by show _ = _; rw [hchk.out, if_neg h16, if_pos (by rw [hN0]; decide), hN0]
            clear hN0 hchk
            have q_0 : decide (i < 0) = false := by simp; omega
            have q_1 : decide (1 < i) = false := by simp; omega
            have q_2 : (s != 0) = false := by simp; omega
            obtain rfl : te = true := by cases te <;> simp_all
            clear h_0 h_1 h_2 h_3
            go_enter Try.func28, Try.ntmps28
            go_wp2_with fail
            all_goals (go_ret; exact ⟨ret_int (by rw [HC.out]; rfl), hb0⟩)
          · skip
            by_cases h_5 : 0 < nl
            · rw [if_pos (Or.inr (Or.inr (Or.inr (Or.inr (Or.inr (h_5))))))] at hN0
              have HC : Hid (C = 3) := by show _ = _; rw [hchk.out, if_neg h16, if_pos (by rw [hN0]; decide), hN0]
              clear hN0 hchk
              have q_0 : decide (i < 0) = false := by simp; omega
              have q_1 : decide (1 < i) = false := by simp; omega
              have q_2 : (s != 0) = false := by simp; omega
              obtain rfl : te = true := by cases te <;> simp_all
              clear h_0 h_1 h_2 h_3
              go_enter Try.func28, Try.ntmps28
              go_wp2_with fail
              all_goals (go_ret; exact ⟨ret_int (by rw [HC.out]; rfl), hb0⟩)
            · skip
              rw [if_neg (by rintro (h | h | h | h | h | h) <;> contradiction)] at hN0
              have HC : Hid (C = chkF (k.drop 0) (d + 1)) := by show _ = _; rw [hchk.out, if_neg h16, if_neg (by rw [hN0]; decide)]; cases k <;> rfl
              clear hN0 hchk
              have q_0 : decide (i < 0) = false := by simp; omega
              have q_1 : decide (1 < i) = false := by simp; omega
              have q_2 : (s != 0) = false := by simp; omega
              obtain rfl : te = true := by cases te <;> simp_all
              clear h_0 h_1 h_2 h_3
              go_enter Try.func28, Try.ntmps28
              go_wp2_with fail
              go_loopw [8, 9] (fun s8 _ wr => ∃ j : Nat, j ≤ k.len ∧ s8 = .int .i64 j ∧ Hid (C = chkF (k.drop j) (d + 1)) ∧ Below (w.heap.size + 1) Wb wr) (fun s8 _ _ => k.len - (intOf s8).toNat)
              case atStart => exact ⟨0, Nat.zero_le _, rfl, HC.out, Below.refl _ _⟩
              case round =>
                obtain ⟨j, hj, rfl, HJ, hb⟩ := hrel
                obtain ⟨c0, c1, c2, c3, c4, c5⟩ := (unhide HS6).below hb (by omega)
                have hbw := hb0.trans (hb.mono (by omega))
                have hsz' : w.heap.size + 1 ≤ wr.heap.size := by have := hb.size; rw [HZ.out] at this; exact this
                by_cases hlt : j < k.len
                · exact absurd hlt (by omega)
                · have HN : Hid (C = 0) := by
                    show _ = _
                    rw [HJ.out, F.drop_len k j (by omega)]; rfl
                  go_wp2_with fail
                  go_ret
                  exact ⟨ret_int (by rw [HN.out]; rfl), hbw⟩
set_option maxRecDepth 100000 in
set_option maxHeartbeats 12800000 in
theorem rchk_k3 (n : Nd) (k : F) (IH : Hid (∀ i m j, k.get i = some (m, j) → RChkC m j)) (hk0 : n.kind = 3) (d : Nat) (v : Value) (w : World) (hd : d ≤ 16) (hv : Vo w (· < w.heap.size) n k v) :
    Calls Try.prog 28 #[v, .int .i64 (d : Int)] w (Ret (.int .i64 (chk n k d : Int)) w) := by
  obtain ⟨An, cn, Ak, ck, rfl, hok, h1, h2, hn, hk⟩ := hv
  have hbx := boxw_eq w n An cn Ak k.len ck
  have hb0 := boxw_below w n An cn Ak k.len ck
  have hz0 := boxw_size w n An cn Ak k.len ck
  have hs6 := boxw_six w n An cn Ak k.len ck
  generalize boxw w n An cn Ak k.len ck = Wb at *
  have HZ := Lib.hid hz0
  have HS6 := Lib.hid hs6
  obtain ⟨x0, x1, x2, x3, x4, x5⟩ := hs6
  have hte0 : (str n.text).toList.isEmpty = n.text.isEmpty := by rw [str_toList]
  have hsz := str_size n.text
  have hchk : Hid (chk n k d = if 16 < d then 9 else if nerr n k.len ≠ 0 then nerr n k.len else chkF k (d + 1)) := rfl
  have hN : Hid (nerr n k.len = _) := nerr_3 n k.len hk0

  obtain ⟨ht1, ht2, ht3, ht4, ht5⟩ := hok
  obtain ⟨hn1, hn2⟩ := h1
  obtain ⟨hk1, hk2⟩ := h2
  unfold I64 at ht1 ht2 ht3
  unfold ncells
  generalize hC : chk n k d = C at *
  clear hC
  generalize hE : nerr n k.len = E at *
  clear hE hz0 hn
  generalize n.names.length = nl at *
  generalize n.text.isEmpty = te at *
  generalize n.text.length = tl at *
  generalize str n.text = t at *
  generalize n.int = i at *
  generalize n.scale = s at *
  generalize n.kind = kind at *
  subst hk0
  have h16 : ¬ 16 < d := by omega
  have hN0 := hN.out
  clear hN
  by_cases h_0 : s ≠ 0
  · rw [if_pos (Or.inl h_0)] at hN0
    have HC : Hid (C = 3) := by show _ = _; rw [hchk.out, if_neg h16, if_pos (by rw [hN0]; decide), hN0]
    clear hN0 hchk
    have q_0 : (s != 0) = true := by simp; omega
    clear h_0
    go_enter Try.func28, Try.ntmps28
    go_wp2_with fail
    all_goals (go_ret; exact ⟨ret_int (by rw [HC.out]; rfl), hb0⟩)
  · skip
    by_cases h_1 : te = false
    · rw [if_pos (Or.inr (Or.inl h_1))] at hN0
      have HC : Hid (C = 3) := by show _ = _; rw [hchk.out, if_neg h16, if_pos (by rw [hN0]; decide), hN0]
      clear hN0 hchk
      have q_0 : (s != 0) = false := by simp; omega
      obtain rfl : te = false := h_1
      clear h_0
      go_enter Try.func28, Try.ntmps28
      go_wp2_with fail
      all_goals (go_ret; exact ⟨ret_int (by rw [HC.out]; rfl), hb0⟩)
    · skip
      by_cases h_2 : 0 < k.len
      · rw [if_pos (Or.inr (Or.inr (Or.inl h_2)))] at hN0
        have HC : Hid (C = 3) := by show _ = _; rw [hchk.out, if_neg h16, if_pos (by rw [hN0]; decide), hN0]
        clear hN0 hchk
        have q_0 : (s != 0) = false := by simp; omega
        obtain rfl : te = true := by cases te <;> simp_all
        clear h_0 h_1
        go_enter Try.func28, Try.ntmps28
        go_wp2_with fail
        all_goals (go_ret; exact ⟨ret_int (by rw [HC.out]; rfl), hb0⟩)
      · skip
        by_cases h_3 : 0 < nl
        · rw [if_pos (Or.inr (Or.inr (Or.inr (h_3))))] at hN0
          have HC : Hid (C = 3) := by show _ = _; rw [hchk.out, if_neg h16, if_pos (by rw [hN0]; decide), hN0]
          clear hN0 hchk
          have q_0 : (s != 0) = false := by simp; omega
          obtain rfl : te = true := by cases te <;> simp_all
          clear h_0 h_1
          go_enter Try.func28, Try.ntmps28
          go_wp2_with fail
          all_goals (go_ret; exact ⟨ret_int (by rw [HC.out]; rfl), hb0⟩)
        · skip
          rw [if_neg (by rintro (h | h | h | h) <;> contradiction)] at hN0
          have HC : Hid (C = chkF (k.drop 0) (d + 1)) := by show _ = _; rw [hchk.out, if_neg h16, if_neg (by rw [hN0]; decide)]; cases k <;> rfl
          clear hN0 hchk
          have q_0 : (s != 0) = false := by simp; omega
          obtain rfl : te = true := by cases te <;> simp_all
          clear h_0 h_1
          go_enter Try.func28, Try.ntmps28
          go_wp2_with fail
          go_loopw [8, 9] (fun s8 _ wr => ∃ j : Nat, j ≤ k.len ∧ s8 = .int .i64 j ∧ Hid (C = chkF (k.drop j) (d + 1)) ∧ Below (w.heap.size + 1) Wb wr) (fun s8 _ _ => k.len - (intOf s8).toNat)
          case atStart => exact ⟨0, Nat.zero_le _, rfl, HC.out, Below.refl _ _⟩
          case round =>
            obtain ⟨j, hj, rfl, HJ, hb⟩ := hrel
            obtain ⟨c0, c1, c2, c3, c4, c5⟩ := (unhide HS6).below hb (by omega)
            have hbw := hb0.trans (hb.mono (by omega))
            have hsz' : w.heap.size + 1 ≤ wr.heap.size := by have := hb.size; rw [HZ.out] at this; exact this
            by_cases hlt : j < k.len
            · exact absurd hlt (by omega)
            · have HN : Hid (C = 0) := by
                show _ = _
                rw [HJ.out, F.drop_len k j (by omega)]; rfl
              go_wp2_with fail
              go_ret
              exact ⟨ret_int (by rw [HN.out]; rfl), hbw⟩
end Go.Proofs.Ytfcbcbpnlnkpcaa
/- scrivenerref5.check: 'chk'. (Printed by a small program of mine.) -/
namespace Go.Proofs.Ytfcbcbpnlnkpcaa
set_option linter.all false
open Go.RowKit
set_option maxRecDepth 100000 in
set_option maxHeartbeats 12800000 in
theorem rchk_k4 (n : Nd) (k : F) (IH : Hid (∀ i m j, k.get i = some (m, j) → RChkC m j)) (hk0 : n.kind = 4) (d : Nat) (v : Value) (w : World) (hd : d ≤ 16) (hv : Vo w (· < w.heap.size) n k v) :
    Calls Try.prog 28 #[v, .int .i64 (d : Int)] w (Ret (.int .i64 (chk n k d : Int)) w) := by
  obtain ⟨An, cn, Ak, ck, rfl, hok, h1, h2, hn, hk⟩ := hv
  have hbx := boxw_eq w n An cn Ak k.len ck
  have hb0 := boxw_below w n An cn Ak k.len ck
  have hz0 := boxw_size w n An cn Ak k.len ck
  have hs6 := boxw_six w n An cn Ak k.len ck
  generalize boxw w n An cn Ak k.len ck = Wb at *
  have HZ := Lib.hid hz0
  have HS6 := Lib.hid hs6
  obtain ⟨x0, x1, x2, x3, x4, x5⟩ := hs6
  have hte0 : (str n.text).toList.isEmpty = n.text.isEmpty := by rw [str_toList]
  have hsz := str_size n.text
  have hchk : Hid (chk n k d = if 16 < d then 9 else if nerr n k.len ≠ 0 then nerr n k.len else chkF k (d + 1)) := rfl
  have hN : Hid (nerr n k.len = _) := nerr_4 n k.len hk0

  obtain ⟨ht1, ht2, ht3, ht4, ht5⟩ := hok
  obtain ⟨hn1, hn2⟩ := h1
  obtain ⟨hk1, hk2⟩ := h2
  unfold I64 at ht1 ht2 ht3
  unfold ncells
  generalize hC : chk n k d = C at *
  clear hC
  generalize hE : nerr n k.len = E at *
  clear hE hz0 hn
  generalize n.names.length = nl at *
  generalize n.text.isEmpty = te at *
  generalize n.text.length = tl at *
  generalize str n.text = t at *
  generalize n.int = i at *
  generalize n.scale = s at *
  generalize n.kind = kind at *
  subst hk0
  have h16 : ¬ 16 < d := by omega
  have hN0 := hN.out
  clear hN
  by_cases h_0 : s < 1
  · rw [if_pos (Or.inl h_0)] at hN0
    have HC : Hid (C = 3) := by show _ = _; rw [hchk.out, if_neg h16, if_pos (by rw [hN0]; decide), hN0]
    clear hN0 hchk
    have q_0 : decide (s < 1) = true := by simp; omega
    clear h_0
    go_enter Try.func28, Try.ntmps28
    go_wp2_with fail
    all_goals (go_ret; exact ⟨ret_int (by rw [HC.out]; rfl), hb0⟩)
  · skip
    by_cases h_1 : 18 < s
    · rw [if_pos (Or.inr (Or.inl h_1))] at hN0
      have HC : Hid (C = 3) := by show _ = _; rw [hchk.out, if_neg h16, if_pos (by rw [hN0]; decide), hN0]
      clear hN0 hchk
      have q_0 : decide (s < 1) = false := by simp; omega
      have q_1 : decide (18 < s) = true := by simp; omega
      clear h_0 h_1
      go_enter Try.func28, Try.ntmps28
      go_wp2_with fail
      all_goals (go_ret; exact ⟨ret_int (by rw [HC.out]; rfl), hb0⟩)
    · skip
      by_cases h_2 : i.tmod 10 = 0
      · rw [if_pos (Or.inr (Or.inr (Or.inl h_2)))] at hN0
        have HC : Hid (C = 3) := by show _ = _; rw [hchk.out, if_neg h16, if_pos (by rw [hN0]; decide), hN0]
        clear hN0 hchk
        have q_0 : decide (s < 1) = false := by simp; omega
        have q_1 : decide (18 < s) = false := by simp; omega
        have q_2 : (i.tmod 10 == 0) = true := by simp; omega
        clear h_0 h_1 h_2
        go_enter Try.func28, Try.ntmps28
        go_wp2_with fail
        all_goals (go_ret; exact ⟨ret_int (by rw [HC.out]; rfl), hb0⟩)
      · skip
        by_cases h_3 : te = false
        · rw [if_pos (Or.inr (Or.inr (Or.inr (Or.inl h_3))))] at hN0
          have HC : Hid (C = 3) := by show _ = _; rw [hchk.out, if_neg h16, if_pos (by rw [hN0]; decide), hN0]
          clear hN0 hchk
          have q_0 : decide (s < 1) = false := by simp; omega
          have q_1 : decide (18 < s) = false := by simp; omega
          have q_2 : (i.tmod 10 == 0) = false := by simp; omega
          obtain rfl : te = false := h_3
          clear h_0 h_1 h_2
          go_enter Try.func28, Try.ntmps28
          go_wp2_with fail
          all_goals (go_ret; exact ⟨ret_int (by rw [HC.out]; rfl), hb0⟩)
        · skip
          by_cases h_4 : 0 < k.len
          · rw [if_pos (Or.inr (Or.inr (Or.inr (Or.inr (Or.inl h_4)))))] at hN0
            have HC : Hid (C = 3) := by show _ = _; rw [hchk.out, if_neg h16, if_pos (by rw [hN0]; decide), hN0]
            clear hN0 hchk
            have q_0 : decide (s < 1) = false := by simp; omega
            have q_1 : decide (18 < s) = false := by simp; omega
            have q_2 : (i.tmod 10 == 0) = false := by simp; omega
            obtain rfl : te = true := by cases te <;> simp_all
            clear h_0 h_1 h_2 h_3
            go_enter Try.func28, Try.ntmps28
            go_wp2_with fail
            all_goals (go_ret; exact ⟨ret_int (by rw [HC.out]; rfl), hb0⟩)
          · skip
            by_cases h_5 : 0 < nl
            · rw [if_pos (Or.inr (Or.inr (Or.inr (Or.inr (Or.inr (h_5))))))] at hN0
              have HC : Hid (C = 3) := by show _ = _; rw [hchk.out, if_neg h16, if_pos (by rw [hN0]; decide), hN0]
              clear hN0 hchk
              have q_0 : decide (s < 1) = false := by simp; omega
              have q_1 : decide (18 < s) = false := by simp; omega
              have q_2 : (i.tmod 10 == 0) = false := by simp; omega
              obtain rfl : te = true := by cases te <;> simp_all
              clear h_0 h_1 h_2 h_3
              go_enter Try.func28, Try.ntmps28
              go_wp2_with fail
              all_goals (go_ret; exact ⟨ret_int (by rw [HC.out]; rfl), hb0⟩)
            · skip
              rw [if_neg (by rintro (h | h | h | h | h | h) <;> contradiction)] at hN0
              have HC : Hid (C = chkF (k.drop 0) (d + 1)) := by show _ = _; rw [hchk.out, if_neg h16, if_neg (by rw [hN0]; decide)]; cases k <;> rfl
              clear hN0 hchk
              have q_0 : decide (s < 1) = false := by simp; omega
              have q_1 : decide (18 < s) = false := by simp; omega
              have q_2 : (i.tmod 10 == 0) = false := by simp; omega
              obtain rfl : te = true := by cases te <;> simp_all
              clear h_0 h_1 h_2 h_3
              go_enter Try.func28, Try.ntmps28
              go_wp2_with fail
              go_loopw [8, 9] (fun s8 _ wr => ∃ j : Nat, j ≤ k.len ∧ s8 = .int .i64 j ∧ Hid (C = chkF (k.drop j) (d + 1)) ∧ Below (w.heap.size + 1) Wb wr) (fun s8 _ _ => k.len - (intOf s8).toNat)
              case atStart => exact ⟨0, Nat.zero_le _, rfl, HC.out, Below.refl _ _⟩
              case round =>
                obtain ⟨j, hj, rfl, HJ, hb⟩ := hrel
                obtain ⟨c0, c1, c2, c3, c4, c5⟩ := (unhide HS6).below hb (by omega)
                have hbw := hb0.trans (hb.mono (by omega))
                have hsz' : w.heap.size + 1 ≤ wr.heap.size := by have := hb.size; rw [HZ.out] at this; exact this
                by_cases hlt : j < k.len
                · exact absurd hlt (by omega)
                · have HN : Hid (C = 0) := by
                    show _ = _
                    rw [HJ.out, F.drop_len k j (by omega)]; rfl
                  go_wp2_with fail
                  go_ret
                  exact ⟨ret_int (by rw [HN.out]; rfl), hbw⟩
set_option maxRecDepth 100000 in
set_option maxHeartbeats 12800000 in
theorem rchk_k6 (n : Nd) (k : F) (IH : Hid (∀ i m j, k.get i = some (m, j) → RChkC m j)) (hk0 : n.kind = 6) (d : Nat) (v : Value) (w : World) (hd : d ≤ 16) (hv : Vo w (· < w.heap.size) n k v) :
    Calls Try.prog 28 #[v, .int .i64 (d : Int)] w (Ret (.int .i64 (chk n k d : Int)) w) := by
  obtain ⟨An, cn, Ak, ck, rfl, hok, h1, h2, hn, hk⟩ := hv
  have hbx := boxw_eq w n An cn Ak k.len ck
  have hb0 := boxw_below w n An cn Ak k.len ck
  have hz0 := boxw_size w n An cn Ak k.len ck
  have hs6 := boxw_six w n An cn Ak k.len ck
  generalize boxw w n An cn Ak k.len ck = Wb at *
  have HZ := Lib.hid hz0
  have HS6 := Lib.hid hs6
  obtain ⟨x0, x1, x2, x3, x4, x5⟩ := hs6
  have hte0 : (str n.text).toList.isEmpty = n.text.isEmpty := by rw [str_toList]
  have hsz := str_size n.text
  have hchk : Hid (chk n k d = if 16 < d then 9 else if nerr n k.len ≠ 0 then nerr n k.len else chkF k (d + 1)) := rfl
  have hN : Hid (nerr n k.len = _) := nerr_6 n k.len hk0

  obtain ⟨ht1, ht2, ht3, ht4, ht5⟩ := hok
  obtain ⟨hn1, hn2⟩ := h1
  obtain ⟨hk1, hk2⟩ := h2
  unfold I64 at ht1 ht2 ht3
  unfold ncells
  generalize hC : chk n k d = C at *
  clear hC
  generalize hE : nerr n k.len = E at *
  clear hE hz0 hn
  generalize n.names.length = nl at *
  generalize n.text.isEmpty = te at *
  generalize n.text.length = tl at *
  generalize str n.text = t at *
  generalize n.int = i at *
  generalize n.scale = s at *
  generalize n.kind = kind at *
  subst hk0
  have h16 : ¬ 16 < d := by omega
  have hN0 := hN.out
  clear hN
  by_cases h_0 : i ≠ 0
  · rw [if_pos (Or.inl h_0)] at hN0
    have HC : Hid (C = 3) := by show _ = _; rw [hchk.out, if_neg h16, if_pos (by rw [hN0]; decide), hN0]
    clear hN0 hchk
    have q_0 : (i != 0) = true := by simp; omega
    clear h_0
    go_enter Try.func28, Try.ntmps28
    go_wp2_with fail
    all_goals (go_ret; exact ⟨ret_int (by rw [HC.out]; rfl), hb0⟩)
  · skip
    by_cases h_1 : s ≠ 0
    · rw [if_pos (Or.inr (Or.inl h_1))] at hN0
      have HC : Hid (C = 3) := by show _ = _; rw [hchk.out, if_neg h16, if_pos (by rw [hN0]; decide), hN0]
      clear hN0 hchk
      have q_0 : (i != 0) = false := by simp; omega
      have q_1 : (s != 0) = true := by simp; omega
      clear h_0 h_1
      go_enter Try.func28, Try.ntmps28
      go_wp2_with fail
      all_goals (go_ret; exact ⟨ret_int (by rw [HC.out]; rfl), hb0⟩)
    · skip
      by_cases h_2 : 0 < k.len
      · rw [if_pos (Or.inr (Or.inr (Or.inl h_2)))] at hN0
        have HC : Hid (C = 3) := by show _ = _; rw [hchk.out, if_neg h16, if_pos (by rw [hN0]; decide), hN0]
        clear hN0 hchk
        have q_0 : (i != 0) = false := by simp; omega
        have q_1 : (s != 0) = false := by simp; omega
        clear h_0 h_1
        go_enter Try.func28, Try.ntmps28
        go_wp2_with fail
        all_goals (go_ret; exact ⟨ret_int (by rw [HC.out]; rfl), hb0⟩)
      · skip
        by_cases h_3 : 0 < nl
        · rw [if_pos (Or.inr (Or.inr (Or.inr (h_3))))] at hN0
          have HC : Hid (C = 3) := by show _ = _; rw [hchk.out, if_neg h16, if_pos (by rw [hN0]; decide), hN0]
          clear hN0 hchk
          have q_0 : (i != 0) = false := by simp; omega
          have q_1 : (s != 0) = false := by simp; omega
          clear h_0 h_1
          go_enter Try.func28, Try.ntmps28
          go_wp2_with fail
          all_goals (go_ret; exact ⟨ret_int (by rw [HC.out]; rfl), hb0⟩)
        · skip
          rw [if_neg (by rintro (h | h | h | h) <;> contradiction)] at hN0
          by_cases h_4 : 16384 < tl
          · rw [if_pos (h_4)] at hN0
            have HC : Hid (C = 5) := by show _ = _; rw [hchk.out, if_neg h16, if_pos (by rw [hN0]; decide), hN0]
            clear hN0 hchk
            have q_0 : (i != 0) = false := by simp; omega
            have q_1 : (s != 0) = false := by simp; omega
            clear h_0 h_1
            go_enter Try.func28, Try.ntmps28
            go_wp2_with fail
            all_goals (go_ret; exact ⟨ret_int (by rw [HC.out]; rfl), hb0⟩)
          · skip
            rw [if_neg h_4] at hN0
            have HC : Hid (C = chkF (k.drop 0) (d + 1)) := by show _ = _; rw [hchk.out, if_neg h16, if_neg (by rw [hN0]; decide)]; cases k <;> rfl
            clear hN0 hchk
            have q_0 : (i != 0) = false := by simp; omega
            have q_1 : (s != 0) = false := by simp; omega
            clear h_0 h_1
            go_enter Try.func28, Try.ntmps28
            go_wp2_with fail
            go_loopw [8, 9] (fun s8 _ wr => ∃ j : Nat, j ≤ k.len ∧ s8 = .int .i64 j ∧ Hid (C = chkF (k.drop j) (d + 1)) ∧ Below (w.heap.size + 1) Wb wr) (fun s8 _ _ => k.len - (intOf s8).toNat)
            case atStart => exact ⟨0, Nat.zero_le _, rfl, HC.out, Below.refl _ _⟩
            case round =>
              obtain ⟨j, hj, rfl, HJ, hb⟩ := hrel
              obtain ⟨c0, c1, c2, c3, c4, c5⟩ := (unhide HS6).below hb (by omega)
              have hbw := hb0.trans (hb.mono (by omega))
              have hsz' : w.heap.size + 1 ≤ wr.heap.size := by have := hb.size; rw [HZ.out] at this; exact this
              by_cases hlt : j < k.len
              · exact absurd hlt (by omega)
              · have HN : Hid (C = 0) := by
                  show _ = _
                  rw [HJ.out, F.drop_len k j (by omega)]; rfl
                go_wp2_with fail
                go_ret
                exact ⟨ret_int (by rw [HN.out]; rfl), hbw⟩
end Go.Proofs.Ytfcbcbpnlnkpcaa
