/- scrivenerref5.check: 'chk'. (Printed by a small program of mine.) -/
import Derived.Test.YtfcbcbpnlnkpcaaQRa
namespace Go.Proofs.Ytfcbcbpnlnkpcaa
set_option linter.all false
open Go.RowKit
set_option maxRecDepth 100000 in
set_option maxHeartbeats 12800000 in
theorem rchk_k5 (n : Nd) (k : F) (IH : Hid (∀ i m j, k.get i = some (m, j) → RChkC m j)) (hk0 : n.kind = 5) (d : Nat) (v : Value) (w : World) (hd : d ≤ 16) (hv : Vo w (· < w.heap.size) n k v) :
    Calls Try.prog 28 #[v, .int .i64 (d : Int)] w (Ret (.int .i64 (chk n k d : Int)) w) := by
  obtain ⟨An, cn, Ak, ck, rfl, hok, h1, h2, hn, hk⟩ := hv
  have hbx := boxw_eq w n An cn Ak k.len ck
  have hb0 := boxw_below w n An cn Ak k.len ck
  have hz0 := boxw_size w n An cn Ak k.len ck
  have hs6 := boxw_six w n An cn Ak k.len ck
  generalize boxw w n An cn Ak k.len ck = Wb at *
  have HZ := Lib.hid hz0
  have HS6 := Lib.hid hs6
  obtain ⟨x0, x1, x2, x3, x4, x5⟩ := hs6
  have hte0 : (str n.text).toList.isEmpty = n.text.isEmpty := by rw [str_toList]
  have hsz := str_size n.text
  have hchk : Hid (chk n k d = if 16 < d then 9 else if nerr n k.len ≠ 0 then nerr n k.len else chkF k (d + 1)) := rfl
  have hN : Hid (nerr n k.len = _) := nerr_5 n k.len hk0

  obtain ⟨ht1, ht2, ht3, ht4, ht5⟩ := hok
  obtain ⟨hn1, hn2⟩ := h1
  obtain ⟨hk1, hk2⟩ := h2
  unfold I64 at ht1 ht2 ht3
  unfold ncells
  generalize hC : chk n k d = C at *
  clear hC
  generalize hE : nerr n k.len = E at *
  clear hE hz0 hn
  generalize n.names.length = nl at *
  generalize n.text.isEmpty = te at *
  generalize n.text.length = tl at *
  generalize str n.text = t at *
  generalize n.int = i at *
  generalize n.scale = s at *
  generalize n.kind = kind at *
  subst hk0
  have h16 : ¬ 16 < d := by omega
  have hN0 := hN.out
  clear hN
  by_cases h_0 : i < 0
  · rw [if_pos (Or.inl h_0)] at hN0
    have HC : Hid (C = 3) := by show _ = _; rw [hchk.out, if_neg h16, if_pos (by rw [hN0]; decide), hN0]
    clear hN0 hchk
    have q_0 : decide (i < 0) = true := by simp; omega
    clear h_0
    go_enter Try.func28, Try.ntmps28
    go_wp2_with fail
    all_goals (go_ret; exact ⟨ret_int (by rw [HC.out]; rfl), hb0⟩)
  · skip
    by_cases h_1 : 9007199254740992 < i
    · rw [if_pos (Or.inr (Or.inl h_1))] at hN0
      have HC : Hid (C = 3) := by show _ = _; rw [hchk.out, if_neg h16, if_pos (by rw [hN0]; decide), hN0]
      clear hN0 hchk
      have q_0 : decide (i < 0) = false := by simp; omega
      have q_1 : decide (9007199254740992 < i) = true := by simp; omega
      clear h_0 h_1
      go_enter Try.func28, Try.ntmps28
      go_wp2_with fail
      all_goals (go_ret; exact ⟨ret_int (by rw [HC.out]; rfl), hb0⟩)
    · skip
      by_cases h_2 : s ≠ 0
      · rw [if_pos (Or.inr (Or.inr (Or.inl h_2)))] at hN0
        have HC : Hid (C = 3) := by show _ = _; rw [hchk.out, if_neg h16, if_pos (by rw [hN0]; decide), hN0]
        clear hN0 hchk
        have q_0 : decide (i < 0) = false := by simp; omega
        have q_1 : decide (9007199254740992 < i) = false := by simp; omega
        have q_2 : (s != 0) = true := by simp; omega
        clear h_0 h_1 h_2
        go_enter Try.func28, Try.ntmps28
        go_wp2_with fail
        all_goals (go_ret; exact ⟨ret_int (by rw [HC.out]; rfl), hb0⟩)
      · skip
        by_cases h_3 : te = false
        · rw [if_pos (Or.inr (Or.inr (Or.inr (Or.inl h_3))))] at hN0
          have HC : Hid (C = 3) := by show _ = _; rw [hchk.out, if_neg h16, if_pos (by rw [hN0]; decide), hN0]
          clear hN0 hchk
          have q_0 : decide (i < 0) = false := by simp; omega
          have q_1 : decide (9007199254740992 < i) = false := by simp; omega
          have q_2 : (s != 0) = false := by simp; omega
          obtain rfl : te = false := h_3
          clear h_0 h_1 h_2
          go_enter Try.func28, Try.ntmps28
          go_wp2_with fail
          all_goals (go_ret; exact ⟨ret_int (by rw [HC.out]; rfl), hb0⟩)
        · skip
          by_cases h_4 : 0 < k.len
          · rw [if_pos (Or.inr (Or.inr (Or.inr (Or.inr (Or.inl h_4)))))] at hN0
            have HC : Hid (C = 3) := by show _ = _; rw [hchk.out, if_neg h16, if_pos (by rw [hN0]; decide), hN0]
            clear hN0 hchk
            have q_0 : decide (i < 0) = false := by simp; omega
            have q_1 : decide (9007199254740992 < i) = false := by simp; omega
            have q_2 : (s != 0) = false := by simp; omega
            obtain rfl : te = true := by cases te <;> simp_all
            clear h_0 h_1 h_2 h_3
            go_enter Try.func28, Try.ntmps28
            go_wp2_with fail
            all_goals (go_ret; exact ⟨ret_int (by rw [HC.out]; rfl), hb0⟩)
          · skip
            by_cases h_5 : 0 < nl
            · rw [if_pos (Or.inr (Or.inr (Or.inr (Or.inr (Or.inr (h_5))))))] at hN0
              have HC : Hid (C = 3) := by show _ = _; rw [hchk.out, if_neg h16, if_pos (by rw [hN0]; decide), hN0]
              clear hN0 hchk
              have q_0 : decide (i < 0) = false := by simp; omega
              have q_1 : decide (9007199254740992 < i) = false := by simp; omega
              have q_2 : (s != 0) = false := by simp; omega
              obtain rfl : te = true := by cases te <;> simp_all
              clear h_0 h_1 h_2 h_3
              go_enter Try.func28, Try.ntmps28
              go_wp2_with fail
              all_goals (go_ret; exact ⟨ret_int (by rw [HC.out]; rfl), hb0⟩)
            · skip
              rw [if_neg (by rintro (h | h | h | h | h | h) <;> contradiction)] at hN0
              have HC : Hid (C = chkF (k.drop 0) (d + 1)) := by show _ = _; rw [hchk.out, if_neg h16, if_neg (by rw [hN0]; decide)]; cases k <;> rfl
              clear hN0 hchk
              have q_0 : decide (i < 0) = false := by simp; omega
              have q_1 : decide (9007199254740992 < i) = false := by simp; omega
              have q_2 : (s != 0) = false := by simp; omega
              obtain rfl : te = true := by cases te <;> simp_all
              clear h_0 h_1 h_2 h_3
              go_enter Try.func28, Try.ntmps28
              go_wp2_with fail
              go_loopw [8, 9] (fun s8 _ wr => ∃ j : Nat, j ≤ k.len ∧ s8 = .int .i64 j ∧ Hid (C = chkF (k.drop j) (d + 1)) ∧ Below (w.heap.size + 1) Wb wr) (fun s8 _ _ => k.len - (intOf s8).toNat)
              case atStart => exact ⟨0, Nat.zero_le _, rfl, HC.out, Below.refl _ _⟩
              case round =>
                obtain ⟨j, hj, rfl, HJ, hb⟩ := hrel
                obtain ⟨c0, c1, c2, c3, c4, c5⟩ := (unhide HS6).below hb (by omega)
                have hbw := hb0.trans (hb.mono (by omega))
                have hsz' : w.heap.size + 1 ≤ wr.heap.size := by have := hb.size; rw [HZ.out] at this; exact this
                by_cases hlt : j < k.len
                · exact absurd hlt (by omega)
                · have HN : Hid (C = 0) := by
                    show _ = _
                    rw [HJ.out, F.drop_len k j (by omega)]; rfl
                  go_wp2_with fail
                  go_ret
                  exact ⟨ret_int (by rw [HN.out]; rfl), hbw⟩
set_option maxRecDepth 100000 in
set_option maxHeartbeats 12800000 in
theorem rchk_k7 (n : Nd) (k : F) (IH : Hid (∀ i m j, k.get i = some (m, j) → RChkC m j)) (hk0 : n.kind = 7) (d : Nat) (v : Value) (w : World) (hd : d ≤ 16) (hv : Vo w (· < w.heap.size) n k v) :
    Calls Try.prog 28 #[v, .int .i64 (d : Int)] w (Ret (.int .i64 (chk n k d : Int)) w) := by
  obtain ⟨An, cn, Ak, ck, rfl, hok, h1, h2, hn, hk⟩ := hv
  have hbx := boxw_eq w n An cn Ak k.len ck
  have hb0 := boxw_below w n An cn Ak k.len ck
  have hz0 := boxw_size w n An cn Ak k.len ck
  have hs6 := boxw_six w n An cn Ak k.len ck
  generalize boxw w n An cn Ak k.len ck = Wb at *
  have HZ := Lib.hid hz0
  have HS6 := Lib.hid hs6
  obtain ⟨x0, x1, x2, x3, x4, x5⟩ := hs6
  have hte0 : (str n.text).toList.isEmpty = n.text.isEmpty := by rw [str_toList]
  have hsz := str_size n.text
  have hchk : Hid (chk n k d = if 16 < d then 9 else if nerr n k.len ≠ 0 then nerr n k.len else chkF k (d + 1)) := rfl
  have hN : Hid (nerr n k.len = _) := nerr_7 n k.len hk0

  obtain ⟨ht1, ht2, ht3, ht4, ht5⟩ := hok
  obtain ⟨hn1, hn2⟩ := h1
  obtain ⟨hk1, hk2⟩ := h2
  unfold I64 at ht1 ht2 ht3
  unfold ncells
  generalize hC : chk n k d = C at *
  clear hC
  generalize hE : nerr n k.len = E at *
  clear hE hz0 hn
  generalize n.names.length = nl at *
  generalize n.text.isEmpty = te at *
  generalize n.text.length = tl at *
  generalize str n.text = t at *
  generalize n.int = i at *
  generalize n.scale = s at *
  generalize n.kind = kind at *
  subst hk0
  have h16 : ¬ 16 < d := by omega
  have hN0 := hN.out
  clear hN
  by_cases h_0 : i ≠ 0
  · rw [if_pos (Or.inl h_0)] at hN0
    have HC : Hid (C = 3) := by show _ = _; rw [hchk.out, if_neg h16, if_pos (by rw [hN0]; decide), hN0]
    clear hN0 hchk
    have q_0 : (i != 0) = true := by simp; omega
    clear h_0
    go_enter Try.func28, Try.ntmps28
    go_wp2_with fail
    all_goals (go_ret; exact ⟨ret_int (by rw [HC.out]; rfl), hb0⟩)
  · skip
    by_cases h_1 : s ≠ 0
    · rw [if_pos (Or.inr (Or.inl h_1))] at hN0
      have HC : Hid (C = 3) := by show _ = _; rw [hchk.out, if_neg h16, if_pos (by rw [hN0]; decide), hN0]
      clear hN0 hchk
      have q_0 : (i != 0) = false := by simp; omega
      have q_1 : (s != 0) = true := by simp; omega
      clear h_0 h_1
      go_enter Try.func28, Try.ntmps28
      go_wp2_with fail
      all_goals (go_ret; exact ⟨ret_int (by rw [HC.out]; rfl), hb0⟩)
    · skip
      by_cases h_2 : 0 < k.len
      · rw [if_pos (Or.inr (Or.inr (Or.inl h_2)))] at hN0
        have HC : Hid (C = 3) := by show _ = _; rw [hchk.out, if_neg h16, if_pos (by rw [hN0]; decide), hN0]
        clear hN0 hchk
        have q_0 : (i != 0) = false := by simp; omega
        have q_1 : (s != 0) = false := by simp; omega
        clear h_0 h_1
        go_enter Try.func28, Try.ntmps28
        go_wp2_with fail
        all_goals (go_ret; exact ⟨ret_int (by rw [HC.out]; rfl), hb0⟩)
      · skip
        by_cases h_3 : 0 < nl
        · rw [if_pos (Or.inr (Or.inr (Or.inr (h_3))))] at hN0
          have HC : Hid (C = 3) := by show _ = _; rw [hchk.out, if_neg h16, if_pos (by rw [hN0]; decide), hN0]
          clear hN0 hchk
          have q_0 : (i != 0) = false := by simp; omega
          have q_1 : (s != 0) = false := by simp; omega
          clear h_0 h_1
          go_enter Try.func28, Try.ntmps28
          go_wp2_with fail
          all_goals (go_ret; exact ⟨ret_int (by rw [HC.out]; rfl), hb0⟩)
        · skip
          rw [if_neg (by rintro (h | h | h | h) <;> contradiction)] at hN0
          by_cases h_4 : 16384 < tl
          · rw [if_pos (h_4)] at hN0
            have HC : Hid (C = 5) := by show _ = _; rw [hchk.out, if_neg h16, if_pos (by rw [hN0]; decide), hN0]
            clear hN0 hchk
            have q_0 : (i != 0) = false := by simp; omega
            have q_1 : (s != 0) = false := by simp; omega
            clear h_0 h_1
            go_enter Try.func28, Try.ntmps28
            go_wp2_with fail
            all_goals (go_ret; exact ⟨ret_int (by rw [HC.out]; rfl), hb0⟩)
          · skip
            rw [if_neg h_4] at hN0
            have HC : Hid (C = chkF (k.drop 0) (d + 1)) := by show _ = _; rw [hchk.out, if_neg h16, if_neg (by rw [hN0]; decide)]; cases k <;> rfl
            clear hN0 hchk
            have q_0 : (i != 0) = false := by simp; omega
            have q_1 : (s != 0) = false := by simp; omega
            clear h_0 h_1
            go_enter Try.func28, Try.ntmps28
            go_wp2_with fail
            go_loopw [8, 9] (fun s8 _ wr => ∃ j : Nat, j ≤ k.len ∧ s8 = .int .i64 j ∧ Hid (C = chkF (k.drop j) (d + 1)) ∧ Below (w.heap.size + 1) Wb wr) (fun s8 _ _ => k.len - (intOf s8).toNat)
            case atStart => exact ⟨0, Nat.zero_le _, rfl, HC.out, Below.refl _ _⟩
            case round =>
              obtain ⟨j, hj, rfl, HJ, hb⟩ := hrel
              obtain ⟨c0, c1, c2, c3, c4, c5⟩ := (unhide HS6).below hb (by omega)
              have hbw := hb0.trans (hb.mono (by omega))
              have hsz' : w.heap.size + 1 ≤ wr.heap.size := by have := hb.size; rw [HZ.out] at this; exact this
              by_cases hlt : j < k.len
              · exact absurd hlt (by omega)
              · have HN : Hid (C = 0) := by
                  show _ = _
                  rw [HJ.out, F.drop_len k j (by omega)]; rfl
                go_wp2_with fail
                go_ret
                exact ⟨ret_int (by rw [HN.out]; rfl), hbw⟩
end Go.Proofs.Ytfcbcbpnlnkpcaa
