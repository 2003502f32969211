/- value.isName, value.fields. -/
import Derived.Test.YtfcbcbpnlnkpcaaValp
import Derived.LoopTactic
namespace Go.Proofs.Ytfcbcbpnlnkpcaa
set_option linter.all false
open Go.RowKit
theorem str_size (l : List UInt8) : (str l).size = l.length := by simp [str, ByteArray.size]
theorem ret_bool {a b : Bool} (h : a = b) : Ending.returned (.bool a) = .returned (.bool b) := by rw [h]
set_option maxHeartbeats 400000 in
theorem isName_any (s : List UInt8) (w : World) (hs : s.length ≤ 140737488351232) : Calls Try.prog 68 #[.string (str s)] w (RetS (.bool (nameOk s)) w) := by
  have h1 := str_size s
  by_cases h0 : 1 ≤ s.length
  · have HN : Hid (nameOk s = decide (s.length ≤ 40)) := by show _ = _; simp [nameOk, h0]
    go_enter Try.func68, Try.ntmps68
    go_wp2
    go_ret
    exact ⟨ret_bool (by rw [HN.out]; simp only [decide_eq_decide]; omega), rfl⟩
  · have HN : Hid (nameOk s = false) := by show _ = _; simp [nameOk, h0]
    have h2 : (str s).size = 0 := by omega
    go_enter Try.func68, Try.ntmps68
    go_wp2
    go_ret
    exact ⟨ret_bool (by rw [HN.out]), rfl⟩
theorem names_at {w : World} {B n k : Nat} {A : Option Addr} {l : List (List UInt8)} (h : Rd w B 1 A n (l.map sv)) (hk : k < n) :
    ∃ g off s, A = some ⟨g, off, none⟩ ∧ g < B ∧ l[k]? = some s ∧ w.cell? ⟨g, off + k, none⟩ = some (.string (str s)) := by
  obtain ⟨g, off, u, hA, hg, hu, hc⟩ := Rd.at_ h hk
  rw [List.getElem?_map] at hu
  cases hb : l[k]? with
  | none => rw [hb] at hu; cases hu
  | some b => rw [hb] at hu; injection hu with hu; subst hu; exact ⟨g, off, b, hA, hg, rfl, hc⟩
set_option maxRecDepth 100000 in
set_option maxHeartbeats 1600000 in
theorem fields_any (n : Nd) (kl : Nat) (An Ak : Option Addr) (cn ck : Nat) (w : World) (hn : okl n.names.length cn) (hkl : okl kl ck)
    (hr : Rd w w.heap.size 1 An n.names.length (n.names.map sv)) (hl : ∀ s ∈ n.names, s.length ≤ 140737488351232) :
    Calls Try.prog 56 #[.agg (ncells n An cn Ak kl ck).toArray] w (Ret (.bool (fieldsOk n.names kl)) w) := by
  unfold ncells
  obtain ⟨hn1, hn2⟩ := hn
  obtain ⟨hk1, hk2⟩ := hkl
  have hlen := hr.1
  rw [List.length_map] at hlen
  have HLL := Lib.hid hl
  clear hl
  generalize hN : n.names = l at *
  generalize hnl : l.length = nl at *
  have HNL := Lib.hid hnl
  clear hnl hN hlen
  generalize hB : w.alloc (.cells #[.int .i64 n.kind, .int .i64 n.int, .int .i64 n.scale, .string (str n.text), .slice An nl cn, .slice Ak kl ck] 25) = W
  have hr2 : Rd W w.heap.size 1 An nl (l.map sv) := by rw [← hB]; exact hr.alloc (Nat.le_refl _) _
  have c4 : W.cell? ⟨w.heap.size, 4, none⟩ = some (.slice An nl cn) := by rw [← hB, World.cell?_alloc_new]; rfl
  have c5 : W.cell? ⟨w.heap.size, 5, none⟩ = some (.slice Ak kl ck) := by rw [← hB, World.cell?_alloc_new]; rfl
  have hbel : Below w.heap.size w W := by rw [← hB]; exact (Below.refl _ _).alloc (Nat.le_refl _) _
  go_enter Try.func56, Try.ntmps56
  go_wp2_with fail
  clear hB
  go_loop [8, 3, 4] (fun s8 _ _ => ∃ k : Nat, k ≤ nl ∧ s8 = .int .i64 k ∧ Hid (upFrom none l = upFrom (prevOf l k) (l.drop k))) (fun s8 _ _ => nl - (intOf s8).toNat)
  case atStart => exact ⟨0, Nat.zero_le _, rfl, rfl⟩
  case round =>
    obtain ⟨k, hk, rfl, HU⟩ := hrel
    by_cases hlt : k < nl
    · obtain ⟨g, off, s, rfl, hg, hs, hc⟩ := names_at hr2 hlt
      have hsl : s.length ≤ 140737488351232 := HLL.out s (List.mem_of_getElem? hs)
      have hu := HU.out.trans (upFrom_drop hs _)
      have HS : Hid (prevOf l (k + 1) = some s) := hs
      rcases hno : nameOk s with _ | _
      · have HR : Hid (upFrom none l = false) := by show _ = _; rw [hu, hno]; simp
        clear hu HU hs
        go_wp2_with (go_at_call 68; refine (isName_any s _ hsl).mono ?_; rintro e w' ⟨rfl, rfl⟩)
        go_ret
        exact ⟨ret_bool (by unfold fieldsOk; rw [HR.out]; rfl), hbel⟩
      · by_cases h0 : k = 0
        · subst h0
          have hc : W.cell? ⟨g, off, none⟩ = some (.string (str s)) := hc
          have HR : Hid (upFrom none l = upFrom (prevOf l 1) (l.drop 1)) := by
            show _ = _; rw [hu, hno, HS.out]; simp [prevOf]
          clear hu HU hs
          go_wp2_with (go_at_call 68; refine (isName_any s _ hsl).mono ?_; rintro e w' ⟨rfl, rfl⟩)
          go_round
          case rel => exact ⟨1, by omega, rfl, HR.out⟩
          case measure => simp [intOf]; omega
        · obtain ⟨j, rfl⟩ : ∃ j, k = j + 1 := ⟨k - 1, by omega⟩
          obtain ⟨g', off', p, hA, _, hp, hc'⟩ := names_at hr2 (k := j) (by omega)
          injection hA with hA
          injection hA with hA1 hA2
          subst hA1; subst hA2
          have hprev : prevOf l (j + 1) = some p := hp
          rw [hprev, hno] at hu
          simp only [Bool.true_and] at hu
          have HP := Lib.hid hp
          rcases h1 : Op.bytesLess s p with _ | _
          · rcases h2 : (s == p) with _ | _
            · have HR : Hid (upFrom none l = upFrom (prevOf l (j + 1 + 1)) (l.drop (j + 1 + 1))) := by
                show _ = _; rw [hu, h1, h2, HS.out]; simp
              have q1 : Op.bytesLess (str s).toList (str p).toList = false := by rw [str_toList, str_toList]; exact h1
              have q2 : ((str s).toList == (str p).toList) = false := by rw [str_toList, str_toList]; exact h2
              clear hu HU hs hp hprev h1 h2
              go_wp2_with (go_at_call 68; refine (isName_any s _ hsl).mono ?_; rintro e w' ⟨rfl, rfl⟩)
              go_round
              case rel => exact ⟨j + 1 + 1, by omega, by go_num, HR.out⟩
              case measure => simp [intOf]; omega
            · have HR : Hid (upFrom none l = false) := by show _ = _; rw [hu, h1, h2]; simp
              have q1 : Op.bytesLess (str s).toList (str p).toList = false := by rw [str_toList, str_toList]; exact h1
              have q2 : ((str s).toList == (str p).toList) = true := by rw [str_toList, str_toList]; exact h2
              clear hu HU hs hp hprev h1 h2
              go_wp2_with (go_at_call 68; refine (isName_any s _ hsl).mono ?_; rintro e w' ⟨rfl, rfl⟩)
              go_ret
              exact ⟨ret_bool (by unfold fieldsOk; rw [HR.out]; rfl), hbel⟩
          · have HR : Hid (upFrom none l = false) := by show _ = _; rw [hu, h1]; simp
            have q1 : Op.bytesLess (str s).toList (str p).toList = true := by rw [str_toList, str_toList]; exact h1
            clear hu HU hs hp hprev h1
            go_wp2_with (go_at_call 68; refine (isName_any s _ hsl).mono ?_; rintro e w' ⟨rfl, rfl⟩)
            go_ret
            exact ⟨ret_bool (by unfold fieldsOk; rw [HR.out]; rfl), hbel⟩
    · have HR : Hid (upFrom none l = true) := by
        show _ = _
        rw [HU.out, List.drop_of_length_le (by rw [HNL.out]; omega)]
        cases prevOf l k <;> rfl
      clear HU
      go_wp2_with fail
      go_ret
      refine ⟨ret_bool ?_, hbel⟩
      unfold fieldsOk
      rw [HR.out, HNL.out, Bool.true_and, Bool.eq_iff_iff]
      simp
      try omega
end Go.Proofs.Ytfcbcbpnlnkpcaa
