/- slices.BinarySearch of texts. -/
import Derived.Test.YtfcbcbpnlnkpcaaQMemV
import Derived.Test.YtfcbcbpnlnkpcaaQBase
import Derived.Shelf.Spec.SearchS
namespace Go.Proofs.Ytfcbcbpnlnkpcaa
set_option linter.all false
open Go.RowKit
set_option maxHeartbeats 1000000 in
theorem nanS1 (x : ByteArray) (w : World) : Calls Try.prog 63 #[.string x] w (RetS (.bool false) w) := by
  go_enter Try.func63, Try.ntmps63
  go_wp2
  go_ret
  exact ⟨by simp, rfl⟩
set_option maxHeartbeats 1000000 in
theorem nanS2 (x : ByteArray) (w : World) : Calls Try.prog 51 #[.string x] w (RetS (.bool false) w) := by
  go_enter Try.func51, Try.ntmps51
  go_wp2
  go_ret
  exact ⟨by simp, rfl⟩
set_option maxHeartbeats 1000000 in
theorem lessS (x y : ByteArray) (w : World) : Calls Try.prog 50 #[.string x, .string y] w (RetS (.bool (Op.bytesLess x.toList y.toList)) w) := by
  go_enter Try.func50, Try.ntmps50
  go_wp2_with fail
  refine (nanS1 x w).mono ?_
  rintro e w' ⟨rfl, rfl⟩
  go_wp2_with fail
  go_ret
  exact ⟨rfl, rfl⟩
/-- The place that the search ends at. -/
def bsI (l : List (List UInt8)) (x : List UInt8) : Nat := Lib.bsGo (fun t => Op.bytesLess (str (l[t]?.getD [])).toList (str x).toList) l.length 0 l.length
set_option maxHeartbeats 4000000 in
set_option maxRecDepth 1000000 in
theorem bsearch_any (A : Option Addr) (n c : Nat) (l : List (List UInt8)) (x : List UInt8) (w : World) (h : Rd w w.heap.size 1 A n (l.map sv)) (hn : n ≤ 8796093021952) :
    Calls Try.prog 34 #[.slice A n c, .string (str x)] w
      (fun e w' => e = .returned (.tuple #[.int .i64 (bsI l x : Nat), .bool (decide (bsI l x < n ∧ str (l[bsI l x]?.getD []) = str x))]) ∧ ∃ q, w' = w.drewN q) := by
  have hl : l.length = n := by have := Rd.len h; simpa using this
  have mixed : Try.prog.follows Departure.mixedOrders = true := by kernel_rfl
  obtain ⟨I, hI⟩ : ∃ I, bsI l x = I := ⟨_, rfl⟩
  have hIl : Lib.bsGo (fun t => Op.bytesLess (str (l[t]?.getD [])).toList (str x).toList) n 0 n = I := by rw [← hI, bsI, hl]
  rw [hI]
  obtain ⟨Sx, hSx⟩ : ∃ Sx : Nat → ByteArray, Sx = fun t => str (l[t]?.getD []) := ⟨_, rfl⟩
  have hSI : str (l[I]?.getD []) = Sx I := by rw [hSx]
  rw [hSI]
  have hIl : Lib.bsGo (fun t => Op.bytesLess (Sx t).toList (str x).toList) n 0 n = I := by rw [hSx]; exact hIl
  have hcell : n = 0 ∨ ∃ g off, A = some ⟨g, off, none⟩ ∧ ∀ j, j < n → w.cell? ⟨g, off + j, none⟩ = some (.string (Sx j)) := by
    rcases Nat.eq_zero_or_pos n with h0 | h0
    · exact .inl h0
    · obtain ⟨g, off, hA, _, hc⟩ := h.2 h0
      refine .inr ⟨g, off, hA, fun j hj => hc j _ ?_⟩
      rw [hSx, List.getElem?_map, List.getElem?_eq_getElem (by omega)]
      simp [sv, List.getElem?_eq_getElem (show j < l.length by omega)]
  clear h hl hI hSI hSx
  generalize str x = X at *
  rcases hcell with rfl | ⟨g, off, rfl, hc⟩
  · obtain rfl : 0 = I := hIl
    rw [decide_eq_false (show ¬ (0 < 0 ∧ Sx 0 = X) from fun h => absurd h.1 (by omega))]
    go_enter Try.func34, Try.ntmps34
    go_wp2
    go_loop [7, 8] (fun s7 s8 => s7 = .int .i64 0 ∧ s8 = .int .i64 0) (fun _ _ => 0)
    case atStart => exact ⟨rfl, rfl⟩
    case round =>
      obtain ⟨rfl, rfl⟩ := hrel
      go_wp2
      go_ret2
      exact ⟨rfl, 0, rfl⟩
  · go_enter Try.func34, Try.ntmps34
    go_wp2
    go_loopg [7, 8] n (fun gg s7 s8 wr => ∃ lo hi q : Nat, s7 = .int .i64 lo ∧ s8 = .int .i64 hi ∧ lo ≤ hi ∧ hi ≤ n ∧ hi - lo ≤ gg ∧ wr = w.drewN q ∧ Lib.bsGo (fun t => Op.bytesLess (Sx t).toList X.toList) gg lo hi = I)
    case atStart => exact ⟨0, n, 0, rfl, rfl, Nat.zero_le _, Nat.le_refl _, by omega, rfl, hIl⟩
    case round =>
      obtain ⟨lo, hi, q, rfl, rfl, hlh, hin, hg, rfl, hb⟩ := hrel
      by_cases hlt : lo < hi
      · have cm : w.cell? ⟨g, off + (lo + hi) / 2, none⟩ = some (.string (Sx ((lo + hi) / 2))) := hc _ (by omega)
        clear hc hIl
        obtain ⟨g', rfl⟩ : ∃ g', gk = g' + 1 := ⟨gk - 1, by omega⟩
        simp only [Lib.bsGo, hlt, if_true] at hb
        obtain ⟨y, hy⟩ : ∃ y, Sx ((lo + hi) / 2) = y := ⟨_, rfl⟩
        rw [hy] at cm
        simp only [hy] at hb
        cases hyx : Op.bytesLess y.toList X.toList <;> simp only [hyx, if_true, Bool.false_eq_true, if_false] at hb
        · go_wp2_with fail
          refine (lessS _ _ _).mono ?_
          rintro e w' ⟨rfl, rfl⟩
          go_wp2_with fail
          go_roundg ((lo + hi) / 2 - lo)
          case measure => omega
          case rel => exact ⟨lo, (lo + hi) / 2, _, rfl, by rw [show ((lo : Int) + (hi : Int)) / 2 = (((lo + hi) / 2 : Nat) : Int) by omega], by omega, by omega, Nat.le_refl _, rfl, by rw [← hb]; exact Lib.bsGo_fuel _ _ _ _ _ (Nat.le_refl _) (by omega)⟩
        · go_wp2_with fail
          refine (lessS _ _ _).mono ?_
          rintro e w' ⟨rfl, rfl⟩
          go_wp2_with fail
          go_roundg (hi - ((lo + hi) / 2 + 1))
          case measure => omega
          case rel => exact ⟨(lo + hi) / 2 + 1, hi, _, by rw [show ((lo : Int) + (hi : Int)) / 2 + 1 = (((lo + hi) / 2 + 1 : Nat) : Int) by omega], rfl, by omega, hin, Nat.le_refl _, rfl, by rw [← hb]; exact Lib.bsGo_fuel _ _ _ _ _ (Nat.le_refl _) (by omega)⟩
      · have : hi = lo := by omega
        subst this
        have hIe : I = hi := by
          rw [← hb]
          cases gk <;> simp [Lib.bsGo]
        by_cases hn2 : hi < n
        · have cl : w.cell? ⟨g, off + hi, none⟩ = some (.string (Sx hi)) := hc _ hn2
          clear hc hb hIl
          obtain ⟨y, hy⟩ : ∃ y, Sx hi = y := ⟨_, rfl⟩
          rw [hy] at cl
          by_cases hyx : y = X
          · go_wp2_with fail
            go_ret2
            refine ⟨?_, _, rfl⟩
            try rw [hIe]
            rw [hy, decide_eq_true (show hi < n ∧ y = X from ⟨hn2, hyx⟩)]
            first | rfl | simp [*]
          · have hne : (y.toList == X.toList) = false := by
              rw [beq_eq_false_iff_ne]
              intro h
              apply hyx
              rw [← str_data y, ← str_data X, h]
            go_wp2_with fail
            all_goals
              (refine (nanS2 _ _).mono ?_
               rintro e w' ⟨rfl, rfl⟩
               go_wp2_with fail)
            all_goals
              (go_ret2
               refine ⟨?_, _, rfl⟩
               try rw [hIe]
               rw [hy, decide_eq_false (show ¬ (hi < n ∧ y = X) from fun h => hyx h.2)]
               first | rfl | simp [*])
        · clear hc hb hIl
          go_wp2_with fail
          go_ret2
          refine ⟨?_, _, rfl⟩
          try rw [hIe]
          rw [decide_eq_false (show ¬ (hi < n ∧ Sx hi = X) from fun h => hn2 h.1)]
          first | rfl | simp [*]
end Go.Proofs.Ytfcbcbpnlnkpcaa
