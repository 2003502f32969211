/- DiskFuses: what the law computes: true. -/
import Derived.Test.YtcoimlenejffpaaDiskKeepsW
namespace Go.Proofs.Ytcoimlenejffpaa
set_option linter.all false
open Go.RowKit
theorem app_dead {S S' : DS} {nm nb : List UInt8} {code : Nat} (h : AppR S nm nb code S') (hf : S.fused = true) (h0 : S.left = 0) : code = 20 ∧ S' = S := by
  have hm : mayE S [nm] = 20 := by unfold mayE; rw [if_pos ⟨hf, h0⟩]
  rcases h with h | h | h
  · exact ⟨by rw [h.2.1, hm], h.2.2⟩
  · rw [hm] at h; cases h.1
  · rw [hm] at h; cases h.1
theorem app_ok {S S' : DS} {nm nb : List UInt8} {code : Nat} (h : AppR S nm nb code S') (hm : mayE S [nm] = 0) (hfit : S.used + nb.length ≤ S.room) (hfew : S.E.length < 4096) : code = 0 := by
  rcases h with h | h | h
  · exact absurd hm h.1
  · rcases h.2.1 with h1 | h1 <;> omega
  · exact h.2.2.1
/-- Behind i rows, of which the first n were written. -/
structure FS (W : World) (d n : Nat) (R : List (List UInt8)) (i : Nat) (S : DS) (o : Option (List UInt8 × Nat)) (wr : World) : Prop where
  dw : DW wr W.heap.size d S
  one : OneS S [102] o
  ob : (ob o).length ≤ (R.take i).flatten.length
  fused : S.fused = true
  left : S.left = n - i
  room : S.room = 1048576
  bel : Below W.heap.size W wr
set_option maxRecDepth 100000 in
set_option maxHeartbeats 3200000 in
theorem diskFuses_walk (A : Option Addr) (c : Nat) (vs : List Value) (R : List (List UInt8)) (n : Int) (W : World) (hR : RowsB W W.heap.size A vs R) (hc : R.length ≤ c) (hm : c ≤ 140737488351232)
    (s1 : -9223372036854775808 ≤ n) (s2 : n ≤ 9223372036854775807) :
    Calls Try.prog 5 #[.int .i64 n, .slice A R.length c] W (Ret (.bool true) W) := by
  have HRO := Lib.hid hR
  clear hR
  obtain ⟨N, hN⟩ : ∃ N, N = R.length := ⟨_, rfl⟩
  rw [← hN] at hc ⊢
  have HN := Lib.hid hN
  clear hN
  go_enter Try.func5, Try.ntmps5
  go_wp2_with fail
  go_loop [5, 6] (fun s7 s8 => ∃ (t i : Nat), i ≤ N ∧ s8 = .int .i64 (i : Int) ∧ s7 = .int .i64 (t : Int) ∧ t ≤ 150000000000000 ∧ Hid (t = tot (R.take i))) (fun s7 s8 => N - (intOf s8).toNat)
  case atStart => exact ⟨0, 0, Nat.zero_le _, rfl, rfl, by omega, by show _ = _; simp [tot_nil]⟩
  case round =>
    obtain ⟨t, i, hi, rfl, rfl, ht, HT⟩ := hrel
    by_cases hlt : i < N
    · by_cases h8 : t ≤ 8000
      · obtain ⟨g, off, A', c', l, rfl, _, hl, hcell, h1, h2, _⟩ := HRO.out.at_ (show i < R.length by rw [← HN.out]; exact hlt)
        have HT2 : Hid (t + 1 + l.length = tot (R.take (i + 1))) := by show _ = _; rw [tot_take hl, HT.out]
        clear HT hl
        have q1 : decide ((t : Int) ≤ 8000) = true := decide_eq_true (by omega)
        go_wp2_with fail
        go_round
        case rel => exact ⟨t + 1 + l.length, i + 1, by omega, by go_num, by go_num, by omega, HT2.out⟩
        case measure => simp [intOf]; omega
      · have q1 : decide ((t : Int) ≤ 8000) = false := decide_eq_false (by omega)
        have q2 : decide (8000 < (t : Int)) = true := decide_eq_true (by omega)
        go_wp2_with fail
        refine (known3_any W).mono ?_
        rintro e w1 ⟨rfl, b1⟩
        go_wp2_with fail
        go_ret
        exact ⟨rfl, b1⟩
    · by_cases h8 : 8000 < t
      · have q2 : decide (8000 < (t : Int)) = true := decide_eq_true (by omega)
        go_wp2_with fail
        refine (known3_any W).mono ?_
        rintro e w1 ⟨rfl, b1⟩
        go_wp2_with fail
        go_ret
        exact ⟨rfl, b1⟩
      · have q2 : decide (8000 < (t : Int)) = false := decide_eq_false (by omega)
        by_cases hn0 : n < 0
        · have q3 : decide (n < 0) = true := decide_eq_true hn0
          go_wp2_with fail
          refine (known3_any W).mono ?_
          rintro e w1 ⟨rfl, b1⟩
          go_wp2_with fail
          go_ret
          exact ⟨rfl, b1⟩
        · have q3 : decide (n < 0) = false := decide_eq_false hn0
          by_cases hn1 : 1000 < n
          · have q4 : decide (1000 < n) = true := decide_eq_true hn1
            go_wp2_with fail
            refine (known3_any W).mono ?_
            rintro e w1 ⟨rfl, b1⟩
            go_wp2_with fail
            go_ret
            exact ⟨rfl, b1⟩
          · have q4 : decide (1000 < n) = false := decide_eq_false hn1
            obtain ⟨k, rfl⟩ : ∃ k : Nat, n = (k : Int) := ⟨n.toNat, by omega⟩
            have hiN : i = N := by omega
            have HTT : Hid (tot R ≤ 8000) := by show _ ≤ _; have := HT.out; rw [hiN, HN.out, List.take_length] at this; omega
            have HFL : Hid (∀ j, (R.take j).flatten.length ≤ 8000) := fun j => by have h1 := flat_le (R.take j); have h2 := tot_mono (R := R) j; have h3 := HTT.out; omega
            clear HT
            go_wp2_with fail
            refine (new_any 1048576 (by omega) W).mono ?_
            rintro e w1 ⟨d, m, rfl, hd1, b1⟩
            have H1 := Lib.hid (And.intro hd1 b1)
            clear hd1 b1
            go_wp2_with fail
            refine (fuse_any W.heap.size d _ w1 H1.out.1 (k : Int) (by omega) (by omega)).mono ?_
            rintro e w2 ⟨rfl, hd2, ht2⟩
            have HF0 : Hid (FS W d k R 0 (fuseS (newS 1048576 m) (k : Int)) none w2) := ⟨hd2, rfl, by simp [ob], by simp [fuseS], by simp [fuseS], rfl, H1.out.2.trans (turn1_below H1.out.1 ht2)⟩
            clear hd2 ht2 H1
            go_wp2_with fail
            go_loopw [9] (fun s9 wr => ∃ (i : Nat) (S : DS) (o : Option (List UInt8 × Nat)), i ≤ N ∧ s9 = .int .i64 (i : Int) ∧ Hid (FS W d k R i S o wr)) (fun s9 _ => N - (intOf s9).toNat)
            case atStart => exact ⟨0, _, _, Nat.zero_le _, rfl, HF0.out⟩
            case round =>
              obtain ⟨i, S, o, hi, rfl, HK⟩ := hrel
              clear HF0
              by_cases hlt : i < N
              · obtain ⟨g, off, A', c', l, rfl, hgl, hl, hcell, h1, h2, h3⟩ := (HRO.out.below HK.out.bel).at_ (show i < R.length by rw [← HN.out]; exact hlt)
                have hll : l.length ≤ 8000 := by have := len_at hl; have := HTT.out; omega
                have hfl1 := HFL.out i
                have hfl2 := HFL.out (i + 1)
                have hft := flat_take hl
                rw [hft, List.length_append] at hfl2
                have hobl := HK.out.ob
                have hus := one_used HK.out.one
                have HAPP := Lib.hid (append_any W.heap.size d S wr HK.out.dw [102] l (by simp) A' l.length c' (h3.more HK.out.bel.size) (by omega) (by have := one_len HK.out.one; omega))
                have HLE : Hid ((ob o).length + l.length ≤ (R.take (i + 1)).flatten.length) := by show _ ≤ _; rw [hft, List.length_append]; omega
                have HFIT : Hid ((ob o).length + l.length ≤ S.room) := by show _ ≤ _; rw [HK.out.room]; omega
                clear h3 hl hft hfl1 hfl2 hobl hus
                by_cases hik : i < k
                · have q5 : decide ((i : Int) < (k : Int)) = true := decide_eq_true (by omega)
                  have q6 : ((true : Bool) != true) = false := rfl
                  go_wp2_with fail
                  refine (unhide3 HAPP).mono ?_
                  rintro e w3 ⟨code, S1, rfl, hr, hd1, ht1, hs1⟩
                  obtain ⟨rfl, ho1, hf1, hr1, hl1⟩ := one_app hr HK.out.one (by rw [HK.out.left]; intro; omega) (by decide) HFIT.out
                  have HN1 : Hid (FS W d k R (i + 1) S1 (some (ob o ++ l, ol o)) w3) := ⟨hd1, ho1, by show (ob o ++ l).length ≤ _; rw [List.length_append]; exact HLE.out, hf1.trans HK.out.fused, by rw [hl1 HK.out.fused, HK.out.left]; omega, hr1.trans HK.out.room, HK.out.bel.trans (RetD.below HK.out.dw ht1)⟩
                  clear hr hd1 ht1 hs1 ho1 hf1 hr1 hl1 HAPP
                  go_wp2_with fail
                  go_roundw
                  case rel => exact ⟨i + 1, S1, _, by omega, by go_num, HN1.out⟩
                  case measure => simp [intOf]; omega
                · have q5 : decide ((i : Int) < (k : Int)) = false := decide_eq_false (by omega)
                  go_wp2_with fail
                  refine (unhide3 HAPP).mono ?_
                  rintro e w3 ⟨code, S1, rfl, hr, hd1, ht1, hs1⟩
                  obtain ⟨rfl, rfl⟩ := app_dead hr HK.out.fused (by rw [HK.out.left]; omega)
                  have HN1 : Hid (FS W d k R (i + 1) S1 o w3) := ⟨hd1, HK.out.one, by have := HLE.out; omega, HK.out.fused, by rw [HK.out.left]; omega, HK.out.room, HK.out.bel.trans (RetD.below HK.out.dw ht1)⟩
                  clear hr hd1 ht1 hs1 HAPP
                  go_wp2_with fail
                  go_roundw
                  case rel => exact ⟨i + 1, S1, _, by omega, by go_num, HN1.out⟩
                  case measure => simp [intOf]; omega
              · have hiN : i = N := by omega
                have HLEN : Hid (S.E.length ≤ 1) := one_len HK.out.one
                have hget : getE [110, 111, 110, 101] S.E = none := by
                  rcases o with _ | p
                  · exact one_none HK.out.one _
                  · obtain ⟨g, v, e⟩ := HK.out.one
                    rw [e]; simp [getE]
                by_cases hNk : N < k
                · have q5 : decide ((N : Int) < (k : Int)) = true := decide_eq_true (by omega)
                  have hm0 : mayE S [[110, 111, 110, 101]] = 0 := may_ok (by rw [HK.out.left]; intro; omega) (by decide)
                  have HREM := Lib.hid (rem_none W.heap.size d S wr HK.out.dw [110, 111, 110, 101] (by simp) hm0 hget)
                  clear hget
                  go_wp2_with fail
                  refine (unhide3 HREM).mono ?_
                  rintro e w3 ⟨code, S1, rfl, hr, hd3, ht3, hs3⟩
                  obtain ⟨rfl, rfl⟩ : code = 7 ∧ S1 = S := by
                    rcases hr with h | h
                    · exact absurd hm0 h.1
                    · exact ⟨h.2.2.1, h.2.2.2⟩
                  clear hm0
                  have HB3 := Lib.hid (And.intro hd3 (HK.out.bel.trans (RetD.below HK.out.dw ht3)))
                  clear hr hd3 ht3 hs3 HREM
                  go_wp2_with fail
                  refine (crash_any W.heap.size d S1 w3 HB3.out.1 0 (by omega) (by omega)).mono ?_
                  rintro e w4 ⟨rfl, hd4, ht4⟩
                  have HB4 := Lib.hid (And.intro hd4 (HB3.out.2.trans (RetD.below HB3.out.1 ht4)))
                  clear hd4 ht4
                  go_wp2_with fail
                  refine (append_any W.heap.size d _ w4 HB4.out.1 [122] [] (by simp) none 0 0 (Rd.nil_ _) (by omega) (by have := HLEN.out; show (S1.E.map _).length < 4096; rw [List.length_map]; omega)).mono ?_
                  rintro e w5 ⟨code, S5, rfl, hr5, hd5, ht5, _⟩
                  obtain rfl := app_ok hr5 (may_ok (fun h => by cases h) (by decide)) (by have := HB4.out.1.room.1; simpa using this) (by have := HLEN.out; show (S1.E.map _).length < 4096; rw [List.length_map]; omega)
                  have HB5 := Lib.hid (HB4.out.2.trans (RetD.below HB4.out.1 ht5))
                  clear hr5 hd5 ht5
                  go_wp2_with fail
                  refine (known3_any w5).mono ?_
                  rintro e w6 ⟨rfl, b6⟩
                  have HB6 := Lib.hid (HB5.out.trans (b6.mono HB5.out.size))
                  clear b6
                  go_wp2_with fail
                  go_ret
                  exact ⟨rfl, HB6.out⟩
                · have q5 : decide ((N : Int) < (k : Int)) = false := decide_eq_false (by omega)
                  have hm0 : mayE S [[110, 111, 110, 101]] = 20 := by unfold mayE; rw [if_pos ⟨HK.out.fused, by rw [HK.out.left]; omega⟩]
                  have HREM := Lib.hid (rem_bad W.heap.size d S wr HK.out.dw [110, 111, 110, 101] (by simp) 20 hm0 (by decide))
                  clear hget
                  go_wp2_with fail
                  refine (unhide3 HREM).mono ?_
                  rintro e w3 ⟨code, S1, rfl, hr, hd3, ht3, hs3⟩
                  obtain ⟨rfl, rfl⟩ : code = 20 ∧ S1 = S := by
                    rcases hr with h | h
                    · exact ⟨by rw [h.2.1, hm0], h.2.2⟩
                    · rw [hm0] at h; cases h.1
                  clear hm0
                  have HB3 := Lib.hid (And.intro hd3 (HK.out.bel.trans (RetD.below HK.out.dw ht3)))
                  clear hr hd3 ht3 hs3 HREM
                  go_wp2_with fail
                  refine (crash_any W.heap.size d S1 w3 HB3.out.1 0 (by omega) (by omega)).mono ?_
                  rintro e w4 ⟨rfl, hd4, ht4⟩
                  have HB4 := Lib.hid (And.intro hd4 (HB3.out.2.trans (RetD.below HB3.out.1 ht4)))
                  clear hd4 ht4
                  go_wp2_with fail
                  refine (append_any W.heap.size d _ w4 HB4.out.1 [122] [] (by simp) none 0 0 (Rd.nil_ _) (by omega) (by have := HLEN.out; show (S1.E.map _).length < 4096; rw [List.length_map]; omega)).mono ?_
                  rintro e w5 ⟨code, S5, rfl, hr5, hd5, ht5, _⟩
                  obtain rfl := app_ok hr5 (may_ok (fun h => by cases h) (by decide)) (by have := HB4.out.1.room.1; simpa using this) (by have := HLEN.out; show (S1.E.map _).length < 4096; rw [List.length_map]; omega)
                  have HB5 := Lib.hid (HB4.out.2.trans (RetD.below HB4.out.1 ht5))
                  clear hr5 hd5 ht5
                  go_wp2_with fail
                  refine (known3_any w5).mono ?_
                  rintro e w6 ⟨rfl, b6⟩
                  have HB6 := Lib.hid (HB5.out.trans (b6.mono HB5.out.size))
                  clear b6
                  go_wp2_with fail
                  go_ret
                  exact ⟨rfl, HB6.out⟩
end Go.Proofs.Ytcoimlenejffpaa
