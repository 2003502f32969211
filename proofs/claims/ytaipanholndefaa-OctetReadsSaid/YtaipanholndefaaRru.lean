/- scrivenerref1.ReadUvarint: it answers 'ru 0 0' of the bytes; nothing that was there turns. -/
import Derived.Test.YtaipanholndefaaRu
namespace Go.Proofs.Ytaipanholndefaa
set_option linter.all false
open Go.RowKit
set_option maxRecDepth 100000 in
set_option maxHeartbeats 1600000 in
theorem rru_any (A1 : Option Addr) (n1 c1 : Nat) (l1 : List UInt8) (w : World) (h1 : Bs w w.heap.size A1 n1 l1) (m1 : n1 ≤ maxLen) :
    Calls Try.prog 26 #[.slice A1 n1 c1] w (RetU (ru 0 0 l1) w) := by
  unfold maxLen at m1
  have e1 := h1.len
  go_enter Try.func26, Try.ntmps26
  go_wp2
  go_loop [6, 5] (fun i v => ∃ (k : Nat) (z : Int), k ≤ n1 ∧ k ≤ 10 ∧ i = .int .i64 k ∧ v = .int .u64 z ∧ Hid (k ≤ 9 → ∃ x : Nat, z = (x : Int) ∧ x < 2 ^ (7 * k) ∧ ru 0 0 l1 = ru k x (l1.drop k)) ∧ Hid (k = 10 → ru 0 0 l1 = (0, 0, 3))) (fun i _ => 10 - (intOf i).toNat)
  case atStart => exact ⟨0, 0, Nat.zero_le _, by omega, rfl, rfl, fun _ => ⟨0, rfl, by simp, rfl⟩, fun h => by omega⟩
  case round =>
    obtain ⟨k, z, hk, hk10, rfl, rfl, hr, hf⟩ := hrel
    by_cases h10 : k = 10
    · have HD : Hid (ru 0 0 l1 = (0, 0, 3)) := hf.out h10
      clear hr hf
      have hge : ¬ k < 10 := by omega
      clear h10
      go_wp2
      go_ret3
      exact ⟨tup3u HD.out rfl rfl rfl, Below.refl _ _⟩
    · have hk9 : k ≤ 9 := by omega
      obtain ⟨x, hz, hx, hr2⟩ := hr.out hk9
      subst hz
      have HR := Lib.hid hr2
      clear hr hr2 h10 hf
      by_cases hlt : k < n1
      · obtain ⟨g1, o1, b1, rfl, _, hb1, hc1⟩ := Bs.at_ h1 hlt
        have hd := HR.out.trans (ru_drop hb1 k x)
        have HX := Lib.hid hx
        have hos := or_step x k b1 hx hk9
        rw [Nat.mul_comm k 7] at hos
        have HO := Lib.hid hos
        have hbl := b1.toNat_lt
        have qn : ((k : Int) == n1) = false := by simp; omega
        clear hb1 hx hos
        by_cases hbig : 127 < b1.toNat
        · by_cases h9 : k = 9
          · rw [if_pos (Or.inl ⟨h9, by omega⟩)] at hd
            have HD := Lib.hid hd
            have HK : Hid (k = 9) := h9
            have q1 : ((k : Int) == 9) = true := by simp; omega
            clear h9 hd
            go_wp2
            go_round
            case rel => exact ⟨k + 1, _, by omega, by omega, by go_num, rfl, fun h => by have := HK.out; omega, fun _ => HD.out⟩
            case measure => simp [intOf]; omega
          · rw [if_neg (by omega), if_neg (by omega)] at hd
            have HD := Lib.hid hd
            have HK : Hid (k ≠ 9) := h9
            clear h9 hd
            go_wp2
            go_round
            case rel => exact ⟨k + 1, _, by omega, by omega, by go_num, rfl, fun h => ⟨_, (HO.out fun h => absurd h HK.out).1, pow_next _ _ _ HX.out (Nat.mod_lt _ (by decide)), HD.out⟩, fun h => by have := HK.out; omega⟩
            case measure => simp [intOf]; omega
        · by_cases hF : (k = 9 ∧ 1 < b1.toNat) ∨ (b1.toNat = 0 ∧ 0 < k)
          · rw [if_pos hF] at hd
            have HD := Lib.hid hd
            clear hd
            by_cases h9 : k = 9
            · have q1 : ((k : Int) == 9) = true := by simp; omega
              by_cases hb : 1 < b1.toNat
              · clear hF h9
                go_wp2
                go_ret3
                exact ⟨tup3u HD.out rfl rfl rfl, Below.refl _ _⟩
              · have q2 : ((b1.toNat : Int) == 0) = true := by simp; omega
                have q3 : decide (1 < (b1.toNat : Int)) = false := by simp; omega
                have h0 : 0 < k := by omega
                clear hF h9
                go_wp2
                go_ret3
                exact ⟨tup3u HD.out rfl rfl rfl, Below.refl _ _⟩
            · have q1 : ((k : Int) == 9) = false := by simp; omega
              have q2 : ((b1.toNat : Int) == 0) = true := by simp; omega
              have h0 : 0 < k := by omega
              clear hF h9
              go_wp2
              go_ret3
              exact ⟨tup3u HD.out rfl rfl rfl, Below.refl _ _⟩
          · rw [if_neg hF, if_pos (by omega)] at hd
            have HD := Lib.hid hd
            have hm : b1.toNat % 128 = b1.toNat := by omega
            have HM := Lib.hid hm
            have H9 : Hid (k = 9 → b1.toNat % 128 ≤ 1) := by show k = 9 → b1.toNat % 128 ≤ 1; omega
            clear hd hm
            by_cases h9 : k = 9
            · have q1 : ((k : Int) == 9) = true := by simp; omega
              have q2 : ((b1.toNat : Int) == 0) = false := by simp; omega
              have q3 : decide (1 < (b1.toNat : Int)) = false := by simp; omega
              have h0 : 0 < k := by omega
              clear hF h9
              go_wp2
              go_ret3
              exact ⟨tup3u HD.out (by rw [(HO.out H9.out).1, HM.out]) (by simp) rfl, Below.refl _ _⟩
            · have q1 : ((k : Int) == 9) = false := by simp; omega
              by_cases h0 : 0 < k
              · have q2 : ((b1.toNat : Int) == 0) = false := by simp; omega
                clear hF h9
                go_wp2
                go_ret3
                exact ⟨tup3u HD.out (by rw [(HO.out H9.out).1, HM.out]) (by simp) rfl, Below.refl _ _⟩
              · clear hF h9
                go_wp2
                go_ret3
                exact ⟨tup3u HD.out (by rw [(HO.out H9.out).1, HM.out]) (by simp) rfl, Below.refl _ _⟩
      · have hn : k = n1 := by omega
        have HD : Hid (ru 0 0 l1 = (0, 0, 2)) := by
          show ru 0 0 l1 = (0, 0, 2)
          rw [HR.out, List.drop_of_length_le (by omega)]; rfl
        have qn : ((k : Int) == n1) = true := by simp; omega
        clear hx hn
        go_wp2
        go_ret3
        exact ⟨tup3u HD.out rfl rfl rfl, Below.refl _ _⟩
end Go.Proofs.Ytaipanholndefaa
