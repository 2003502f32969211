/- octet.ReadUvarint and scrivenerref1.ReadUvarint: each answers 'ru 0 0' of the bytes; nothing that was there turns. -/
import Derived.Test.YtaipanholndefaaMem
import Derived.Test.YtaipanholndefaaUvp
import Derived.LoopTactic
namespace Go.Proofs.Ytaipanholndefaa
set_option linter.all false
open Go.RowKit
theorem tup3 {k1 k2 k3 : IntKind} {a b c a' b' c' : Int} (h1 : a = a') (h2 : b = b') (h3 : c = c') :
    Ending.returned (.tuple #[.int k1 a, .int k2 b, .int k3 c]) = Ending.returned (.tuple #[.int k1 a', .int k2 b', .int k3 c']) := by rw [h1, h2, h3]
theorem tup3u {k1 k2 k3 : IntKind} {a b c : Int} {r r' : Nat × Nat × Nat} (hr : r = r') (h1 : a = r'.1) (h2 : b = r'.2.1) (h3 : c = r'.2.2) :
    Ending.returned (.tuple #[.int k1 a, .int k2 b, .int k3 c]) = Ending.returned (.tuple #[.int k1 r.1, .int k2 r.2.1, .int k3 r.2.2]) := by rw [hr, h1, h2, h3]
/-- Behind a reader of numbers: the value, how many bytes, the error. -/
def RetU (r : Nat × Nat × Nat) (w : World) (e : Ending) (w' : World) : Prop :=
  e = .returned (.tuple #[.int .u64 (r.1 : Int), .int .i64 (r.2.1 : Int), .int .i64 (r.2.2 : Int)]) ∧ Below w.heap.size w w'

set_option maxRecDepth 100000 in
set_option maxHeartbeats 1600000 in
theorem ru_any (A1 : Option Addr) (n1 c1 : Nat) (l1 : List UInt8) (w : World) (h1 : Bs w w.heap.size A1 n1 l1) (m1 : n1 ≤ maxLen) :
    Calls Try.prog 25 #[.slice A1 n1 c1] w (RetU (ru 0 0 l1) w) := by
  unfold maxLen at m1
  have e1 := h1.len
  go_enter Try.func25, Try.ntmps25
  go_wp2
  go_loop [10, 5] (fun i v => ∃ k x : Nat, k ≤ n1 ∧ k ≤ 9 ∧ x < 2 ^ (7 * k) ∧ i = .int .i64 k ∧ v = .int .u64 (x : Int) ∧ Hid (ru 0 0 l1 = ru k x (l1.drop k))) (fun i _ => n1 - (intOf i).toNat)
  case atStart => exact ⟨0, 0, Nat.zero_le _, by omega, by simp, rfl, rfl, rfl⟩
  case round =>
      obtain ⟨k, x, hk, hk9, hx, rfl, rfl, hr⟩ := hrel
      by_cases hlt : k < n1
      · obtain ⟨g1, o1, b1, rfl, _, hb1, hc1⟩ := Bs.at_ h1 hlt
        have hd := hr.out.trans (ru_drop hb1 k x)
        have HX := Lib.hid hx
        have hos := or_step x k b1 hx hk9
        have HO := Lib.hid hos
        have hbl := b1.toNat_lt
        clear hb1 hr hx hos
        by_cases hF : (k = 9 ∧ 1 < b1.toNat) ∨ (b1.toNat = 0 ∧ 0 < k)
        · rw [if_pos hF] at hd
          have HD := Lib.hid hd
          clear hd
          rcases hF with ⟨h9, hb⟩ | ⟨hb, h0⟩
          · have q1 : ((k : Int) == 9) = true := by simp; omega
            clear h9
            go_wp2
            go_ret3
            exact ⟨tup3u HD.out rfl rfl rfl, Below.refl _ _⟩
          · have q1 : ((b1.toNat : Int) == 0) = true := by simp; omega
            have q3 : decide (1 < (b1.toNat : Int)) = false := by simp; omega
            clear hb
            by_cases h9 : k = 9
            · have q2 : ((k : Int) == 9) = true := by simp; omega
              clear h9
              go_wp2
              go_ret3
              exact ⟨tup3u HD.out rfl rfl rfl, Below.refl _ _⟩
            · have q2 : ((k : Int) == 9) = false := by simp; omega
              clear h9
              go_wp2
              go_ret3
              exact ⟨tup3u HD.out rfl rfl rfl, Below.refl _ _⟩
        · rw [if_neg hF] at hd
          by_cases hs : b1.toNat < 128
          · rw [if_pos hs] at hd
            have HD := Lib.hid hd
            clear hd
            have hm : b1.toNat % 128 = b1.toNat := by omega
            have HM := Lib.hid hm
            clear hm
            by_cases h9 : k = 9
            · have q2 : ((k : Int) == 9) = true := by simp; omega
              have q3 : decide (1 < (b1.toNat : Int)) = false := by simp; omega
              have q1 : ((b1.toNat : Int) == 0) = false := by simp; omega
              have H9 : Hid (b1.toNat % 128 ≤ 1) := by show b1.toNat % 128 ≤ 1; omega
              clear h9 hF
              go_wp2
              go_ret3
              exact ⟨tup3u HD.out (by rw [(HO.out fun _ => H9.out).1, HM.out]) (by simp) rfl, Below.refl _ _⟩
            · have q2 : ((k : Int) == 9) = false := by simp; omega
              have H9 : Hid (k ≠ 9) := h9
              by_cases h0 : b1.toNat = 0
              · have q1 : ((b1.toNat : Int) == 0) = true := by simp; omega
                have hnk : ¬ 0 < k := by omega
                clear h9 hF h0
                go_wp2
                go_ret3
                exact ⟨tup3u HD.out (by rw [(HO.out fun h => absurd h H9.out).1, HM.out]) (by simp) rfl, Below.refl _ _⟩
              · have q1 : ((b1.toNat : Int) == 0) = false := by simp; omega
                clear h9 hF h0
                go_wp2
                go_ret3
                exact ⟨tup3u HD.out (by rw [(HO.out fun h => absurd h H9.out).1, HM.out]) (by simp) rfl, Below.refl _ _⟩
          · rw [if_neg hs] at hd
            have HD := Lib.hid hd
            have q2 : ((k : Int) == 9) = false := by simp; omega
            have q1 : ((b1.toNat : Int) == 0) = false := by simp; omega
            have H9 : Hid (k ≠ 9) := by show k ≠ 9; omega
            have hk8 : k ≤ 8 := by omega
            clear hd hF
            go_wp2
            go_round
            case rel => exact ⟨k + 1, _, by omega, by omega, pow_next _ _ _ HX.out (Nat.mod_lt _ (by decide)), by go_num, by rw [(HO.out fun h => absurd h H9.out).1], HD.out⟩
            case measure => simp [intOf]; omega
      · have HD : Hid (ru 0 0 l1 = (0, 0, 2)) := by
          show ru 0 0 l1 = (0, 0, 2)
          rw [hr.out, List.drop_of_length_le (by omega)]; rfl
        clear hr hx
        go_wp2
        go_ret3
        exact ⟨tup3u HD.out rfl rfl rfl, Below.refl _ _⟩
end Go.Proofs.Ytaipanholndefaa
