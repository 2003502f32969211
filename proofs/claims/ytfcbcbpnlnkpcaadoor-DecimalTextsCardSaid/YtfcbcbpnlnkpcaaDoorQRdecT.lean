/- scrivenerref1.Dec. -/
import Derived.Test.YtfcbcbpnlnkpcaaDoorQBase
import Derived.Test.YtfcbcbpnlnkpcaaDoorQDigits
namespace Go.Proofs.YtfcbcbpnlnkpcaaDoor
set_option linter.all false
open Go.RowKit
theorem below_ra0 (w : World) (o : Obj) : Below w.heap.size w (w.alloc o) := (Below.refl _ _).alloc (Nat.le_refl _) o
set_option maxRecDepth 100000 in
set_option maxHeartbeats 1600000 in
theorem rdec_any (n : Nat) (hn : n < 18446744073709551616) (w : World) :
    Calls Tryd.prog 48 #[.int .u64 n] w (Ret (.string (str (Lib.decDigits n))) w) := by
  generalize hR : Lib.decDigits n = R at *
  have HR := Lib.hid hR
  have HL : Hid (R.length ≤ 21) := by
    show _ ≤ _
    rw [← hR, Lib.decDigits_length]
    have h1 : Lib.nDigits n ≤ Lib.nDigits 99999999999999999999 ∨ True := .inr trivial
    have mono : ∀ k u : Nat, u < 10 ^ (k + 1) → Lib.nDigits u ≤ k + 1 := by
      intro k
      induction k with
      | zero => intro u hu; rw [Lib.nDigits_small (by simpa using hu)]; decide
      | succ k ih =>
        intro u hu
        by_cases h : u < 10
        · rw [Lib.nDigits_small h]; omega
        · rw [Lib.nDigits_big h]
          have := ih (u / 10) (by rw [Nat.pow_succ] at hu; omega)
          omega
    exact mono 20 n (by omega)
  clear hR
  go_enter Tryd.func48, Tryd.ntmps48
  go_wp2_with fail
  go_loopw [0, 3] (fun s0 s3 wr => ∃ (u : Nat) (l : List UInt8), s0 = .int .u64 (u : Int) ∧ s3 = .string (str l) ∧ u < 18446744073709551616 ∧ Hid (R = Lib.decDigits u ++ l) ∧ Hid (Below w.heap.size w wr)) (fun s0 _ _ => (intOf s0).toNat)
  case atStart => exact ⟨n, [], rfl, rfl, hn, by show _ = _; rw [List.append_nil, HR.out], Below.refl _ _⟩
  case round =>
    obtain ⟨u, l, rfl, rfl, hu, HJ, Br⟩ := hrel
    obtain ⟨b, hb⟩ : ∃ b : UInt8, b = UInt8.ofNat (48 + u % 10) := ⟨_, rfl⟩
    have hbn : (48 + (u : Int) % 10) = (b.toNat : Int) := by
      rw [hb]
      simp
      omega
    have hcv : (convert 82 9 (.slice (some ⟨wr.heap.size, 0, none⟩) 1 1)).run Tryd.prog (wr.alloc (.cells #[.int .u8 (48 + (u : Int) % 10)] 5)) = .ok (.string (str [b])) (wr.alloc (.cells #[.int .u8 (48 + (u : Int) % 10)] 5)) :=
      run_convert_bs (Bs.one_new wr 5 b _ hbn) _ _ _ _ Tryd.underlying82 Tryd.underlying5 Tryd.underlying9
    have hll : l.length ≤ 21 := by
      have := HL.out
      rw [HJ.out, List.length_append] at this
      omega
    have z1 : (str l).size = l.length := str_sz l
    have z2 : (str [b]).size = 1 := rfl
    have g1 : ¬ (9223372036854775807 < (str [b]).size + (str l).size) := by omega
    have g2 : ¬ (9223372036854775807 < 1 + l.length) := by omega
    have BA : Hid (Below w.heap.size w (wr.alloc (.cells #[.int .u8 (48 + (u : Int) % 10)] 5))) := Br.out.trans ((below_ra0 wr _).mono Br.out.size)
    by_cases h10 : u < 10
    · have q1 : ((u : Int) / 10 == 0) = true := by simp; omega
      have HV : Hid (R = b :: l) := by
        show _ = _
        rw [HJ.out, Lib.decDigits_one h10, hb, Nat.mod_eq_of_lt h10]
        rfl
      clear HJ HR HL hb hbn h10
      go_wp2_with fail
      go_ret
      exact ⟨by rw [HV.out, str_app]; rfl, BA.out⟩
    · have q1 : ((u : Int) / 10 == 0) = false := by simp; omega
      have HV : Hid (R = Lib.decDigits (u / 10) ++ (b :: l)) := by
        show _ = _
        rw [HJ.out]
        conv => lhs; unfold Lib.decDigits
        rw [dif_neg h10, ← hb, List.append_assoc]
        rfl
      clear HJ HR hb hbn
      go_wp2_with fail
      go_roundw
      case rel => exact ⟨u / 10, b :: l, by first | rfl | (congr 1), by rw [str_app]; rfl, by omega, HV, BA⟩
      case measure => simp [intOf]; omega
end Go.Proofs.YtfcbcbpnlnkpcaaDoor
