/- octet.Sum and scrivenerref1.Sum: each answers the CRC-32 of the bytes; nothing that was there turns. -/
import Derived.Test.YtaipanholndefaaMem
import Derived.Test.YtaipanholndefaaCrc
import Derived.Laws.BitsAllLaws
import Derived.LoopTactic
namespace Go.Proofs.Ytaipanholndefaa
set_option linter.all false
open Go.RowKit

/-- A word of 32 digits as a number; its parts under names of their own, so that no rule of Lean opens them in a walk. -/
def U (v : BitVec 32) : Int := (v.toNat : Int)
def xr (a b : BitVec 32) : BitVec 32 := a ^^^ b
def lo4 (a : BitVec 32) : BitVec 32 := a &&& 15#32
def lo1 (a : BitVec 32) : BitVec 32 := a &&& 1#32
def sh4 (a : BitVec 32) : BitVec 32 := a >>> 4
def sh1 (a : BitVec 32) : BitVec 32 := a >>> 1
theorem U_lt (a : BitVec 32) : 0 ≤ U a ∧ U a < 4294967296 := by have := a.isLt; unfold U; omega
theorem b32_xor (a b : BitVec 32) : bits .xor .u32 (U a) (U b) = U (xr a b) := by
  unfold U xr; rw [u32_xor_nat _ _ a.isLt b.isLt, BitVec.toNat_xor]
theorem b32_xor_poly (a : BitVec 32) : bits .xor .u32 (U a) 3988292384 = U (xr a poly) := b32_xor a poly
theorem b32_and15 (a : BitVec 32) : bits .and .u32 (U a) 15 = U (lo4 a) := by
  unfold U lo4; rw [show (15 : Int) = ((15 : Nat) : Int) from rfl, u32_and_nat _ _ a.isLt (by decide), BitVec.toNat_and]; rfl
theorem b32_and1 (a : BitVec 32) : bits .and .u32 (U a) 1 = U (lo1 a) := by
  unfold U lo1; rw [show (1 : Int) = ((1 : Nat) : Int) from rfl, u32_and_nat _ _ a.isLt (by decide), BitVec.toNat_and]; rfl
theorem b32_shr4 (a : BitVec 32) : U a / 16 = U (sh4 a) := by
  unfold U sh4; rw [BitVec.toNat_ushiftRight, Nat.shiftRight_eq_div_pow]; omega
theorem b32_shr1 (a : BitVec 32) : U a / 2 = U (sh1 a) := by
  unfold U sh1; rw [BitVec.toNat_ushiftRight, Nat.shiftRight_eq_div_pow]; omega
theorem b32_cv (b : UInt8) : (b.toNat : Int) % 4294967296 = U (cv b) := by
  unfold U cv; rw [BitVec.toNat_ofNat]; omega
theorem b32_not (a : BitVec 32) : bits .xor .u32 IntKind.u32.max (U a) = U (~~~a) := by
  have : IntKind.u32.max = U 4294967295#32 := by decide
  rw [this, b32_xor]
  congr 1
theorem and1_eq (a : BitVec 32) : a &&& 1#32 = if a.getLsbD 0 then 1#32 else 0#32 := by
  apply BitVec.eq_of_getLsbD_eq
  intro i hi
  have h1 : ∀ j : Fin 32, (1#32).getLsbD j.1 = decide (j.1 = 0) := by decide
  have := h1 ⟨i, hi⟩
  simp only at this
  rw [BitVec.getLsbD_and, this]
  by_cases h0 : i = 0
  · subst h0; cases a.getLsbD 0 <;> simp
  · cases a.getLsbD 0 <;> simp [h0, this]

section
attribute [local go_sem] b32_xor b32_and15 b32_shr4 b32_cv
theorem tabl_at (v : BitVec 32) : 0 ≤ U (lo4 v) ∧ U (lo4 v) < 16 := by
  have : (v &&& 15#32).toNat < 16 := by rw [BitVec.toNat_and]; exact Nat.lt_of_le_of_lt Nat.and_le_right (by decide)
  unfold U lo4; omega
set_option maxHeartbeats 800000 in
theorem sum_any (A1 : Option Addr) (n1 c1 : Nat) (l1 : List UInt8) (w : World) (h1 : Bs w w.heap.size A1 n1 l1) (m1 : n1 ≤ maxLen) :
    Calls Try.prog 14 #[.slice A1 n1 c1] w (Ret (.int .u32 (U (crc l1))) w) := by
  unfold maxLen at m1
  have e1 := h1.len
  go_enter Try.func14, Try.ntmps14
  go_wp2
  go_loopw [10, 4] (fun i v wr => ∃ k : Nat, k ≤ n1 ∧ i = .int .i64 k ∧ v = .int .u32 (U (crcRaw (l1.take k))) ∧ Below w.heap.size w wr ∧ (∀ t : BitVec 32, wr.cell? ⟨w.heap.size, (U (lo4 t)).toNat, none⟩ = some (.int .u32 (U (tab (lo4 t)))))) (fun i _ _ => n1 - (intOf i).toNat)
  case atStart =>
    refine ⟨0, Nat.zero_le _, rfl, rfl, (Below.refl _ _).alloc (Nat.le_refl _) _, fun t => ?_⟩
    have hk : ∀ j : Fin 16, (w.alloc (Obj.cells #[.int .u32 0, .int .u32 498536548, .int .u32 997073096, .int .u32 651767980, .int .u32 1994146192, .int .u32 1802195444, .int .u32 1303535960, .int .u32 1342533948, .int .u32 3988292384, .int .u32 4027552580, .int .u32 3604390888, .int .u32 3412177804, .int .u32 2607071920, .int .u32 2262029012, .int .u32 2685067896, .int .u32 3183342108] 67)).cell? ⟨w.heap.size, j.1, none⟩ = some (.int .u32 (U (tabl.getD j.1 0#32))) := by
      intro j
      rw [World.cell?_alloc_new]
      match j with
      | ⟨0, _⟩ => rfl
      | ⟨1, _⟩ => rfl
      | ⟨2, _⟩ => rfl
      | ⟨3, _⟩ => rfl
      | ⟨4, _⟩ => rfl
      | ⟨5, _⟩ => rfl
      | ⟨6, _⟩ => rfl
      | ⟨7, _⟩ => rfl
      | ⟨8, _⟩ => rfl
      | ⟨9, _⟩ => rfl
      | ⟨10, _⟩ => rfl
      | ⟨11, _⟩ => rfl
      | ⟨12, _⟩ => rfl
      | ⟨13, _⟩ => rfl
      | ⟨14, _⟩ => rfl
      | ⟨15, _⟩ => rfl
      | ⟨n + 16, h⟩ => omega
    have ht := tabl_at t
    exact hk ⟨(U (lo4 t)).toNat, by omega⟩
  case round =>
      obtain ⟨k, hk, rfl, rfl, hb, hT⟩ := hrel
      by_cases hlt : k < n1
      · obtain ⟨g1, o1, b1, rfl, _, hb1, hc1⟩ := Bs.at_ (h1.below hb) hlt
        have HS := Lib.hid (crcRaw_take hb1)
        have HT := Lib.hid hT
        have t1 := hT (xr (crcRaw (l1.take k)) (cv b1))
        have t2 := hT (xr (sh4 (xr (crcRaw (l1.take k)) (cv b1))) (tab (lo4 (xr (crcRaw (l1.take k)) (cv b1)))))
        have q1 := tabl_at (xr (crcRaw (l1.take k)) (cv b1))
        have q2 := tabl_at (xr (sh4 (xr (crcRaw (l1.take k)) (cv b1))) (tab (lo4 (xr (crcRaw (l1.take k)) (cv b1)))))
        clear hb1 hT
        generalize crcRaw (l1.take k) = v at *
        go_wp2
        go_roundw
        case rel => exact ⟨k + 1, by omega, by go_num, by rw [HS.out]; rfl, hb, HT.out⟩
        case measure => simp [intOf]; omega
      · go_wp2
        go_ret
        refine ⟨?_, hb⟩
        have : l1.take k = l1 := List.take_of_length_le (by omega)
        rw [this]
        simp only [crc]
        rw [← b32_not]
        rfl
end

/-! ### the reference's sum, digit by digit -/
theorem lo1_one (a : BitVec 32) : (U (lo1 a) == 1) = a.getLsbD 0 := by
  unfold lo1; rw [and1_eq]; cases a.getLsbD 0 <;> rfl
theorem bit1_odd {a : BitVec 32} (h : a.getLsbD 0 = true) : bit1 a = xr (sh1 a) poly := by unfold bit1 xr sh1; rw [h]; rfl
theorem bit1_even {a : BitVec 32} (h : a.getLsbD 0 = false) : bit1 a = sh1 a := by unfold bit1 sh1; rw [h]; simp

section
attribute [local go_sem] b32_xor b32_and1 b32_shr1 b32_cv b32_xor_poly
set_option maxHeartbeats 800000 in
theorem rsum_any (A1 : Option Addr) (n1 c1 : Nat) (l1 : List UInt8) (w : World) (h1 : Bs w w.heap.size A1 n1 l1) (m1 : n1 ≤ maxLen) :
    Calls Try.prog 15 #[.slice A1 n1 c1] w (Ret (.int .u32 (U (crc l1))) w) := by
  unfold maxLen at m1
  have e1 := h1.len
  go_enter Try.func15, Try.ntmps15
  go_wp2
  go_loop [4, 3, 5] (fun i v j => ∃ k : Nat, k ≤ n1 ∧ i = .int .i64 k ∧ v = .int .u32 (U (crcRaw (l1.take k)))) (fun i _ _ => n1 - (intOf i).toNat)
  case atStart => exact ⟨0, Nat.zero_le _, rfl, rfl⟩
  case round =>
      obtain ⟨k, hk, rfl, rfl⟩ := hrel
      by_cases hlt : k < n1
      · obtain ⟨g1, o1, b1, rfl, _, hb1, hc1⟩ := Bs.at_ h1 hlt
        have HS := Lib.hid (crcRaw_take hb1)
        clear hb1
        have hst := st_eq (crcRaw (l1.take k)) b1
        have HV := Lib.hid hst
        clear hst
        generalize crcRaw (l1.take k) = v at *
        go_wp2
        go_loop [5, 3] (fun j u => ∃ q : Nat, q ≤ 8 ∧ j = .int .i64 q ∧ u = .int .u32 (U (bits8 q (xr v (cv b1))))) (fun j _ => 8 - (intOf j).toNat)
        case atStart => exact ⟨0, Nat.zero_le _, rfl, rfl⟩
        case round =>
          obtain ⟨q, hq, rfl, rfl⟩ := hrel
          by_cases hlq : q < 8
          · cases ho : (bits8 q (xr v (cv b1))).getLsbD 0
            · have e1 : (U (lo1 (bits8 q (xr v (cv b1)))) == 1) = false := by rw [lo1_one]; exact ho
              have HO := Lib.hid (bit1_even ho)
              clear ho
              go_wp2
              go_round
              case rel => exact ⟨q + 1, by omega, by go_num, by rw [← HO.out]; rfl⟩
              case measure => simp [intOf]; omega
            · have e1 : (U (lo1 (bits8 q (xr v (cv b1)))) == 1) = true := by rw [lo1_one]; exact ho
              have HO := Lib.hid (bit1_odd ho)
              clear ho
              go_wp2
              go_round
              case rel => exact ⟨q + 1, by omega, by go_num, by rw [← HO.out]; rfl⟩
              case measure => simp [intOf]; omega
          · have H8 : Hid (q = 8) := by show q = 8; omega
            go_wp2
            go_round
            case rel => exact ⟨k + 1, by omega, by go_num, by rw [HS.out, HV.out, H8.out]; rfl⟩
            case measure => simp [intOf]; omega
      · go_wp2
        go_ret
        refine ⟨?_, Below.refl _ _⟩
        have : l1.take k = l1 := List.take_of_length_le (by omega)
        rw [this]
        simp only [crc]
        rw [← b32_not]
        rfl
end
end Go.Proofs.Ytaipanholndefaa
