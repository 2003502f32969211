/- decimal.digits. -/
import Derived.Test.YtfcbcbpnlnkpcaaDoorQBase
import Derived.Lib.ConvBytes
import Derived.LoopTactic
import Derived.Outline
import Derived.StillTailTactics
import Derived.BigQuiet
namespace Go.Proofs.YtfcbcbpnlnkpcaaDoor
set_option linter.all false
open Go.RowKit
def isD (b : UInt8) : Bool := decide (48 ≤ b.toNat) && decide (b.toNat ≤ 57)
def digB (l : List UInt8) : Bool := l.all isD && decide (0 < l.length)
theorem below_bytes (w : World) (e : TypeId) (s : ByteArray) : Below w.heap.size w (Lib.bytesWorld w e s) :=
  ⟨rfl, rfl, rfl, by rw [Lib.bytesWorld_size]; omega, fun k hk => Lib.bytesWorld_at_old w e s k hk⟩
theorem bytes_at (w : World) (e : TypeId) (l : List UInt8) {j : Nat} {b : UInt8} (h : l[j]? = some b) : (Lib.bytesWorld w e (str l)).cell? ⟨w.heap.size, j, none⟩ = some (.int .u8 (b.toNat : Int)) := by
  have hj : j < l.length := (List.getElem?_eq_some_iff.1 h).1
  rw [Lib.bytesWorld_cell w e (str l) j (by rw [str_sz]; exact hj)]
  have : (str l).data.toList.getD j 0 = b := by simp [str, List.getD, h]
  rw [this]
set_option maxRecDepth 100000 in
set_option maxHeartbeats 3200000 in
theorem digits_any (l : List UInt8) (w : World) (hl : l.length ≤ 140737488351232) :
    Calls Tryd.prog 51 #[.string (str l)] w (Ret (.bool (digB l)) w) := by
  have HD : Hid (digB l = (l.all isD && decide (0 < l.length))) := rfl
  generalize hR : digB l = R at *
  clear hR
  have B0 : Hid (Below w.heap.size w (Lib.bytesWorld w 5 (str l))) := below_bytes _ _ _
  have HC : Hid (∀ j b, l[j]? = some b → (Lib.bytesWorld w 5 (str l)).cell? ⟨w.heap.size, j, none⟩ = some (.int .u8 (b.toNat : Int))) := fun j b h => bytes_at w _ l h
  have hsz : (str l).size = l.length := str_sz l
  have hcv : ∀ w : World, (convert 9 82 (.string (str l))).run Tryd.prog w = .ok (.slice (some ⟨w.heap.size, 0, none⟩) (str l).size (grownCap w (str l).size 0 5)) (Lib.bytesWorld w 5 (str l)) := fun w => Lib.run_convert_string_bytes w _ _ _ _ Tryd.underlying9 Tryd.underlying82 Tryd.underlying5
  generalize hcap : grownCap w (str l).size 0 5 = cap at *
  go_enter Tryd.func51, Tryd.ntmps51
  go_wp2_with fail
  generalize Lib.bytesWorld w 5 (str l) = W1 at *
  generalize grownCap w l.length 0 5 = cap2 at *
  go_loopw [8] (fun s8 wr => ∃ j : Nat, s8 = .int .i64 (j : Int) ∧ j ≤ l.length ∧ Hid (R = ((l.drop j).all isD && decide (0 < l.length))) ∧ wr = W1) (fun s8 _ => l.length - (intOf s8).toNat)
  case atStart => exact ⟨0, rfl, Nat.zero_le _, HD, rfl⟩
  case round =>
    obtain ⟨j, rfl, hj, HJ, rfl⟩ := hrel
    by_cases hlt : j < l.length
    · have hb : l[j]? = some l[j] := List.getElem?_eq_getElem hlt
      have q0 : wr.cell? ⟨w.heap.size, j, none⟩ = some (.int .u8 (l[j].toNat : Int)) := HC.out j _ hb
      have HE : Hid (R = (isD l[j] && ((l.drop (j + 1)).all isD && decide (0 < l.length)))) := by
        show _ = _
        rw [HJ.out, List.drop_eq_getElem_cons hlt, List.all_cons, Bool.and_assoc]
      have HI : Hid (isD l[j] = (decide (48 ≤ l[j].toNat) && decide (l[j].toNat ≤ 57))) := rfl
      generalize isD l[j] = D at *
      generalize l[j] = b at *
      clear HJ hb
      rcases Nat.lt_or_ge b.toNat 48 with h1 | h1
      · have q1 : ((b.toNat : Nat) : Int) < 48 := by omega
        have HF : Hid (R = false) := by show _ = _; rw [HE.out, HI.out, decide_eq_false (by omega)]; rfl
        go_wp2_with fail
        go_ret
        exact ⟨ret_bo HF.out.symm, B0.out⟩
      · have q1 : ¬ ((b.toNat : Nat) : Int) < 48 := by omega
        rcases Nat.lt_or_ge 57 b.toNat with h2 | h2
        · have q2 : (57 : Int) < ((b.toNat : Nat) : Int) := by omega
          have HF : Hid (R = false) := by show _ = _; rw [HE.out, HI.out, decide_eq_false (p := b.toNat ≤ 57) (by omega)]; simp
          go_wp2_with fail
          go_ret
          exact ⟨ret_bo HF.out.symm, B0.out⟩
        · have q2 : ¬ (57 : Int) < ((b.toNat : Nat) : Int) := by omega
          have HF : Hid (R = ((l.drop (j + 1)).all isD && decide (0 < l.length))) := by show _ = _; rw [HE.out, HI.out, decide_eq_true h1, decide_eq_true h2]; rfl
          clear HE HI
          go_wp2_with fail
          go_roundw
          case rel => exact ⟨j + 1, by first | rfl | (congr 1), by omega, HF, by first | rfl | trivial⟩
          case measure => simp [intOf]; omega
    · have e : j = l.length := by omega
      have HF : Hid (R = decide (0 < l.length)) := by show _ = _; rw [HJ.out, e]; simp
      clear HJ
      rcases Nat.eq_zero_or_pos l.length with h0 | h0
      · have q2 : ¬ (0 : Int) < ((l.length : Nat) : Int) := by omega
        have HG : Hid (R = false) := by show _ = _; rw [HF.out]; exact decide_eq_false (by omega)
        go_wp2_with fail
        go_ret
        exact ⟨ret_bo HG.out.symm, B0.out⟩
      · have q2 : (0 : Int) < ((l.length : Nat) : Int) := by omega
        have HG : Hid (R = true) := by show _ = _; rw [HF.out]; exact decide_eq_true h0
        go_wp2_with fail
        go_ret
        exact ⟨ret_bo HG.out.symm, B0.out⟩
end Go.Proofs.YtfcbcbpnlnkpcaaDoor
