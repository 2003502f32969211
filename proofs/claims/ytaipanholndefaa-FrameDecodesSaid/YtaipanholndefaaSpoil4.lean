/- spoil: bytes of the call's own are written over, and grown: nothing else turns. -/
import Derived.Test.YtaipanholndefaaMem
import Derived.LoopTactic
namespace Go.Proofs.Ytaipanholndefaa
set_option linter.all false
open Go.RowKit
/-- Behind a call without an answer, which may write from block 'base' on. -/
def RetV (base : Nat) (w : World) (e : Ending) (w' : World) : Prop := e = .returned (.tuple #[]) ∧ Below base w w'
set_option maxRecDepth 100000 in
set_option maxHeartbeats 800000 in
theorem spoil4_any (base : Nat) (A : Option Addr) (n c : Nat) (l : List UInt8) (w : World) (h : w.ownsRow base 5 1 (.slice A n c) n (l.map bv)) (hb : base ≤ w.heap.size) (hn : n ≤ 1000000) :
    Calls Try.prog 46 #[.slice A n c] w (RetV base w) := by
  go_enter Try.func46, Try.ntmps46
  go_wp2_with (first
    | (at_builtin
       refine wpB_append rfl (.tmp 4) (.tmp 5) rfl base _ n l rfl (h.alloc _) (w.heap.size + 1) (some ⟨w.heap.size, 0, none⟩) 1 1 [99] rfl (Rd.one_new _ _ _) (n + 1) _ rfl rfl (by omega) (by simp; omega) ?_
       intro A1 c1 w1 o1 b1 hc1 hm1))
  obtain ⟨g, b, rfl, hbg, hgl, _, _, _⟩ := own_at o1 (k := 0) (by omega)
  have b01 : Below base w w1 := ((Below.refl _ _).alloc hb _).trans b1
  go_loopw [3] (fun s3 wr => ∃ (k : Nat) (m : List UInt8), k ≤ n + 1 ∧ s3 = .int .i64 k ∧ wr.ownsRow base 5 1 (.slice (some ⟨g, 0, none⟩) (n + 1) c1) (n + 1) (m.map bv) ∧ Below base w wr) (fun s3 _ => n + 1 - (intOf s3).toNat)
  case atStart => exact ⟨0, _, by omega, rfl, o1, b01⟩
  case round =>
    obtain ⟨k, m, hk, rfl, ho, hbl⟩ := hrel
    by_cases hlt : k < n + 1
    · obtain ⟨g', b', hA, _, _, _, hcell, hfz⟩ := own_at ho hlt
      injection hA with hA
      injection hA with hA
      subst hA
      go_wp2
      go_roundw
      case rel => exact ⟨k + 1, m.set k 98, by omega, by go_num, own_set ho 98, hbl.setCell hbg _⟩
      case measure => simp [intOf]; omega
    · go_wp2
      go_end0
      exact ⟨rfl, hbl⟩
end Go.Proofs.Ytaipanholndefaa
