import Derived.Test.YtaipanholndefaaSame4
namespace Go.Proofs.Ytaipanholndefaa
set_option linter.all false
open Go.RowKit
theorem Drew.bs {w w' : World} {B m : Nat} {A : Option Addr} {p : List UInt8} (h : Bs w B A m p) (hd : Drew w w') : Bs w' B A m p := by
  obtain ⟨k, rfl⟩ := hd
  exact h.drewN k
theorem Drew.size {w w' : World} (hd : Drew w w') : w'.heap.size = w.heap.size := by
  obtain ⟨k, rfl⟩ := hd
  rfl
set_option maxHeartbeats 800000 in
theorem rows4_eq (A A' : Option Addr) (n c c' : Nat) (vs vs' : List Value) (w : World) (ra : Rd w w.heap.size 1 A n vs) (rb : Rd w w.heap.size 1 A' n vs') (hn : n ≤ 1000000)
    (hR : ∀ (i : Nat) (v v' : Value), vs[i]? = some v → vs'[i]? = some v' → ∃ B d B' d' m p, v = .slice B m d ∧ v' = .slice B' m d' ∧ m ≤ maxLen ∧ Bs w w.heap.size B m p ∧ Bs w w.heap.size B' m p) :
    Calls Try.prog 45 #[.slice A n c, .slice A' n c'] w (RetQ (.bool true) w) := by
  have HR := Lib.hid hR
  clear hR
  have hne : ((n : Int) != n) = false := by simp
  go_enter Try.func45, Try.ntmps45
  go_wp2
  go_loopw [5] (fun i wr => ∃ k : Nat, k ≤ n ∧ i = .int .i64 k ∧ Drew w wr) (fun i _ => n - (intOf i).toNat)
  case atStart => exact ⟨0, Nat.zero_le _, rfl, Drew.refl _⟩
  case round =>
    obtain ⟨k, hk, rfl, hb⟩ := hrel
    by_cases hlt : k < n
    · have raw := ra.below (hb.below _)
      have rbw := rb.below (hb.below _)
      obtain ⟨g1, o1, v1, rfl, _, hv1, hc1⟩ := raw.at_ hlt
      obtain ⟨g2, o2, v2, rfl, _, hv2, hc2⟩ := rbw.at_ hlt
      obtain ⟨B, d, B', d', m, p, rfl, rfl, hm, hB, hB'⟩ := HR.out k v1 v2 hv1 hv2
      have hs := hb.size
      have hB2 : Bs wr wr.heap.size B m p := by rw [hs]; exact hb.bs hB
      have hB2' : Bs wr wr.heap.size B' m p := by rw [hs]; exact hb.bs hB'
      have hcall : ∀ q : Nat, Calls Try.prog 38 #[.slice B m d, .slice B' m d'] (wr.drewN q) fun e w' => e = .returned (.bool true) ∧ ∃ j, w' = (wr.drewN q).drewN j := fun q => by
        have := same4_q B B' m d m d' p p (wr.drewN q) (hB2.drewN q) (hB2'.drewN q) hm
        rwa [show decide (p = p) = true from by simp] at this
      have HC := Lib.hid hcall
      clear hcall hv1 hv2 hs
      go_wp2
      go_quiet ((go_at_call 38; exact Calls.quiet_of (HC.out _)))
      go_wp2
      go_roundw
      case rel => exact ⟨k + 1, by omega, by go_num, hb.more _⟩
      case measure => simp [intOf]; omega
    · go_wp2
      go_ret
      exact ⟨rfl, hb⟩
end Go.Proofs.Ytaipanholndefaa
