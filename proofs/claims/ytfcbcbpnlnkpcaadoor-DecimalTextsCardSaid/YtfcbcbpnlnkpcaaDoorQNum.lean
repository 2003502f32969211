/- Numbers among values; scrivenerref6.Is. -/
import Derived.Test.YtfcbcbpnlnkpcaaDoorQAre
import Derived.Test.YtfcbcbpnlnkpcaaDoorQRcheck
import Derived.Test.YtfcbcbpnlnkpcaaDoorQDecLeast
import Derived.Test.YtfcbcbpnlnkpcaaDoorQCmpp
namespace Go.Proofs.YtfcbcbpnlnkpcaaDoor
set_option linter.all false
open Go.RowKit
theorem numB_num {n : Nd} {k : F} (hok : n.ok) (h : numB n k = true) : isNum n ∧ k = .nil := by
  unfold numB at h
  simp only [Bool.and_eq_true, Bool.or_eq_true, beq_iff_eq] at h
  obtain ⟨hk, hc⟩ := h
  have hn : nerr n k.len = 0 := by
    unfold chk at hc
    rw [if_neg (by decide)] at hc
    split at hc
    · exact hc
    · rename_i h; simpa using h
  have ho : okN n k.len = true := by
    unfold nerr at hn
    split at hn
    · cases hn
    · rename_i h; simpa using h
  have hkl : k.len = 0 → k = .nil := by cases k <;> simp [F.len]
  unfold okN okF at ho
  rcases hk with h3 | h4
  · rw [h3] at ho
    simp only [show ¬ ((3 : Int) = 1) from by decide, show ¬ ((3 : Int) = 2) from by decide, if_false, if_true, Bool.and_eq_true, beq_iff_eq] at ho
    obtain ⟨⟨h1, h2, h5⟩, h6⟩ := ho
    refine ⟨⟨List.eq_nil_of_length_eq_zero (by omega), List.isEmpty_iff.1 h6, hok.2.1, .inl ⟨h3, h1⟩⟩, hkl (by omega)⟩
  · rw [h4] at ho
    simp only [show ¬ ((4 : Int) = 1) from by decide, show ¬ ((4 : Int) = 2) from by decide, show ¬ ((4 : Int) = 3) from by decide, if_false, if_true, Bool.and_eq_true, beq_iff_eq, decide_eq_true_eq, bne_iff_ne] at ho
    obtain ⟨⟨⟨⟨h1, h2⟩, h3⟩, h5, h6⟩, h7⟩ := ho
    refine ⟨⟨List.eq_nil_of_length_eq_zero (by omega), List.isEmpty_iff.1 h7, hok.2.1, .inr ⟨h4, h1, h2, fun e => h3 ?_⟩⟩, hkl (by omega)⟩
    exact Int.tmod_eq_zero_of_dvd (Int.dvd_of_emod_eq_zero e)
theorem num_numB {n : Nd} (h : isNum n) : numB n .nil = true := by
  obtain ⟨kind, int, scale, text, names⟩ := n
  obtain ⟨h1, h2, h3, h4⟩ := h
  simp only at h1 h2 h3 h4
  subst h1 h2
  have hc : chkF .nil (1 + 1) = 0 := rfl
  rcases h4 with ⟨rfl, rfl⟩ | ⟨rfl, a, b, c⟩
  · rfl
  · have : Int.tmod int 10 ≠ 0 := fun e => c (Int.emod_eq_zero_of_dvd (Int.dvd_of_tmod_eq_zero e))
    simp [numB, chk, nerr, okN, okF, F.len, a, b, this, hc]
theorem num_ok {n : Nd} (h : isNum n) : n.ok := by
  obtain ⟨h1, h2, h3, h4⟩ := h
  refine ⟨?_, h3, ?_, by rw [h2]; simp, by rw [h1]; simp⟩
  · rcases h4 with ⟨e, _⟩ | ⟨e, _⟩ <;> rw [e] <;> exact ⟨by decide, by decide⟩
  · rcases h4 with ⟨_, e⟩ | ⟨_, a, b, _⟩
    · rw [e]; exact ⟨by decide, by decide⟩
    · exact ⟨by omega, by omega⟩
/-- A number that was answered is a value. -/
theorem numv_vo {n : Nd} (h : isNum n) (w : World) (S : Nat → Prop) : Vo w S n .nil (numv n) := by
  have h1 := h.1
  have h2 := h.2.1
  refine ⟨none, 0, none, 0, ?_, num_ok h, ⟨by rw [h1]; simp, by rw [h1]; simp⟩, ⟨by simp [F.len], by simp [F.len]⟩, ⟨by rw [h1]; simp, fun hh => absurd hh (by rw [h1]; simp)⟩, [], ⟨by simp [F.len], fun hh => absurd hh (by simp [F.len])⟩, rfl⟩
  simp [numv, ncells, h1, F.len]
set_option maxRecDepth 100000 in
set_option maxHeartbeats 1600000 in
theorem is_any (n : Nd) (k : F) (v : Value) (w : World) (hv : Vo w (· < w.heap.size) n k v) :
    Calls Tryd.prog 14 #[v] w (Ret (.bool (numB n k)) w) := by
  have hc : Hid (∀ (v : Value) (w : World), Vo w (· < w.heap.size) n k v → Calls Tryd.prog 35 #[v] w (Ret (.int .i64 (chk n k 1 : Int)) w)) := fun v w h => RCheck_any n k v w h
  have hv0 := hv
  obtain ⟨An, cn, Ak, ck, rfl, _, _, _, _, _⟩ := hv
  have hb := boxw_eq w n An cn Ak k.len ck
  have hb0 := boxw_below w n An cn Ak k.len ck
  obtain ⟨x0, x1, x2, x3, x4, x5⟩ := boxw_six w n An cn Ak k.len ck
  have HV := Lib.hid (hv0.upto hb0)
  have HN : Hid (numB n k = ((n.kind == 3 || n.kind == 4) && (chk n k 1 == 0))) := rfl
  clear hv0
  generalize numB n k = R at *
  generalize chk n k 1 = C at *
  unfold ncells at *
  have HF : Hid (((C : Int) == 0) = (C == 0)) := by show _ = _; rw [Bool.eq_iff_iff]; simp
  by_cases h34 : n.kind = 3 ∨ n.kind = 4
  · have HX : Hid (R = ((C : Int) == 0)) := by
      show _ = _
      rw [HN.out, HF.out]
      rcases h34 with h | h <;> simp [h]
    generalize hD : ((C : Int) == 0) = D at *
    rcases h34 with h3 | h4
    · have q1 : (n.kind == 3) = true := by simp [h3]
      clear h3
      go_enter Tryd.func14, Tryd.ntmps14
      go_wp2_with fail
      refine ((unhide hc) _ _ HV.out).mono ?_
      rintro e w1 ⟨rfl, b1⟩
      go_wp2_with fail
      go_ret
      exact ⟨ret_bo HX.out.symm, bseq hb0 b1⟩
    · have q1 : (n.kind == 3) = false := by simp [h4]
      have q2 : (n.kind == 4) = true := by simp [h4]
      clear h4
      go_enter Tryd.func14, Tryd.ntmps14
      go_wp2_with fail
      refine ((unhide hc) _ _ HV.out).mono ?_
      rintro e w1 ⟨rfl, b1⟩
      go_wp2_with fail
      go_ret
      exact ⟨ret_bo HX.out.symm, bseq hb0 b1⟩
  · have h3 : ¬ n.kind = 3 := fun e => h34 (.inl e)
    have h4 : ¬ n.kind = 4 := fun e => h34 (.inr e)
    have HX : Hid (R = false) := by
      show _ = _
      rw [HN.out]
      simp [h3, h4]
    clear h34
    go_enter Tryd.func14, Tryd.ntmps14
    go_wp2_with fail
    go_ret
    exact ⟨ret_bo HX.out.symm, hb0⟩
end Go.Proofs.YtfcbcbpnlnkpcaaDoor
