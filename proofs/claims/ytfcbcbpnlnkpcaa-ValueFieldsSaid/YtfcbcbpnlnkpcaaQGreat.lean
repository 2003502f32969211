/- scrivenerlaw5.great, heavy: are values more than is looked at? -/
import Derived.Test.YtfcbcbpnlnkpcaaQBase
import Derived.LoopTactic
import Derived.Outline
import Derived.StillTailTactics
import Derived.BigQuiet
namespace Go.Proofs.Ytfcbcbpnlnkpcaa
set_option linter.all false
open Go.RowKit
def cost (n : Nd) : Nat := 1 + n.text.length / 20 + n.names.length
/-- The count behind a forest, where it was t. -/
def grF : F → Nat → Nat
  | .nil, t => t
  | .cons n k r, t => if t ≤ 2500 then grF r (grF k (t + cost n)) else t
def wtF : F → Nat
  | .nil => 0
  | .cons n k r => cost n + wtF k + wtF r
theorem grF_over : ∀ (f : F) {t : Nat}, 2500 < t → grF f t = t
  | .nil, t, h => rfl
  | .cons n k r, t, h => if_neg (by omega)
theorem grF_drop {f : F} {i : Nat} {n : Nd} {k : F} (h : f.get i = some (n, k)) (t : Nat) : grF (f.drop i) t = if t ≤ 2500 then grF (f.drop (i + 1)) (grF k (t + cost n)) else t := by rw [F.drop_get f i h]; rfl
theorem grF_le : ∀ (f : F) (t : Nat), t ≤ grF f t
  | .nil, t => Nat.le_refl _
  | .cons n k r, t => by
    simp only [grF]
    split
    · have := grF_le k (t + cost n)
      have := grF_le r (grF k (t + cost n))
      omega
    · omega
theorem grF_wt : ∀ (f : F) (t : Nat), grF f t ≤ 2500 → grF f t = t + wtF f
  | .nil, t, _ => rfl
  | .cons n k r, t, h => by
    simp only [grF] at h ⊢
    split at h
    · rename_i ht
      have h1 := grF_wt r _ h
      have h2 := grF_wt k (t + cost n) (by have := grF_le r (grF k (t + cost n)); omega)
      rw [if_pos ht, h1, h2]
      simp only [wtF]; omega
    · rename_i ht; omega
theorem szF_wt : ∀ f : F, szF f ≤ wtF f
  | .nil => Nat.le_refl _
  | .cons n k r => by
    have := szF_wt k
    have := szF_wt r
    simp only [szF, wtF, cost]; omega
theorem F.len_sz : ∀ f : F, f.len ≤ szF f
  | .nil => Nat.le_refl _
  | .cons n k r => by
    have := F.len_sz r
    simp only [szF, F.len]; omega
/-- Behind a call: the one cell of block g holds x; nothing else that was there has turned. -/
def RetG (v : Value) (g : Nat) (x : Int) (T : TypeId) (w : World) (e : Ending) (w' : World) : Prop :=
  e = .returned v ∧ w'.heap[g]? = some (.cells #[.int .i64 x] T (0, 0)) ∧ w.grownBy w' (some g) ∧ w'.heap.size ≥ w.heap.size
def GrC (n : Nd) (k : F) : Prop := ∀ (t : Nat) (v : Value) (w : World) (g : Nat) (T : TypeId), t ≤ 2500 → w.heap[g]? = some (.cells #[.int .i64 (t : Int)] T (0, 0)) → Vo w (fun b => b < w.heap.size ∧ b ≠ g) n k v →
  Calls Try.prog 24 #[v, .pointer (some ⟨g, 0, none⟩)] w (RetG (.bool (decide ((2500 : Int) < (grF k (t + cost n) : Nat)))) g (grF k (t + cost n) : Nat) T w)
set_option maxRecDepth 100000 in
set_option maxHeartbeats 1600000 in
theorem great_any (n : Nd) (k : F) : GrC n k := by
  refine F.node (C := GrC) ?_ n k
  clear n k
  intro n k ih t v w g T ht hg hv
  obtain ⟨An, cn, Ak, ck, rfl, hok, h1, h2, hn, hk⟩ := hv
  have hbx := boxw_eq w n An cn Ak k.len ck
  have hb0 := boxw_below w n An cn Ak k.len ck
  have hz0 := boxw_size w n An cn Ak k.len ck
  have hs6 := boxw_six w n An cn Ak k.len ck
  have hgl : g < w.heap.size := (Array.getElem?_eq_some_iff.1 hg).1
  generalize boxw w n An cn Ak k.len ck = Wb at *
  have hgb : Wb.heap[g]? = some (.cells #[.int .i64 (t : Int)] T (0, 0)) := (hb0.block g hgl).trans hg
  have cg : Wb.cell? ⟨g, 0, none⟩ = some (.int .i64 (t : Int)) := by rw [cell_of_row Wb g 0 _ T (0, 0) hgb]; rfl
  have fg : Wb.frozen? ⟨g, 0, none⟩ = false := frozen_of_row Wb g 0 _ T hgb
  have IH : Hid (∀ i m j, k.get i = some (m, j) → GrC m j) := ih
  have HZ := Lib.hid hz0
  have HS6 := Lib.hid hs6
  obtain ⟨x0, x1, x2, x3, x4, x5⟩ := hs6
  have hsz := str_sz n.text
  obtain ⟨_, _, _, hok4, _⟩ := hok
  obtain ⟨hk1, hk2⟩ := h2
  obtain ⟨hn1, hn2⟩ := h1
  clear hn ih hz0
  unfold ncells
  go_enter Try.func24, Try.ntmps24
  go_wp2_with fail
  have HX : Hid ((t : Int) + 1 + (n.text.length : Int) / 20 + (n.names.length : Int) = ((t + cost n : Nat) : Int)) := by show _ = _; unfold cost; omega
  go_still_tail 15, (by kernel_rfl)
  go_wp2_with fail
  rw [HX.out]
  generalize hx : t + cost n = x at *
  obtain ⟨W1, hW1⟩ : ∃ W1, (Wb.setCell ⟨g, 0, none⟩ (.int .i64 (x : Int))).drew = W1 := ⟨_, rfl⟩
  have g1 : Wb.grownBy W1 (some g) := by rw [← hW1]; exact gb_drew (gb_set _ _ _ _)
  have o1 : W1.heap[g]? = some (.cells #[.int .i64 (x : Int)] T (0, 0)) := by rw [← hW1]; exact one_setCell hgb
  rw [hW1]
  clear hW1 hbx
  have G1 : w.grownBy W1 (some g) := gb_trans (gb_below hb0 _) g1
  have S1 := (unhide HS6).grown g1 (by omega)
  clear x0 x1 x2 x3 x4 x5 cg fg
  have HR : Hid (grF k x = grF (k.drop 0) x) := by show _ = _; rw [F.drop0]
  go_loopw [5] (fun s5 wr => ∃ (j y : Nat), j ≤ k.len ∧ s5 = .int .i64 j ∧ Hid (grF k x = grF (k.drop j) y) ∧ wr.heap[g]? = some (.cells #[.int .i64 (y : Int)] T (0, 0)) ∧ w.grownBy wr (some g) ∧ Six0 wr w.heap.size n An cn Ak k.len ck) (fun s5 _ => k.len - (intOf s5).toNat)
  case atStart => exact ⟨0, x, Nat.zero_le _, rfl, HR.out, o1, G1, S1⟩
  case round =>
    obtain ⟨j, y, hj, rfl, HJ, oj, Gj, Sj⟩ := hrel
    have HSj := Lib.hid Sj
    obtain ⟨z0, z1, z2, z3, z4, z5⟩ := Sj
    have cy := cell_of_one oj
    have HO := Lib.hid oj
    clear oj
    by_cases hlt : j < k.len
    · by_cases hy : y ≤ 2500
      · obtain ⟨m, q, hgt⟩ := F.get_lt k j hlt
        have hGz := Gj.size
        obtain ⟨b, off, Bn, dn, Bk, dk, rfl, hS, ⟨u0, u1, u2, u3, u4, u5⟩, hvk⟩ := (hk.keep (w' := wr) (S' := fun b => b < wr.heap.size ∧ b ≠ g) (fun b hbb => Gj.block b hbb.1 (fun e => hbb.2 (by injection e))) (fun b hbb => ⟨Nat.lt_of_lt_of_le hbb.1 hGz, hbb.2⟩)).at_ hgt hlt
        have HD : Hid (grF k x = grF (k.drop (j + 1)) (grF q (y + cost m))) := by show _ = _; rw [HJ.out, grF_drop hgt, if_pos hy]
        have HI : Hid (GrC m q) := (unhide IH) j m q hgt
        have HV := Lib.hid hvk
        have q1 : ((y : Int) ≤ 2500) := by omega
        clear hvk HJ hS
        go_wp2_with fail
        refine ((unhide HI) y _ _ g T hy HO.out HV.out).mono ?_
        rintro e w2 ⟨rfl, o2, G2, _⟩
        have S2 := (unhide HSj).grown G2 (by omega)
        have G3 := gb_trans Gj G2
        clear G2 HO cy
        generalize grF q (y + cost m) = y2 at *
        go_wp2_with fail
        go_roundw
        case rel => exact ⟨j + 1, y2, by omega, by go_num, HD.out, o2, G3, S2⟩
        case measure => simp [intOf]; omega
      · have HD : Hid (grF k x = y) := by show _ = _; rw [HJ.out, grF_over _ (by omega)]
        clear HJ
        have q1 : ¬ ((y : Int) ≤ 2500) := by omega
        go_wp2_with fail
        go_ret
        exact ⟨ret_bo (by rw [HD.out]; simp; omega), by rw [HD.out]; exact HO.out, Gj, Gj.size⟩
    · have HD : Hid (grF k x = y) := by show _ = _; rw [HJ.out, F.drop_len k j (by omega)]; rfl
      clear HJ
      go_wp2_with fail
      go_ret
      exact ⟨ret_bo (by rw [HD.out]), by rw [HD.out]; exact HO.out, Gj, Gj.size⟩
/-- Are the values of a forest more than is looked at? -/
def heavyF (f : F) : Bool := decide ((2500 : Int) < (grF f 0 : Nat))
theorem heavyF_wt {f : F} (h : heavyF f = false) : wtF f ≤ 2500 := by
  have h1 : grF f 0 ≤ 2500 := by unfold heavyF at h; have := of_decide_eq_false h; omega
  have := grF_wt f 0 h1
  omega
set_option maxRecDepth 100000 in
set_option maxHeartbeats 1600000 in
theorem heavy_any (A : Option Addr) (f : F) (c : Nat) (w : World) (hc : okl f.len c) (hk : Kids w (· < w.heap.size) A f) :
    Calls Try.prog 7 #[.slice A f.len c] w (Ret (.bool (heavyF f)) w) := by
  obtain ⟨hk1, hk2⟩ := hc
  have HH : Hid (heavyF f = decide ((2500 : Int) < (grF f 0 : Nat))) := rfl
  generalize hB : w.alloc (.cells #[.int .i64 0] 3) = Wb
  have hg : Wb.heap[w.heap.size]? = some (.cells #[.int .i64 ((0 : Nat) : Int)] 3 (0, 0)) := by rw [← hB]; exact heap_alloc_new w _
  have hb0 : Below w.heap.size w Wb := by rw [← hB]; exact (Below.refl _ _).alloc (Nat.le_refl _) _
  have HR : Hid (grF f 0 = grF (f.drop 0) 0) := by show _ = _; rw [F.drop0]
  have cg := cell_of_one hg
  have fg := free_of_one hg
  have hs0 : Hid (Wb.heap.size = w.heap.size + 1) := by show _ = _; rw [← hB]; simp
  have HG := Lib.hid hg
  clear hg
  go_enter Try.func7, Try.ntmps7
  go_wp2_with fail
  clear hB cg fg
  generalize hgs : w.heap.size = g at *
  obtain ⟨W1, hW1⟩ : ∃ W1, (Wb.setCell ⟨g, 0, none⟩ (.int .i64 0)) = W1 := ⟨_, rfl⟩
  have o1 : W1.heap[g]? = some (.cells #[.int .i64 ((0 : Nat) : Int)] 3 (0, 0)) := by rw [← hW1]; exact one_setCell HG.out
  have b1 : Below w.heap.size w W1 := by rw [← hW1, hgs]; exact hb0.setCell (Nat.le_refl _) _
  have z1 : g < W1.heap.size := (Array.getElem?_eq_some_iff.1 o1).1
  rw [hW1]
  clear hW1 HG hb0 hs0
  have HGS := Lib.hid hgs
  have b1 := Lib.hid b1
  clear hgs
  go_loopw [4] (fun s4 wr => ∃ (j y : Nat), j ≤ f.len ∧ y ≤ 2500 ∧ s4 = .int .i64 j ∧ Hid (grF f 0 = grF (f.drop j) y) ∧ wr.heap[g]? = some (.cells #[.int .i64 (y : Int)] 3 (0, 0)) ∧ Below g w wr) (fun s4 _ => f.len - (intOf s4).toNat)
  case atStart => exact ⟨0, 0, Nat.zero_le _, by omega, rfl, HR.out, o1, by rw [← HGS.out]; exact b1.out⟩
  case round =>
    obtain ⟨j, y, hj, hy, rfl, HJ, oj, Bj⟩ := hrel
    have HO := Lib.hid oj
    have hzr : g < wr.heap.size := (Array.getElem?_eq_some_iff.1 oj).1
    clear oj
    by_cases hlt : j < f.len
    · obtain ⟨m, q, hgt⟩ := F.get_lt f j hlt
      obtain ⟨b, off, Bn, dn, Bk, dk, rfl, hS, ⟨u0, u1, u2, u3, u4, u5⟩, hvk⟩ := (hk.keep (w' := wr) (S' := fun b => b < wr.heap.size ∧ b ≠ g) (fun b hbb => Bj.block b hbb) (fun b hbb => ⟨by have : b < g := hbb; omega, by have : b < g := hbb; omega⟩)).at_ hgt hlt
      have HD : Hid (grF f 0 = grF (f.drop (j + 1)) (grF q (y + cost m))) := by show _ = _; rw [HJ.out, grF_drop hgt, if_pos hy]
      have HI : Hid (GrC m q) := great_any m q
      have HV := Lib.hid hvk
      clear hvk HJ hS
      go_wp2_with fail
      refine ((unhide HI) y _ _ g _ hy HO.out HV.out).mono ?_
      rintro e w2 ⟨rfl, o2, G2, _⟩
      have B2 : Below g w w2 := ⟨G2.os.trans Bj.os, G2.tape.trans Bj.tape, G2.output.trans Bj.output, Nat.le_trans Bj.size G2.size, fun i hi => (G2.block i (by omega) (fun e => by injection e with e; omega)).trans (Bj.block i hi)⟩
      clear G2 HO Bj
      generalize grF q (y + cost m) = y2 at *
      by_cases hy2 : y2 ≤ 2500
      · have q1 : ¬ ((2500 : Int) < (y2 : Int)) := by omega
        have q2 : decide ((2500 : Int) < (y2 : Int)) = false := decide_eq_false q1
        go_wp2_with fail
        go_roundw
        case rel => exact ⟨j + 1, y2, by omega, hy2, by go_num, HD.out, o2, B2⟩
        case measure => simp [intOf]; omega
      · have q1 : ((2500 : Int) < (y2 : Int)) := by omega
        have q2 : decide ((2500 : Int) < (y2 : Int)) = true := decide_eq_true q1
        go_wp2_with fail
        go_ret
        exact ⟨ret_bo (by rw [HH.out, HD.out, grF_over _ (by omega)]; exact q2.symm), by rw [HGS.out]; exact B2⟩
    · have HD : Hid (grF f 0 = y) := by show _ = _; rw [HJ.out, F.drop_len f j (by omega)]; rfl
      clear HJ
      go_wp2_with fail
      go_ret
      exact ⟨ret_bo (by rw [HH.out, HD.out]; exact (decide_eq_false (by omega)).symm), by rw [HGS.out]; exact Bj⟩
end Go.Proofs.Ytfcbcbpnlnkpcaa
