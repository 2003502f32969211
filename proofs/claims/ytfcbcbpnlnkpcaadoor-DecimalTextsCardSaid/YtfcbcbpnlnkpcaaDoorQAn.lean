/- The answers of decimal and scrivenerref6 in one form; a box that holds one. -/
import Derived.Test.YtfcbcbpnlnkpcaaDoorQDecAdd
import Derived.Test.YtfcbcbpnlnkpcaaDoorQEqual
namespace Go.Proofs.YtfcbcbpnlnkpcaaDoor
set_option linter.all false
open Go.RowKit
def zN : Nd := ⟨0, 0, 0, [], []⟩
def plainN (r : Nd) : Prop := r.names = [] ∧ r.text = [] ∧ r.ok
def aN (o : Option Nd) : Nd := o.getD zN
def aE (o : Option Nd) : Int := if o.isSome then 0 else 10
def vans (R : Nd × Int) : Value := .tuple #[numv R.1, .int .i64 R.2]
theorem ansv_vans (o : Option Nd) : ansv o = vans (aN o, aE o) := by cases o <;> rfl
theorem ansE_vans : ansE = vans (zN, 11) := rfl
theorem zN_plain : plainN zN := ⟨rfl, rfl, ⟨by decide, by decide⟩, ⟨by decide, by decide⟩, ⟨by decide, by decide⟩, by simp [zN], by simp [zN]⟩
theorem num_plain {n : Nd} (h : isNum n) : plainN n := ⟨h.1, h.2.1, num_ok h⟩
theorem leastP_num {M : Int} {s : Nat} {n : Nd} (h : leastP M s = some n) : isNum n := by
  unfold leastP at h
  split at h
  · rename_i hf
    have h3 := red_mod s M
    generalize red s M = p at *
    obtain ⟨m, t⟩ := p
    simp only [fits, Bool.and_eq_true, decide_eq_true_eq] at hf
    simp only [Option.some.injEq] at h
    simp only at h3
    subst h
    unfold nodeOf
    split
    · exact ⟨rfl, rfl, ⟨hf.1.2, hf.2⟩, .inl ⟨rfl, rfl⟩⟩
    · refine ⟨rfl, rfl, ⟨hf.1.2, hf.2⟩, .inr ⟨rfl, ?_, ?_, ?_⟩⟩
      · simp only; omega
      · simp only; omega
      · rcases h3 with h3 | h3
        · omega
        · exact h3
  · cases h
theorem aN_plain (M : Int) (s : Nat) : plainN (aN (leastP M s)) := by
  cases h : leastP M s with
  | none => exact zN_plain
  | some n => exact num_plain (leastP_num h)
/-- What the functions answer. -/
def lsR (M : Int) (s : Nat) : Nd × Int := (aN (leastP M s), aE (leastP M s))
def makeR (n s : Int) : Nd × Int := if s < 0 then (zN, 10) else lsR n s.toNat
def addR (n : Nd) (k : F) (m : Nd) (q : F) : Nd × Int := if (numB n k && numB m q) = true then lsR (vN n + vN m) 18 else (zN, 11)
def subR (n : Nd) (k : F) (m : Nd) (q : F) : Nd × Int := if (numB n k && numB m q) = true then lsR (vN n - vN m) 18 else (zN, 11)
def mulR (n : Nd) (k : F) (m : Nd) (q : F) : Nd × Int := if (numB n k && numB m q) = true then lsR (vN n * vN m) 36 else (zN, 11)
theorem lsR_plain (M : Int) (s : Nat) : plainN (lsR M s).1 := aN_plain M s
theorem makeR_plain (n s : Int) : plainN (makeR n s).1 := by unfold makeR; split; exact zN_plain; exact lsR_plain _ _
theorem addR_plain (n : Nd) (k : F) (m : Nd) (q : F) : plainN (addR n k m q).1 := by unfold addR; split; exact lsR_plain _ _; exact zN_plain
theorem subR_plain (n : Nd) (k : F) (m : Nd) (q : F) : plainN (subR n k m q).1 := by unfold subR; split; exact lsR_plain _ _; exact zN_plain
theorem mulR_plain (n : Nd) (k : F) (m : Nd) (q : F) : plainN (mulR n k m q).1 := by unfold mulR; split; exact lsR_plain _ _; exact zN_plain
theorem vans_ls (M : Int) (s : Nat) (C : Prop) [Decidable C] : (if C then ansv (leastP M s) else ansE) = vans (if C then lsR M s else (zN, 11)) := by
  split
  · exact ansv_vans _
  · rfl
theorem addR_any (n : Nd) (k : F) (m : Nd) (q : F) (v u : Value) (w : World) (hv : Vo w (· < w.heap.size) n k v) (hu : Vo w (· < w.heap.size) m q u) :
    Calls Tryd.prog 15 #[v, u] w (Ret (vans (addR n k m q)) w) := by
  have h := Add_any n k m q v u w hv hu
  rw [vans_ls] at h
  exact h
/-- An answer is a value. -/
theorem plain_vo {r : Nd} (h : plainN r) (w : World) (S : Nat → Prop) : Vo w S r .nil (numv r) := by
  have h1 := h.1
  have h2 := h.2.1
  refine ⟨none, 0, none, 0, ?_, h.2.2, ⟨by rw [h1]; simp, by rw [h1]; simp⟩, ⟨by simp [F.len], by simp [F.len]⟩, ⟨by rw [h1]; simp, fun hh => absurd hh (by rw [h1]; simp)⟩, [], ⟨by simp [F.len], fun hh => absurd hh (by simp [F.len])⟩, rfl⟩
  simp [numv, ncells, h1, F.len]
theorem numv_cells {r : Nd} (h : plainN r) : numv r = .agg (ncells r none 0 none F.nil.len 0).toArray := by simp [numv, ncells, h.1, F.len]
/-- A box that is made and written whole. -/
theorem St.put {w wr : World} {L : List BP} (h : St w L wr) {r : Nd} (hr : plainN r) :
    St w (L ++ [⟨wr.heap.size, r, .nil, none, 0, none, 0⟩]) (((((((wr.alloc (.cells #[.int .i64 0, .int .i64 0, .int .i64 0, .string ⟨#[]⟩, .slice none 0 0, .slice none 0 0] 25)).setCell ⟨wr.heap.size, 0, none⟩ (.int .i64 r.kind)).setCell ⟨wr.heap.size, 1, none⟩ (.int .i64 r.int)).setCell ⟨wr.heap.size, 2, none⟩ (.int .i64 r.scale)).setCell ⟨wr.heap.size, 3, none⟩ (.string (str r.text))).setCell ⟨wr.heap.size, 4, none⟩ (.slice none 0 0)).setCell ⟨wr.heap.size, 5, none⟩ (.slice none 0 0)) := by
  have hb : Below wr.heap.size wr (((((((wr.alloc (.cells #[.int .i64 0, .int .i64 0, .int .i64 0, .string ⟨#[]⟩, .slice none 0 0, .slice none 0 0] 25)).setCell ⟨wr.heap.size, 0, none⟩ (.int .i64 r.kind)).setCell ⟨wr.heap.size, 1, none⟩ (.int .i64 r.int)).setCell ⟨wr.heap.size, 2, none⟩ (.int .i64 r.scale)).setCell ⟨wr.heap.size, 3, none⟩ (.string (str r.text))).setCell ⟨wr.heap.size, 4, none⟩ (.slice none 0 0)).setCell ⟨wr.heap.size, 5, none⟩ (.slice none 0 0)) :=
    ((((((below_ra wr _).setCell (Nat.le_refl _) _).setCell (Nat.le_refl _) _).setCell (Nat.le_refl _) _).setCell (Nat.le_refl _) _).setCell (Nat.le_refl _) _).setCell (Nat.le_refl _) _
  refine h.snoc hb ⟨?_, ?_⟩
  · have e : (ncells r none 0 none F.nil.len 0).toArray = #[.int .i64 r.kind, .int .i64 r.int, .int .i64 r.scale, .string (str r.text), .slice none 0 0, .slice none 0 0] := by simp [ncells, hr.1, F.len]
    show Blk _ _ (ncells r none 0 none F.nil.len 0).toArray _
    rw [e]
    exact Blk.six_set (Blk.new wr _ _)
  · show Vo _ _ r .nil (.agg (ncells r none 0 none F.nil.len 0).toArray)
    rw [← numv_cells hr]
    exact plain_vo hr _ _
theorem St.put2 {w wr : World} {L : List BP} (h : St w L wr) {r : Nd} (hr : plainN r) :
    St w (L ++ [⟨wr.heap.size, r, .nil, none, 0, none, 0⟩]) (wr.alloc (.cells #[.int .i64 r.kind, .int .i64 r.int, .int .i64 r.scale, .string (str r.text), .slice none 0 0, .slice none 0 0] 25)) := by
  refine h.snoc (below_ra _ _) ⟨?_, ?_⟩
  · have e : (ncells r none 0 none F.nil.len 0).toArray = #[.int .i64 r.kind, .int .i64 r.int, .int .i64 r.scale, .string (str r.text), .slice none 0 0, .slice none 0 0] := by simp [ncells, hr.1, F.len]
    show Blk _ _ (ncells r none 0 none F.nil.len 0).toArray _
    rw [e]
    exact Blk.new wr _ _
  · show Vo _ _ r .nil (.agg (ncells r none 0 none F.nil.len 0).toArray)
    rw [← numv_cells hr]
    exact plain_vo hr _ _
/-- The six cells of an answer's box, as a walk reads them. -/
theorem St.six2 {w wr : World} {L : List BP} (h : St w L wr) (i : Nat) {g : Nat} {r : Nd} (hb : L[i]? = some ⟨g, r, .nil, none, 0, none, 0⟩) (hr : plainN r) :
    wr.cell? ⟨g, 0, none⟩ = some (.int .i64 r.kind) ∧ wr.cell? ⟨g, 1, none⟩ = some (.int .i64 r.int) ∧ wr.cell? ⟨g, 2, none⟩ = some (.int .i64 r.scale) ∧
    wr.cell? ⟨g, 3, none⟩ = some (.string (str r.text)) ∧ wr.cell? ⟨g, 4, none⟩ = some (.slice none 0 0) ∧ wr.cell? ⟨g, 5, none⟩ = some (.slice none 0 0) := by
  have h6 := h.six i hb
  unfold Six0 at h6
  simpa [hr.1, F.len] using h6
end Go.Proofs.YtfcbcbpnlnkpcaaDoor
/- decimal.Make. -/
namespace Go.Proofs.YtfcbcbpnlnkpcaaDoor
set_option linter.all false
open Go.RowKit
set_option maxRecDepth 100000 in
set_option maxHeartbeats 1600000 in
theorem make_any (n s : Int) (hn : I64 n) (hs : I64 s) (w : World) :
    Calls Tryd.prog 10 #[.int .i64 n, .int .i64 s] w (Ret (vans (makeR n s)) w) := by
  have rb : Blk (w.alloc (.cells #[.int .i64 0, .int .i64 0, .int .i64 0, .string ⟨#[]⟩, .slice none 0 0, .slice none 0 0] 25)) w.heap.size #[.int .i64 0, .int .i64 0, .int .i64 0, .string ⟨#[]⟩, .slice none 0 0, .slice none 0 0] 25 := Blk.new _ _ _
  have bw := below_ra w (.cells #[.int .i64 0, .int .i64 0, .int .i64 0, .string ⟨#[]⟩, .slice none 0 0, .slice none 0 0] 25)
  generalize hW : w.alloc (.cells #[.int .i64 0, .int .i64 0, .int .i64 0, .string ⟨#[]⟩, .slice none 0 0, .slice none 0 0] 25) = W at *
  have RB := Lib.hid rb
  have BW := Lib.hid bw
  clear rb bw
  by_cases hneg : s < 0
  · have HV : Hid (vans (makeR n s) = .tuple #[.agg #[.int .i64 0, .int .i64 0, .int .i64 0, .string ⟨#[]⟩, .slice none 0 0, .slice none 0 0], .int .i64 10]) := by show _ = _; unfold makeR; rw [if_pos hneg]; rfl
    generalize vans (makeR n s) = V at *
    have p0 : W.cell? ⟨w.heap.size, 0, none⟩ = some (.int .i64 0) := RB.out.cell 0
    have q_0 := RB.out.free 0
    have p1 : W.cell? ⟨w.heap.size, 1, none⟩ = some (.int .i64 0) := RB.out.cell 1
    have q_1 := RB.out.free 1
    have p2 : W.cell? ⟨w.heap.size, 2, none⟩ = some (.int .i64 0) := RB.out.cell 2
    have q_2 := RB.out.free 2
    have p3 : W.cell? ⟨w.heap.size, 3, none⟩ = some (.string ⟨#[]⟩) := RB.out.cell 3
    have q_3 := RB.out.free 3
    have p4 : W.cell? ⟨w.heap.size, 4, none⟩ = some (.slice none 0 0) := RB.out.cell 4
    have q_4 := RB.out.free 4
    have p5 : W.cell? ⟨w.heap.size, 5, none⟩ = some (.slice none 0 0) := RB.out.cell 5
    have q_5 := RB.out.free 5
    go_enter Tryd.func10, Tryd.ntmps10
    go_wp2_with fail
    exact ret6 Tryd.results10 rfl rfl RB.out (Nat.le_refl _) BW.out HV.out
  · have HV : Hid (vans (makeR n s) = ansv (leastP n s.toNat)) := by show _ = _; unfold makeR; rw [if_neg hneg, ansv_vans]; rfl
    have HX : Hid (∃ O : Value, WideIs O n ∧ ∀ w, Calls Tryd.prog 31 #[.int .i64 n, .int .i64 0] w (Ret O w)) := by
      obtain ⟨O, h1, _, h2⟩ := of_wide n hn 0 (by decide) (by decide)
      exact ⟨O, by simpa using h1, h2⟩
    obtain ⟨O, hO, ho⟩ := HX.out
    have HO := Lib.hid ho
    have HL : Hid (∀ w, Calls Tryd.prog 32 #[O, .int .i64 s] w (Ret (ansv (leastP n s.toNat)) w)) := fun w => by
      have h := least_any O n hO s.toNat (by have := hs.2; omega) w
      rw [show ((s.toNat : Nat) : Int) = s from by omega] at h
      exact h
    obtain ⟨x0, x1, x2, xs, ee, hform⟩ := ansv_form (leastP n s.toNat)
    rw [hform] at HV HL
    generalize vans (makeR n s) = V at *
    clear hform HX hO ho
    go_enter Tryd.func10, Tryd.ntmps10
    go_wp2_with fail
    refine (HO.out _).mono ?_
    rintro e w8 ⟨rfl, b8⟩
    go_wp2_with fail
    refine (HL.out _).mono ?_
    rintro e w9 ⟨rfl, b9⟩
    have b89 := bseq b8 b9
    have R9 : Hid (Blk w9 w.heap.size #[.int .i64 0, .int .i64 0, .int .i64 0, .string ⟨#[]⟩, .slice none 0 0, .slice none 0 0] 25) := RB.out.below b89 RB.out.lt
    have B9 : Hid (Below w.heap.size w w9) := BW.out.trans (b89.mono BW.out.size)
    have p0 : w9.cell? ⟨w.heap.size, 0, none⟩ = some (.int .i64 0) := R9.out.cell 0
    have q_0 := R9.out.free 0
    have p1 : w9.cell? ⟨w.heap.size, 1, none⟩ = some (.int .i64 0) := R9.out.cell 1
    have q_1 := R9.out.free 1
    have p2 : w9.cell? ⟨w.heap.size, 2, none⟩ = some (.int .i64 0) := R9.out.cell 2
    have q_2 := R9.out.free 2
    have p3 : w9.cell? ⟨w.heap.size, 3, none⟩ = some (.string ⟨#[]⟩) := R9.out.cell 3
    have q_3 := R9.out.free 3
    have p4 : w9.cell? ⟨w.heap.size, 4, none⟩ = some (.slice none 0 0) := R9.out.cell 4
    have q_4 := R9.out.free 4
    have p5 : w9.cell? ⟨w.heap.size, 5, none⟩ = some (.slice none 0 0) := R9.out.cell 5
    have q_5 := R9.out.free 5
    clear b8 b9 b89
    go_wp2_with fail
    exact ret6 Tryd.results10 rfl rfl R9.out (Nat.le_refl _) B9.out HV.out
end Go.Proofs.YtfcbcbpnlnkpcaaDoor
/- scrivenerlaw6.got, of one answer twice; scrivenerlaw6.plain. -/
namespace Go.Proofs.YtfcbcbpnlnkpcaaDoor
set_option linter.all false
open Go.RowKit
theorem eq_self {r : Nd} (hr : plainN r) (w : World) : Calls Tryd.prog 17 #[numv r, numv r] w (Ret (.bool true) w) := by
  have h := eq_any r .nil r .nil (numv r) (numv r) w (plain_vo hr _ _) (plain_vo hr _ _)
  rw [eqV_iff.2 ⟨rfl, rfl⟩] at h
  exact h
set_option maxRecDepth 100000 in
set_option maxHeartbeats 1600000 in
theorem got_same {r : Nd} (hr : plainN r) (e : Int) (w : World) : Calls Tryd.prog 12 #[numv r, .int .i64 e, numv r, .int .i64 e] w (Ret (.bool true) w) := by
  have HE : Hid (∀ w, Calls Tryd.prog 17 #[.agg #[.int .i64 r.kind, .int .i64 r.int, .int .i64 r.scale, .string (str r.text), .slice none 0 0, .slice none 0 0], .agg #[.int .i64 r.kind, .int .i64 r.int, .int .i64 r.scale, .string (str r.text), .slice none 0 0, .slice none 0 0]] w (Ret (.bool true) w)) := fun w => eq_self hr w
  unfold numv
  have HR := Lib.hid hr
  clear hr
  go_enter Tryd.func12, Tryd.ntmps12
  go_wp2_with fail
  refine (HE.out _).mono ?_
  rintro e1 w1 ⟨rfl, b1⟩
  have B1 : Hid (Below w.heap.size w w1) := (((Below.refl _ _).alloc (Nat.le_refl _) _).alloc (by simp) _).trans (b1.mono (by simp; omega))
  clear b1
  have q1 : (e == e) = true := by simp
  go_wp2_with fail
  go_ret
  exact ⟨rfl, B1.out⟩
end Go.Proofs.YtfcbcbpnlnkpcaaDoor
