/- The law's spoilt: a value's rows are written over, in the blocks of S alone; every value whose rows lie in S may still be written over. -/
import Derived.Test.YtfcbcbpnlnkpcaaQDp
import Derived.LoopTactic
namespace Go.Proofs.Ytfcbcbpnlnkpcaa
set_option linter.all false
open Go.RowKit
def Soft (S : Nat → Prop) (w w' : World) : Prop :=
  w'.os = w.os ∧ w'.tape = w.tape ∧ w'.output = w.output ∧ w.heap.size ≤ w'.heap.size ∧ (∀ b, b < w.heap.size → ¬ S b → w'.heap[b]? = w.heap[b]?) ∧ ∀ d cs, Dp S w d cs → Dp S w' d cs
theorem Soft.refl (S : Nat → Prop) (w : World) : Soft S w w := ⟨rfl, rfl, rfl, Nat.le_refl _, fun _ _ _ => rfl, fun _ _ h => h⟩
theorem Soft.trans {S : Nat → Prop} {w w1 w2 : World} (h : Soft S w w1) (k : Soft S w1 w2) : Soft S w w2 :=
  ⟨k.1.trans h.1, k.2.1.trans h.2.1, k.2.2.1.trans h.2.2.1, Nat.le_trans h.2.2.2.1 k.2.2.2.1, fun b hb hS => (k.2.2.2.2.1 b (Nat.lt_of_lt_of_le hb h.2.2.2.1) hS).trans (h.2.2.2.2.1 b hb hS), fun d cs hd => k.2.2.2.2.2 d cs (h.2.2.2.2.2 d cs hd)⟩
theorem Soft.below {S : Nat → Prop} {w w' : World} (hS : ∀ b, S b → b < w.heap.size) (h : Below w.heap.size w w') : Soft S w w' :=
  ⟨h.os, h.tape, h.output, h.size, fun b hb _ => h.block b hb, fun d cs hd => Dp.keep (fun b hb => h.block b (hS b hb)) (fun _ h => h) d cs hd⟩
theorem Soft.blk {S : Nat → Prop} {w w' : World} {g : Nat} {cs : Array Value} {T : TypeId} (h : Soft S w w') (hb : Blk w g cs T) (hg : ¬ S g) : Blk w' g cs T := (h.2.2.2.2.1 g hb.lt hg).trans hb
/-- One block is turned whose values stay what they are taken for. -/
theorem soft_set {S : Nat → Prop} {w w' : World} {g : Nat} {cur cur' : Array Value} {T : TypeId} (hS : S g) (hg : Blk w g cur T) (hg' : Blk w' g cur' T) (ho : ∀ b, b ≠ g → w'.heap[b]? = w.heap[b]?) (h1 : w'.os = w.os) (h2 : w'.tape = w.tape) (h3 : w'.output = w.output) (h4 : w.heap.size ≤ w'.heap.size)
    (hn : T = 9 → ∀ (j : Nat) (s : ByteArray), cur[j]? = some (Value.string s) → ∃ s' : ByteArray, cur'[j]? = some (Value.string s'))
    (hk : T = 25 → cur.size ≤ cur'.size ∧ ∀ i, chunk cur'.toList i = chunk cur.toList i ∨ (∀ d, Dp S w' (d + 1) (chunk cur'.toList i))) : Soft S w w' := by
  refine ⟨h1, h2, h3, h4, fun b _ hb => ho b (fun e => hb (e ▸ hS)), fun d => ?_⟩
  induction d with
  | zero => exact fun cs h => h
  | succ d ih =>
    intro cs h
    obtain ⟨a, b, c, s, An, nn, cn, Ak, kk, ck, e, k1, k2, k3, k4⟩ := h
    refine ⟨a, b, c, s, An, nn, cn, Ak, kk, ck, e, k1, k2, fun hnn => ?_, fun hkk => ?_⟩
    · obtain ⟨q, cu, e, hq, hh, hc⟩ := k3 hnn
      by_cases hqg : q = g
      · subst hqg
        have hT : cu = cur ∧ 9 = T := by
          have := hh.symm.trans hg
          injection this with this
          injection this with a1 a2
          exact ⟨a1, a2⟩
        obtain ⟨rfl, rfl⟩ := hT
        refine ⟨q, cur', e, hq, hg', fun j hj => ?_⟩
        obtain ⟨s, hs⟩ := hc j hj
        exact hn rfl j s hs
      · exact ⟨q, cu, e, hq, (ho q hqg).trans hh, hc⟩
    · obtain ⟨q, cu, e, hq, hh, hc, hd⟩ := k4 hkk
      by_cases hqg : q = g
      · subst hqg
        have hT : cu = cur ∧ 25 = T := by
          have := hh.symm.trans hg
          injection this with this
          injection this with a1 a2
          exact ⟨a1, a2⟩
        obtain ⟨rfl, rfl⟩ := hT
        refine ⟨q, cur', e, hq, hg', Nat.le_trans hc (hk rfl).1, fun i hi => ?_⟩
        rcases (hk rfl).2 i with h | h
        · rw [h]; exact ih _ (hd i hi)
        · cases d with
          | zero => exact (hd i hi).elim
          | succ d => exact h d
      · exact ⟨q, cu, e, hq, (ho q hqg).trans hh, hc, fun i hi => ih _ (hd i hi)⟩
theorem blank_dp (S : Nat → Prop) (w : World) (a : Int) (d : Nat) : Dp S w (d + 1) [.int .i64 a, .int .i64 0, .int .i64 0, .string ⟨#[]⟩, .slice none 0 0, .slice none 0 0] :=
  ⟨_, _, _, _, none, 0, 0, none, 0, 0, rfl, ⟨by omega, by omega, by omega⟩, ⟨by omega, by omega, by omega⟩, fun h => absurd h (by omega), fun h => absurd h (by omega)⟩
theorem chunk_get {xs : List Value} {i p : Nat} : (chunk xs i)[p]? = if p < 6 then xs[i * 6 + p]? else none := by
  unfold chunk
  rw [List.getElem?_take]
  split
  · rw [List.getElem?_drop]
  · rfl
theorem chunk_set {cur : Array Value} {j q i : Nat} {v : Value} (hq : q < 6) (h : i ≠ j) : chunk (cur.setIfInBounds (j * 6 + q) v).toList i = chunk cur.toList i := by
  refine List.ext_getElem? fun p => ?_
  rw [chunk_get, chunk_get]
  split
  · rw [Array.getElem?_toList, Array.getElem?_toList, Array.getElem?_setIfInBounds_ne (by omega)]
  · rfl
theorem chunk_six {xs : List Value} {i : Nat} {v0 v1 v2 v3 v4 v5 : Value} (h : chunk xs i = [v0, v1, v2, v3, v4, v5]) : xs[i * 6]? = some v0 ∧ xs[i * 6 + 1]? = some v1 ∧ xs[i * 6 + 2]? = some v2 ∧ xs[i * 6 + 3]? = some v3 ∧ xs[i * 6 + 4]? = some v4 ∧ xs[i * 6 + 5]? = some v5 := by
  have f := fun p (hp : p < 6) => (chunk_get (xs := xs) (i := i) (p := p)).symm.trans (by rw [h] : _ = ([v0, v1, v2, v3, v4, v5] : List Value)[p]?)
  have g := fun p (hp : p < 6) => by have := f p hp; rw [if_pos hp] at this; exact this
  exact ⟨g 0 (by omega), g 1 (by omega), g 2 (by omega), g 3 (by omega), g 4 (by omega), g 5 (by omega)⟩
theorem chunk_put {cur : Array Value} {j : Nat} {v0 v1 v2 v3 v4 v5 : Value} (h : j * 6 + 6 ≤ cur.size) :
    chunk ((((((cur.setIfInBounds (j * 6) v0).setIfInBounds (j * 6 + 1) v1).setIfInBounds (j * 6 + 2) v2).setIfInBounds (j * 6 + 3) v3).setIfInBounds (j * 6 + 4) v4).setIfInBounds (j * 6 + 5) v5).toList j = [v0, v1, v2, v3, v4, v5] := by
  refine List.ext_getElem? fun p => ?_
  rw [chunk_get]
  split
  · rename_i hp
    rw [Array.getElem?_toList]
    obtain rfl | rfl | rfl | rfl | rfl | rfl : p = 0 ∨ p = 1 ∨ p = 2 ∨ p = 3 ∨ p = 4 ∨ p = 5 := by omega
    all_goals simp [Array.getElem?_setIfInBounds, show j * 6 < cur.size by omega, show j * 6 + 1 < cur.size by omega, show j * 6 + 2 < cur.size by omega, show j * 6 + 3 < cur.size by omega, show j * 6 + 4 < cur.size by omega, show j * 6 + 5 < cur.size by omega]
  · rename_i hp
    rw [List.getElem?_eq_none (by simp; omega)]
/-- Behind a call without an answer. -/
def RetSoft (S : Nat → Prop) (w : World) (e : Ending) (w' : World) : Prop := e = .returned (.tuple #[]) ∧ Soft S w w'
def SpC (d : Nat) : Prop := ∀ (S : Nat → Prop) (cs : List Value) (w : World), (∀ b, S b → b < w.heap.size) → Dp S w d cs → Calls Try.prog 23 #[.agg cs.toArray] w (RetSoft S w)
theorem soft_name {S : Nat → Prop} {w : World} {g j : Nat} {cur : Array Value} {s : ByteArray} (hS : S g) (hg : w.heap[g]? = some (.cells cur 9 (0, 0))) : Soft S w (w.setCell ⟨g, j, none⟩ (.string s)) := by
  refine soft_set hS hg (Blk.set hg j _) (fun b hb => Below.heap_setCell _ _ _ _ hb) rfl rfl rfl (by simp) (fun _ i t ht => ?_) (fun h => absurd h (by decide))
  by_cases hij : j = i
  · subst hij
    have hlt := (Array.getElem?_eq_some_iff.1 ht).1
    exact ⟨s, by rw [Array.getElem?_setIfInBounds_self_of_lt hlt]⟩
  · exact ⟨t, by rw [Array.getElem?_setIfInBounds_ne hij]; exact ht⟩
theorem soft_kid {S : Nat → Prop} {w : World} {g j : Nat} {cur : Array Value} {a : Int} (hS : S g) (hg : w.heap[g]? = some (.cells cur 25 (0, 0))) (hj : j * 6 + 6 ≤ cur.size) :
    Soft S w ((((((w.setCell ⟨g, j * 6, none⟩ (.int .i64 a)).setCell ⟨g, j * 6 + 1, none⟩ (.int .i64 0)).setCell ⟨g, j * 6 + 2, none⟩ (.int .i64 0)).setCell ⟨g, j * 6 + 3, none⟩ (.string ⟨#[]⟩)).setCell ⟨g, j * 6 + 4, none⟩ (.slice none 0 0)).setCell ⟨g, j * 6 + 5, none⟩ (.slice none 0 0)) := by
  have hB := ((((((Blk.set hg (j * 6) (.int .i64 a)).set (j * 6 + 1) (.int .i64 0)).set (j * 6 + 2) (.int .i64 0)).set (j * 6 + 3) (.string ⟨#[]⟩)).set (j * 6 + 4) (.slice none 0 0)).set (j * 6 + 5) (.slice none 0 0))
  obtain ⟨W, hW⟩ : ∃ W, ((((((w.setCell ⟨g, j * 6, none⟩ (.int .i64 a)).setCell ⟨g, j * 6 + 1, none⟩ (.int .i64 0)).setCell ⟨g, j * 6 + 2, none⟩ (.int .i64 0)).setCell ⟨g, j * 6 + 3, none⟩ (.string ⟨#[]⟩)).setCell ⟨g, j * 6 + 4, none⟩ (.slice none 0 0)).setCell ⟨g, j * 6 + 5, none⟩ (.slice none 0 0)) = W := ⟨_, rfl⟩
  rw [hW] at hB ⊢
  have G : w.grownBy W (some g) := by rw [← hW]; exact gb_trans (gb_trans (gb_trans (gb_trans (gb_trans (gb_set _ _ _ _) (gb_set _ _ _ _)) (gb_set _ _ _ _)) (gb_set _ _ _ _)) (gb_set _ _ _ _)) (gb_set _ _ _ _)
  have p5 : ∀ b, b ≠ g → W.heap[b]? = w.heap[b]? := fun b hb => by
    rw [← hW]
    repeat rw [Below.heap_setCell _ _ _ _ hb]
  clear hW
  refine soft_set hS hg hB p5 G.os G.tape G.output G.size (fun h => absurd h (by decide)) (fun _ => ⟨by simp, fun i => ?_⟩)
  by_cases hij : i = j
  · subst hij
    right
    intro d
    rw [chunk_put hj]
    exact blank_dp _ _ _ _
  · left
    rw [chunk_set (by omega) hij, chunk_set (by omega) hij, chunk_set (by omega) hij, chunk_set (by omega) hij, chunk_set (by omega) hij, show j * 6 = j * 6 + 0 from rfl, chunk_set (by omega) hij]
set_option maxRecDepth 100000 in
set_option maxHeartbeats 1600000 in
theorem spoilt_any (d : Nat) : SpC d := by
  induction d with
  | zero => exact fun S cs w _ h => h.elim
  | succ d ih =>
    intro S cs w hS hd
    have HD : Hid (Dp S w (d + 1) cs) := hd
    have IH : Hid (SpC d) := ih
    have HSS : Hid (∀ b, S b → b < w.heap.size) := hS
    obtain ⟨a, b, c, s, An, nn, cn, Ak, kk, ck, rfl, k1, k2, k3, k4⟩ := hd
    clear k3 k4 ih hS
    generalize hW : w.alloc (.cells #[.int .i64 a, .int .i64 b, .int .i64 c, .string s, .slice An nn cn, .slice Ak kk ck] 25) = Wb
    have hbx : Blk Wb w.heap.size #[.int .i64 a, .int .i64 b, .int .i64 c, .string s, .slice An nn cn, .slice Ak kk ck] 25 := by rw [← hW]; exact Blk.new _ _ _
    have hsf : Hid (Soft S w Wb) := Soft.below HSS.out (by rw [← hW]; exact (Below.refl _ _).alloc (Nat.le_refl _) _)
    have HG : Hid (¬ S w.heap.size) := fun h => absurd (HSS.out _ h) (by omega)
    have HB := Lib.hid hbx
    clear hbx
    obtain ⟨k11, k12, k13⟩ := k1
    obtain ⟨k21, k22, k23⟩ := k2
    go_enter Try.func23, Try.ntmps23
    go_wp2_with fail
    clear hW
    go_loopw [2] (fun s2 wr => ∃ j : Nat, j ≤ nn ∧ s2 = .int .i64 j ∧ Hid (Soft S w wr) ∧ Hid (Blk wr w.heap.size #[.int .i64 a, .int .i64 b, .int .i64 c, .string s, .slice An nn cn, .slice Ak kk ck] 25)) (fun s2 _ => nn - (intOf s2).toNat)
    case atStart => exact ⟨0, Nat.zero_le _, rfl, hsf, HB⟩
    case round =>
      obtain ⟨j, hj, rfl, HSj, HBj⟩ := hrel
      have y4 : wr.cell? ⟨w.heap.size, 4, none⟩ = some (.slice An nn cn) := HBj.out.cell 4
      by_cases hlt : j < nn
      · have hdp := HSj.out.2.2.2.2.2 _ _ HD.out
        obtain ⟨_, _, _, _, An', nn', cn', Ak', kk', ck', e, _, _, k3, _⟩ := hdp
        simp only [List.cons.injEq, Value.slice.injEq, and_true] at e
        obtain ⟨_, _, _, _, ⟨rfl, rfl, rfl⟩, rfl, rfl, rfl⟩ := e
        obtain ⟨g, cur, rfl, hSg, hh, hc⟩ := k3 (by omega)
        obtain ⟨t, ht⟩ := hc j hlt
        have c1 : wr.cell? ⟨g, j, none⟩ = some (.string t) := (Blk.cell hh j).trans ht
        have c2 := Blk.free hh j
        have HN : Hid (∀ u, Soft S wr (wr.setCell ⟨g, j, none⟩ (.string u))) := fun u => soft_name hSg hh
        have HGg : Hid (S g) := hSg
        clear hh hc ht k3 hSg
        go_wp2_with fail
        go_roundw
        case rel => exact ⟨j + 1, by omega, by go_num, HSj.out.trans (HN.out _), (HN.out _).blk HBj.out HG.out⟩
        case measure => simp [intOf]; omega
      · go_wp2_with fail
        clear y4 hlt hj
        go_loopw [3] (fun s3 wq => ∃ j : Nat, j ≤ kk ∧ s3 = .int .i64 j ∧ Hid (Soft S w wq) ∧ Hid (Blk wq w.heap.size #[.int .i64 a, .int .i64 b, .int .i64 c, .string s, .slice An nn cn, .slice Ak kk ck] 25)) (fun s3 _ => kk - (intOf s3).toNat)
        case atStart => exact ⟨0, Nat.zero_le _, rfl, HSj, HBj⟩
        case round =>
          clear HSj HBj
          obtain ⟨i, hi, rfl, HSi, HBi⟩ := hrel
          have y5 : wr.cell? ⟨w.heap.size, 5, none⟩ = some (.slice Ak kk ck) := HBi.out.cell 5
          by_cases hlt : i < kk
          · have hdp := HSi.out.2.2.2.2.2 _ _ HD.out
            obtain ⟨_, _, _, _, An', nn', cn', Ak', kk', ck', e, _, _, _, k4⟩ := hdp
            simp only [List.cons.injEq, Value.slice.injEq, and_true] at e
            obtain ⟨_, _, _, _, ⟨rfl, rfl, rfl⟩, rfl, rfl, rfl⟩ := e
            obtain ⟨g, cur, rfl, hSg, hh, hc, hdd⟩ := k4 (by omega)
            have hdi := hdd i hlt
            have HDi := Lib.hid hdi
            obtain ⟨d', rfl⟩ : ∃ d', d = d' + 1 := by
              cases d with
              | zero => exact hdi.elim
              | succ d' => exact ⟨d', rfl⟩
            obtain ⟨a', b', c', s', Bn, mn, dn, Bk, mk, dk, e, _, _, _, _⟩ := hdi
            rw [e] at HDi
            obtain ⟨f0, f1, f2, f3, f4, f5⟩ := chunk_six e
            simp only [Array.getElem?_toList] at f0 f1 f2 f3 f4 f5
            have u0 := (Blk.cell hh (i * 6)).trans f0
            have u1 := (Blk.cell hh (i * 6 + 1)).trans f1
            have u2 := (Blk.cell hh (i * 6 + 2)).trans f2
            have u3 := (Blk.cell hh (i * 6 + 3)).trans f3
            have u4 := (Blk.cell hh (i * 6 + 4)).trans f4
            have u5 := (Blk.cell hh (i * 6 + 5)).trans f5
            have HGg : Hid (S g) := hSg
            have HSz : Hid (∀ b, S b → b < wr.heap.size) := fun b hb => Nat.lt_of_lt_of_le (HSS.out b hb) HSi.out.2.2.2.1
            clear hh hc hdd k4 hSg e f0 f1 f2 f3 f4 f5
            go_wp2_with fail
            refine ((unhide IH) S _ _ HSz.out HDi.out).mono ?_
            rintro e w2 ⟨rfl, hs2⟩
            have HS2 : Hid (Soft S w w2) := HSi.out.trans hs2
            have HB2 := Lib.hid (hs2.blk HBi.out HG.out)
            clear hs2 u0 u1 u2 u3 u4 u5 y5 HSi HBi HDi HSz
            have y5 : w2.cell? ⟨w.heap.size, 5, none⟩ = some (.slice (some ⟨g, 0, none⟩) kk ck) := HB2.out.cell 5
            have hdp := HS2.out.2.2.2.2.2 _ _ HD.out
            obtain ⟨_, _, _, _, An', nn', cn', Ak', kk', ck', e, _, _, _, k4⟩ := hdp
            simp only [List.cons.injEq, Value.slice.injEq, and_true] at e
            obtain ⟨_, _, _, _, ⟨rfl, rfl, rfl⟩, rfl, rfl, rfl⟩ := e
            obtain ⟨g', cur2, e, hSg, hh, hc, hdd⟩ := k4 (by omega)
            obtain rfl : g = g' := by simpa using e
            have hl6 : i * 6 + 6 ≤ cur2.size := by omega
            have v0 := Blk.cell hh (i * 6)
            have v1 := Blk.cell hh (i * 6 + 1)
            have v2 := Blk.cell hh (i * 6 + 2)
            have v3 := Blk.cell hh (i * 6 + 3)
            have v4 := Blk.cell hh (i * 6 + 4)
            have v5 := Blk.cell hh (i * 6 + 5)
            rw [Array.getElem?_eq_getElem (by omega)] at v0 v1 v2 v3 v4 v5
            have q0 := Blk.free hh (i * 6)
            have q1 := Blk.free hh (i * 6 + 1)
            have q2 := Blk.free hh (i * 6 + 2)
            have q3 := Blk.free hh (i * 6 + 3)
            have q4 := Blk.free hh (i * 6 + 4)
            have q5 := Blk.free hh (i * 6 + 5)
            have HN : Hid (∀ x, Soft S w2 ((((((w2.setCell ⟨g, i * 6, none⟩ (.int .i64 x)).setCell ⟨g, i * 6 + 1, none⟩ (.int .i64 0)).setCell ⟨g, i * 6 + 2, none⟩ (.int .i64 0)).setCell ⟨g, i * 6 + 3, none⟩ (.string ⟨#[]⟩)).setCell ⟨g, i * 6 + 4, none⟩ (.slice none 0 0)).setCell ⟨g, i * 6 + 5, none⟩ (.slice none 0 0))) := fun x => soft_kid hSg hh hl6
            clear hh hc hdd k4 e
            generalize cur2[i * 6] = r0 at *
            generalize cur2[i * 6 + 1] = r1 at *
            generalize cur2[i * 6 + 2] = r2 at *
            generalize cur2[i * 6 + 3] = r3 at *
            generalize cur2[i * 6 + 4] = r4 at *
            generalize cur2[i * 6 + 5] = r5 at *
            clear hl6
            go_wp2_with fail
            go_roundw
            case rel => exact ⟨i + 1, by omega, by go_num, HS2.out.trans (HN.out _), (HN.out _).blk HB2.out HG.out⟩
            case measure => simp [intOf]; omega
          · go_wp2_with fail
            go_end0
            exact ⟨rfl, HSi.out⟩
end Go.Proofs.Ytfcbcbpnlnkpcaa
