/- slices.Insert of one element into a row of the call's own (printed by gen/mkins.py). -/
import Derived.Test.YtfcbcbpnlnkpcaaQInsz
import Derived.Test.YtfcbcbpnlnkpcaaQMemV
import Derived.Test.YtfcbcbpnlnkpcaaQBase
import Derived.Lib.Walk
import Derived.Laws.CopyOwn
import Derived.Shelf.Spec.SlicesInsertGrow
namespace Go.Proofs.Ytfcbcbpnlnkpcaa
set_option linter.all false
open Go.RowKit
set_option maxHeartbeats 4000000 in
set_option maxRecDepth 100000 in
/-- At the end. -/
theorem ins_endV (n c : Nat) (A : Option Addr) (xs vs : List Value) (w : World) (base vb : Nat) (ho : w.ownsRow base 25 6 (.slice A n c) n xs) (hbase : base ≤ w.heap.size) (hn : n ≤ 100000) (hvl : vs.length = 6)
    (hvb : w.heap[vb]? = some (.cells vs.toArray 25 (0, 0))) (h1 : ∀ v ∈ vs, v.oneCell' = true) :
    Calls Try.prog 36 #[.slice A n c, .int .i64 n, .slice (some ⟨vb, 0, none⟩) 1 1] w (RetIns 25 6 n base (.slice A n c) (insL 6 n xs vs) w) := by
  obtain ⟨i0, hi, hz0, hz1, hz2⟩ := info_parts infoVal
  have hvw : vb < w.heap.size := lt_of_block hvb
  have hr : Rd w w.heap.size 6 (some ⟨vb, 0, none⟩) 1 vs := ⟨by omega, fun _ => ⟨vb, 0, rfl, hvw, fun j u hu => by rw [cells_of_row hvb]; simpa using hu⟩⟩
  obtain ⟨v', w', hrun, h2, h3, h4⟩ := run_append_rd (P := Try.prog) w base 23 0 _ i0 _ 6 88 Try.underlying23 hi hz0 hz1 hz2 rfl (by omega) _ n xs ho _ _ 1 1 vs hr h1 (by simp only [maxLen]; omega) (by omega) hbase
  obtain ⟨A', c', rfl, _, _⟩ := own_form h2
  have hrun' : ∀ ty, (Builtin.append_ #[23, 23] ty #[.slice A n c, .slice (some ⟨vb, 0, none⟩) 1 1]).run Try.prog w = .ok (.slice A' (n + 1) c') w' := fun ty => hrun
  have hL : xs ++ vs = insL 6 n xs vs := by
    have : xs.length = n * 6 := ho.1
    unfold insL
    rw [List.take_of_length_le (by omega), List.drop_of_length_le (by omega), List.append_nil]
  rw [hL] at h2
  clear hrun hr hvb
  cases A with
  | none =>
    go_enter Try.func36, Try.ntmps36
    go_wp2_with (at_builtin; refine Lib.wpList_append_run _ rfl _ _ _ _ rfl _ _ rfl rfl _ _ (hrun' _) ?_)
    go_ret
    exact ⟨A', c', rfl, h2, h3, h4⟩
  | some ad =>
    go_enter Try.func36, Try.ntmps36
    go_wp2_with (at_builtin; refine Lib.wpList_append_run _ rfl _ _ _ _ rfl _ _ rfl rfl _ _ (hrun' _) ?_)
    all_goals (go_ret; exact ⟨A', c', rfl, h2, h3, h4⟩)
theorem row_setRow {w : World} {g : Nat} {cur cs : Array Value} {T : TypeId} (hg : w.heap[g]? = some (.cells cur T (0, 0))) : (w.setRow g cs).heap[g]? = some (.cells cs T (0, 0)) := setRow_heap w g cur cs T (0, 0) hg
set_option maxHeartbeats 4000000 in
set_option maxRecDepth 100000 in
/-- Within, and there is room. -/
theorem ins_shiftV (n c i g : Nat) (xs vs : List Value) (w : World) (base vb : Nat) (cur : Array Value) (hb : base ≤ g) (hg : w.heap[g]? = some (.cells cur 25 (0, 0))) (hnc : n + 1 ≤ c) (hc : c ≤ maxLen) (hs : cur.size = c * 6)
    (hx : cur.toList.take (n * 6) = xs) (hi : i < n) (hn : n ≤ 100000) (hvl : vs.length = 6) (hvb : w.heap[vb]? = some (.cells vs.toArray 25 (0, 0))) (hne : vb ≠ g) (h1x : ∀ v ∈ xs, v.oneCell' = true) (h1 : ∀ v ∈ vs, v.oneCell' = true) :
    Calls Try.prog 36 #[.slice (some ⟨g, 0, none⟩) n c, .int .i64 i, .slice (some ⟨vb, 0, none⟩) 1 1] w (RetIns 25 6 n base (.slice (some ⟨g, 0, none⟩) n c) (insL 6 i xs vs) w) := by
  obtain ⟨i0, hi0, hz0, hz1, hz2⟩ := info_parts infoVal
  have hsz : (Try.prog.info? 25).map (·.size) = some 6 := by rw [hi0]; simp [hz1]
  have hxl : xs.length = n * 6 := by rw [← hx, List.length_take, Array.length_toList, hs]; omega
  have hdl : (xs.drop (i * 6)).length = (n - i) * 6 := by rw [List.length_drop, hxl, Nat.sub_mul]
  have hfit1 : (i + 1) * 6 + (xs.drop (i * 6)).length ≤ cur.size := by rw [hdl, hs]; omega
  have hov : ∀ o lb cb, (callFunc 54 #[.slice (some ⟨vb, 0, none⟩) 1 1, .slice (some ⟨g, o, none⟩) lb cb]).run Try.prog w = .ok (.value (.bool false)) w := fun o lb cb => by
    rw [run_callFunc_extern Try.func54 (by kernel_rfl) (by kernel_rfl) (by kernel_rfl) (e := Extern.SlicesOverlaps.overlaps #[23, 23] #[4]) (by kernel_rfl),
      Lib.run_overlaps_apart w 23 4 25 Try.underlying23 6 (fun w => by simp [sizeOf, typeInfo, hi0, hz1]) ⟨vb, 0, none⟩ ⟨g, o, none⟩ 1 1 lb cb hne 25 25 vs.length cur.size (by simp [World.shape?, hvb]) (by simp [World.shape?, hg]) (by omega) (frozen_of_row w vb 0 _ _ hvb) (frozen_of_row w vb vs.length _ _ hvb)]
    rfl
  obtain ⟨cur1, hcur1⟩ : ∃ cur1, cur1 = (cur.toList.take ((i + 1) * 6) ++ xs.drop (i * 6) ++ cur.toList.drop ((i + 1) * 6 + (xs.drop (i * 6)).length)).toArray := ⟨_, rfl⟩
  have hc1 : cur1.size = cur.size := by rw [hcur1, List.size_toArray]; simp only [List.length_append, List.length_take, List.length_drop, Array.length_toList]; rw [List.length_drop] at hfit1; omega
  obtain ⟨cur2, hcur2⟩ : ∃ cur2, cur2 = (cur1.toList.take (i * 6) ++ vs ++ cur1.toList.drop (i * 6 + vs.length)).toArray := ⟨_, rfl⟩
  have hc2 : cur2.size = cur.size := by rw [hcur2, List.size_toArray]; simp only [List.length_append, List.length_take, List.length_drop, Array.length_toList]; omega
  have hfin : cur2.toList.take ((n + 1) * 6) = insL 6 i xs vs := by
    rw [hcur2, hcur1]
    exact insL_place hx (by rw [Array.length_toList, hs]; exact Nat.mul_le_mul_right _ hnc) hvl (by omega)
  have hsrc1 : ∀ j v, (xs.drop (i * 6))[j]? = some v → w.cell? ((⟨g, i * 6, none⟩ : Addr).add j) = some v := fun j v hj => by
    rw [add_mk, cells_of_row hg]
    rw [List.getElem?_drop, ← hx, List.getElem?_take] at hj
    split at hj
    · simpa using hj
    · cases hj
  have hcp1 : ∀ ty dc sc, (Builtin.copy_ #[23, 23] ty #[.slice (some ⟨g, (i + 1) * 6, none⟩) (n + 1 - (i + 1)) dc, .slice (some ⟨g, i * 6, none⟩) (n + 1 - i) sc]).run Try.prog w.drew = .ok (goInt ((n - i : Nat) : Int)) (w.drew.setRow g cur1) := fun ty dc sc => by
    rw [hcur1]
    exact run_copy_rowz w.drew _ _ ty 25 6 g ((i + 1) * 6) _ dc ⟨g, i * 6, none⟩ _ sc (n - i) cur 25 _ Try.underlying23 hsz hg (by simp only [Nat.min_def]; split <;> omega) hdl hsrc1 hfit1 (fun v hv => h1x v (List.mem_of_mem_drop hv))
  have hcp2 : ∀ (W : World), W.heap[g]? = some (.cells cur1 25 (0, 0)) → W.heap[vb]? = some (.cells vs.toArray 25 (0, 0)) → ∀ ty dc, (Builtin.copy_ #[23, 23] ty #[.slice (some ⟨g, i * 6, none⟩) (n + 1 - i) dc, .slice (some ⟨vb, 0, none⟩) 1 1]).run Try.prog W = .ok (goInt ((1 : Nat) : Int)) (W.setRow g cur2) := fun W hW hV ty dc => by
    rw [hcur2]
    exact run_copy_rowz W _ _ ty 25 6 g (i * 6) _ dc ⟨vb, 0, none⟩ 1 1 1 cur1 25 vs Try.underlying23 hsz hW (by simp only [Nat.min_def]; split <;> omega) (by omega) (fun j u hu => by rw [add_mk, cells_of_row hV]; simpa using hu) (by rw [hc1, hs]; omega) h1
  have hw1 : IntKind.i64.wrap ((i : Int) + 1) = (i : Int) + 1 := by rw [IntKind.wrap_i64]; omega
  have hb1 : (0 : Int) ≤ (i : Int) + 1 := by omega
  have htn : ((i : Int) + 1).toNat = i + 1 := by omega
  have htn' : ((n : Int) + 1).toNat = n + 1 := by omega
  have hb2 : ¬ (c = i + 1) := by omega
  have hb3 : (i : Int) ≤ (n : Int) + 1 := by omega
  have hb4 : ¬ (c = i) := by omega
  have hin : i ≤ n := by omega
  have hz2' : ¬ ((i : Int) = (n : Int)) := by omega
  have hc63 : c ≤ 9223372036854775807 := hc
  obtain ⟨W1, hW1⟩ : ∃ W1, W1 = w.drew.setRow g cur1 := ⟨_, rfl⟩
  have hg1 : W1.heap[g]? = some (.cells cur1 25 (0, 0)) := by rw [hW1]; exact row_setRow (w := w.drew) hg
  have hv1 : W1.heap[vb]? = some (.cells vs.toArray 25 (0, 0)) := by rw [hW1]; exact (setRow_other w.drew g vb _ hne).trans hvb
  have hcp2' := hcp2 W1 hg1 hv1
  have gb1 : w.grownBy W1 (some g) := by rw [hW1]; exact gb_trans (gb_drew (gb_refl w (some g))) (gb_setRow (w := w.drew))
  rw [← hW1] at hcp1
  obtain ⟨W2, hW2⟩ : ∃ W2, W2 = W1.setRow g cur2 := ⟨_, rfl⟩
  have hg2 : W2.heap[g]? = some (.cells cur2 25 (0, 0)) := by rw [hW2]; exact row_setRow hg1
  have gb2 : w.grownBy W2 (some g) := by rw [hW2]; exact gb_trans gb1 gb_setRow
  rw [← hW2] at hcp2'
  have HEND : Hid (RetIns 25 6 n base (.slice (some ⟨g, 0, none⟩) n c) (insL 6 i xs vs) w (.returned (.slice (some ⟨g, 0, none⟩) (n + 1) c)) W2) := ⟨_, c, rfl, own_of_row hb hg2 (by omega) hc (by rw [hc2, hs]) hfin, gb2, .inl rfl⟩
  have mixed : Try.prog.follows Departure.mixedOrders = true := by kernel_rfl
  clear hcp2 hfin gb1 gb2 hg1 hv1 hg2 hW1 hW2 hcur1 hcur2 hsrc1 hfit1 hdl hc1 hc2 hvb hx
  skip
  go_enter Try.func36, Try.ntmps36
  go_wp2_with (simp only [hov])
  go_region_law_o (refine step_copy_runI rfl _ _ 23 23 rfl (.slice (some ⟨g, (i + 1) * 6, none⟩) (n + 1 - (i + 1)) (c - (i + 1))) (.slice (some ⟨g, i * 6, none⟩) (n + 1 - i) (c - i)) (by simp [Act.eval, Act.put]) (by simp [Act.eval, Act.put]) (hcp1 _ _ _) ?_)
  go_wp2_with (at_builtin; refine wpList_copy_runI _ rfl _ _ 23 23 rfl _ _ rfl rfl (hcp2' _ _) ?_)
  go_ret
  exact HEND.out
set_option maxHeartbeats 4000000 in
set_option maxRecDepth 100000 in
/-- Within, and there is no room. -/
theorem ins_growV (n c i g : Nat) (xs vs : List Value) (w : World) (base vb : Nat) (cur : Array Value) (hbase : base ≤ w.heap.size) (hg : w.heap[g]? = some (.cells cur 25 (0, 0))) (hnc : n ≤ c) (hroom : c < n + 1) (hs : cur.size = c * 6)
    (hx : cur.toList.take (n * 6) = xs) (hi : i < n) (hn : n ≤ 100000) (hvl : vs.length = 6) (hvb : w.heap[vb]? = some (.cells vs.toArray 25 (0, 0))) (h1x : ∀ v ∈ xs, v.oneCell' = true) (h1 : ∀ v ∈ vs, v.oneCell' = true) :
    Calls Try.prog 36 #[.slice (some ⟨g, 0, none⟩) n c, .int .i64 i, .slice (some ⟨vb, 0, none⟩) 1 1] w (RetIns 25 6 n base (.slice (some ⟨g, 0, none⟩) n c) (insL 6 i xs vs) w) := by
  obtain ⟨i0, hi0, hz0, hz1, hz2⟩ := info_parts infoVal
  have hsz : (Try.prog.info? 25).map (·.size) = some 6 := by rw [hi0]; simp [hz1]
  have hxl : xs.length = n * 6 := by rw [← hx, List.length_take, Array.length_toList, hs]; omega
  have hdl : (xs.drop (i * 6)).length = (n - i) * 6 := by rw [List.length_drop, hxl, Nat.sub_mul]
  have htl : (xs.take (i * 6)).length = i * 6 := by rw [List.length_take, hxl]; omega
  have hcs : ∀ j v, xs[j]? = some v → w.cell? ⟨g, j, none⟩ = some v := fun j v hj => by
    rw [cells_of_row hg]
    rw [← hx, List.getElem?_take] at hj
    split at hj
    · simpa using hj
    · cases hj
  have hkk : (n : Int) + 1 - (i : Int) = ((n + 1 - i : Nat) : Int) := by omega
  have hik : i + (n + 1 - i) = n + 1 := by omega
  have hold : (Builtin.firstCells i0.size i (.slice (some ⟨g, 0, none⟩) i c)).run Try.prog w.drew = .ok (xs.take (i * 6)).toArray w.drew := by
    rw [hz1]
    exact run_firstCells_some w.drew 6 i ⟨g, 0, none⟩ i c (xs.take (i * 6)) htl (fun j v hj => by
      rw [add_mk, Nat.zero_add]
      rw [List.getElem?_take] at hj
      split at hj
      · exact hcs j v hj
      · cases hj)
  obtain ⟨G, hG⟩ : ∃ G, G = grownCap w (n + 1) c 25 := ⟨_, rfl⟩
  obtain ⟨Z, hZ⟩ : ∃ Z : Array Value, Z = Builtin.zeroCells (Value.cells (Value.agg #[.int .i64 0, .int .i64 0, .int .i64 0, .string ⟨#[]⟩, .slice none 0 0, .slice none 0 0])) (n + 1 - i) ++ Builtin.zeroCells (Value.cells (Value.agg #[.int .i64 0, .int .i64 0, .int .i64 0, .string ⟨#[]⟩, .slice none 0 0, .slice none 0 0])) (G - (n + 1)) := ⟨_, rfl⟩
  have hGn : n + 1 ≤ G := by rw [hG]; exact grownCap_ge w _ _ _
  have hG63 : G ≤ maxLen := by rw [hG]; exact grownCap_le_maxLen w (n + 1) c 25 (by unfold maxLen; omega)
  have hZl : Z.toList.length = (n + 1 - i) * 6 + (G - (n + 1)) * 6 := by rw [hZ]; simp [Builtin.zeroCells, Value.cells]
  have hrz : ∀ ty, (Builtin.append_ #[23, 3] ty #[.slice (some ⟨g, 0, none⟩) i c, .int .i64 ((n : Int) + 1 - (i : Int))]).run Try.prog w =
      .ok (.slice (some ⟨w.heap.size, 0, none⟩) (n + 1) G) (w.drew.alloc (.cells ((xs.take (i * 6)).toArray ++ Z) 25)) := fun ty => by
    have h := Lib.run_append_grow_zeros w 23 3 ty 25 i0 _ .i64 .i64 Try.underlying23 Try.underlying3 hi0 hz0 (some ⟨g, 0, none⟩) i c (xs.take (i * 6)) hold (n + 1 - i) (by omega) (by omega) (by omega) (by omega) (by rw [hz2]; omega) (by rw [hz2, hik]; have := nextslicecap_le hroom; omega)
    rw [hik] at h
    rw [hkk, hZ, hG, ← Array.append_assoc]
    exact h
  obtain ⟨cur0, hcur0⟩ : ∃ cur0 : Array Value, cur0 = (xs.take (i * 6)).toArray ++ Z := ⟨_, rfl⟩
  have hcl0 : cur0.toList = xs.take (i * 6) ++ Z.toList := by rw [hcur0, Array.toList_append]
  have hc0 : cur0.size = G * 6 := by rw [← Array.length_toList, hcl0, List.length_append, htl, hZl]; omega
  obtain ⟨W1, hW1⟩ : ∃ W1, W1 = w.drew.alloc (.cells cur0 25) := ⟨_, rfl⟩
  rw [← hcur0, ← hW1] at hrz
  have hgw : g < w.heap.size := lt_of_block hg
  have hvw : vb < w.heap.size := lt_of_block hvb
  have hN : W1.heap[w.heap.size]? = some (.cells cur0 25 (0, 0)) := by rw [hW1]; exact heap_alloc_new w.drew _
  have hB1 : Below w.heap.size w W1 := by rw [hW1]; exact (Drew.below ⟨1, rfl⟩ _ : Below w.heap.size w w.drew).alloc (Nat.le_refl _) _
  have hV1 : W1.heap[vb]? = some (.cells vs.toArray 25 (0, 0)) := (hB1.block vb hvw).trans hvb
  have hg1 : W1.heap[g]? = some (.cells cur 25 (0, 0)) := (hB1.block g hgw).trans hg
  obtain ⟨cur1, hcur1⟩ : ∃ cur1, cur1 = (cur0.toList.take (i * 6) ++ vs ++ cur0.toList.drop (i * 6 + vs.length)).toArray := ⟨_, rfl⟩
  have hc1 : cur1.size = G * 6 := by rw [hcur1, List.size_toArray]; simp only [List.length_append, List.length_take, List.length_drop, Array.length_toList]; omega
  obtain ⟨cur2, hcur2⟩ : ∃ cur2, cur2 = (cur1.toList.take ((i + 1) * 6) ++ xs.drop (i * 6) ++ cur1.toList.drop ((i + 1) * 6 + (xs.drop (i * 6)).length)).toArray := ⟨_, rfl⟩
  have hc2 : cur2.size = G * 6 := by rw [hcur2, List.size_toArray]; simp only [List.length_append, List.length_take, hdl, List.length_drop, Array.length_toList]; omega
  have hfin : cur2.toList.take ((n + 1) * 6) = insL 6 i xs vs := by
    rw [hcur2, hcur1, hcl0]
    exact insL_fresh hxl hZl hvl (by omega)
  have hcp1 : ∀ ty dc, (Builtin.copy_ #[23, 23] ty #[.slice (some ⟨w.heap.size, i * 6, none⟩) (n + 1 - i) dc, .slice (some ⟨vb, 0, none⟩) 1 1]).run Try.prog W1 = .ok (goInt ((1 : Nat) : Int)) (W1.setRow w.heap.size cur1) := fun ty dc => by
    rw [hcur1]
    exact run_copy_rowz W1 _ _ ty 25 6 w.heap.size (i * 6) _ dc ⟨vb, 0, none⟩ 1 1 1 cur0 25 vs Try.underlying23 hsz hN (by simp only [Nat.min_def]; split <;> omega) (by omega) (fun j u hu => by rw [add_mk, cells_of_row hV1]; simpa using hu) (by rw [hc0]; omega) h1
  obtain ⟨W2, hW2⟩ : ∃ W2, W2 = W1.setRow w.heap.size cur1 := ⟨_, rfl⟩
  have hN2 : W2.heap[w.heap.size]? = some (.cells cur1 25 (0, 0)) := by rw [hW2]; exact setRow_heap _ _ _ _ _ _ hN
  have hg2 : W2.heap[g]? = some (.cells cur 25 (0, 0)) := by rw [hW2]; exact (setRow_other _ _ _ _ (by omega)).trans hg1
  rw [← hW2] at hcp1
  have hcp2 : ∀ ty dc sc, (Builtin.copy_ #[23, 23] ty #[.slice (some ⟨w.heap.size, (i + 1) * 6, none⟩) (n + 1 - (i + 1)) dc, .slice (some ⟨g, i * 6, none⟩) (n - i) sc]).run Try.prog W2.drew = .ok (goInt ((n - i : Nat) : Int)) (W2.drew.setRow w.heap.size cur2) := fun ty dc sc => by
    rw [hcur2]
    exact run_copy_rowz W2.drew _ _ ty 25 6 w.heap.size ((i + 1) * 6) _ dc ⟨g, i * 6, none⟩ _ sc (n - i) cur1 25 _ Try.underlying23 hsz hN2 (by simp only [Nat.min_def]; split <;> omega) hdl (fun j v hj => by
        rw [add_mk, cells_of_row (show W2.drew.heap[g]? = _ from hg2)]
        rw [List.getElem?_drop, ← hx, List.getElem?_take] at hj
        split at hj
        · simpa using hj
        · cases hj) (by rw [hdl, hc1]; omega) (fun v hv => h1x v (List.mem_of_mem_drop hv))
  obtain ⟨W3, hW3⟩ : ∃ W3, W3 = W2.drew.setRow w.heap.size cur2 := ⟨_, rfl⟩
  have hN3 : W3.heap[w.heap.size]? = some (.cells cur2 25 (0, 0)) := by rw [hW3]; exact setRow_heap W2.drew _ _ _ _ _ hN2
  have hB2 : Below w.heap.size w W2 := by rw [hW2]; exact below_setRow hB1 (Nat.le_refl _) _
  have hB3 : Below w.heap.size w W3 := by rw [hW3]; exact below_setRow (hB2.trans (Drew.below ⟨1, rfl⟩ _)) (Nat.le_refl _) _
  rw [← hW3] at hcp2
  have HEND : Hid (RetIns 25 6 n base (.slice (some ⟨g, 0, none⟩) n c) (insL 6 i xs vs) w (.returned (.slice (some ⟨w.heap.size, 0, none⟩) (n + 1) G)) W3) := ⟨_, G, rfl, own_of_row hbase hN3 hGn hG63 hc2 hfin, gb_below hB3 _, .inr rfl⟩
  have hw1 : IntKind.i64.wrap ((i : Int) + 1) = (i : Int) + 1 := by rw [IntKind.wrap_i64]; omega
  have hz3 : (c : Int) < (n : Int) + 1 := by omega
  have hb1 : (0 : Int) ≤ (i : Int) + 1 := by omega
  have htn : ((i : Int) + 1).toNat = i + 1 := by omega
  have hb3 : (i : Int) ≤ (n : Int) := by omega
  have hin : i ≤ n := by omega
  have hz2' : ¬ ((i : Int) = (n : Int)) := by omega
  have hc63 : c ≤ 9223372036854775807 := by omega
  have hG64 : G ≤ 9223372036854775807 := hG63
  have hGi : ¬ (G = i) := by omega
  have hGim : ¬ (G = i + 1) := by omega
  have hci : ¬ (c = i) := by omega
  have mixed : Try.prog.follows Departure.mixedOrders = true := by kernel_rfl
  clear hkk hik hold hG hZ hZl hfin hcl0 hc0 hc1 hc2 hcur0 hcur1 hcur2 hN hN2 hN3 hg1 hg2 hB1 hB2 hB3 hV1 hW1 hW2 hW3 hx hG63 hdl htl hxl
  skip
  go_enter Try.func36, Try.ntmps36
  go_wp2_with (first
    | (at_builtin; refine Lib.wpList_append_run _ rfl _ _ _ _ rfl _ _ rfl rfl _ _ (hrz _) ?_)
    | (at_builtin; refine wpList_copy_runI _ rfl _ _ 23 23 rfl _ _ rfl rfl (hcp1 _ _) ?_))
  go_region_law_o (refine step_copy_runI rfl _ _ 23 23 rfl (.slice (some ⟨w.heap.size, (i + 1) * 6, none⟩) (n + 1 - (i + 1)) (G - (i + 1))) (.slice (some ⟨g, i * 6, none⟩) (n - i) (c - i)) (by simp [Act.eval, Act.put]) (by simp [Act.eval, Act.put]) (hcp2 _ _ _) ?_)
  go_wp2
  go_ret
  exact HEND.out
/-- A row of the call's own, with one element more at a place. -/
theorem ins_anyV (n c i : Nat) (A : Option Addr) (xs vs : List Value) (w : World) (base vb : Nat) (ho : w.ownsRow base 25 6 (.slice A n c) n xs) (hbase : base ≤ w.heap.size) (hi : i ≤ n) (hn : n ≤ 100000) (hvl : vs.length = 6)
    (hvb : w.heap[vb]? = some (.cells vs.toArray 25 (0, 0))) (hne : (Value.slice A n c).ownBlock ≠ some vb) (h1x : ∀ v ∈ xs, v.oneCell' = true) (h1 : ∀ v ∈ vs, v.oneCell' = true) :
    Calls Try.prog 36 #[.slice A n c, .int .i64 i, .slice (some ⟨vb, 0, none⟩) 1 1] w (RetIns 25 6 n base (.slice A n c) (insL 6 i xs vs) w) := by
  by_cases hin : i = n
  · subst hin
    exact ins_endV i c A xs vs w base vb ho hbase hn hvl hvb h1
  · obtain ⟨hl, ⟨e, h0⟩ | ⟨g, cap, cur, e, hb, hg, hnc, hc, hs, hx⟩⟩ := ho
    · omega
    · obtain ⟨rfl, _, rfl⟩ := Value.slice.inj e
      by_cases hr : n + 1 ≤ c
      · exact ins_shiftV n c i g xs vs w base vb cur hb hg hr hc hs hx (by omega) hn hvl hvb (fun e => hne (by simp [Value.ownBlock, e])) h1x h1
      · exact ins_growV n c i g xs vs w base vb cur hbase hg hnc (by omega) hs hx (by omega) hn hvl hvb h1x h1
end Go.Proofs.Ytfcbcbpnlnkpcaa
