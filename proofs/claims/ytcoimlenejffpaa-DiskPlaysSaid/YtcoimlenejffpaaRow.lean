/- A row of bytes of the call's own, of whose block a slice may show less than there is: how it reads; append onto it. -/
import Derived.Test.YtcoimlenejffpaaBlk
namespace Go.Proofs.Ytcoimlenejffpaa
set_option linter.all false
open Go.RowKit
/-- The slice v holds the bytes b, at the head of a block; its capacity may be less than the block. -/
def Row (w : World) (v : Value) (b : List UInt8) : Prop :=
  (v = .slice none 0 0 ∧ b = []) ∨ ∃ g cap cur, v = .slice (some ⟨g, 0, none⟩) b.length cap ∧ Blk w g cur 5 ∧ b.length ≤ cap ∧ cap ≤ cur.size ∧ cap ≤ maxLen ∧ cur.toList.take b.length = b.map bv
theorem Row.nil (w : World) : Row w (.slice none 0 0) [] := .inl ⟨rfl, rfl⟩
theorem Row.keep {w w' : World} {v : Value} {b : List UInt8} (h : Row w v b) (hk : ∀ i, v.ownBlock = some i → w'.heap[i]? = w.heap[i]?) : Row w' v b := by
  rcases h with h | ⟨g, cap, cur, rfl, hb, r⟩
  · exact .inl h
  · exact .inr ⟨g, cap, cur, rfl, (hk g rfl).trans hb, r⟩
theorem Row.form {w : World} {v : Value} {b : List UInt8} (h : Row w v b) : ∃ A c, v = .slice A b.length c ∧ b.length ≤ c ∧ c ≤ 9223372036854775807 := by
  rcases h with ⟨rfl, rfl⟩ | ⟨g, cap, cur, rfl, _, h1, _, h3, _⟩
  · exact ⟨none, 0, rfl, Nat.le_refl _, by omega⟩
  · exact ⟨_, cap, rfl, h1, h3⟩
theorem Row.lt {w : World} {v : Value} {b : List UInt8} (h : Row w v b) {i : Nat} (hi : v.ownBlock = some i) : i < w.heap.size := by
  rcases h with ⟨rfl, rfl⟩ | ⟨g, cap, cur, rfl, hb, _⟩
  · simp [Value.ownBlock] at hi
  · simp [Value.ownBlock] at hi; subst hi; exact hb.lt
theorem Row.bs {w : World} {A : Option Addr} {n c : Nat} {b : List UInt8} (h : Row w (.slice A n c) b) : Bs w w.heap.size A n b := by
  rcases h with ⟨e, rfl⟩ | ⟨g, cap, cur, e, hb, h1, h2, h3, h4⟩
  · injection e with e1 e2 e3
    subst e1; subst e2
    exact Rd.nil_ _
  · injection e with e1 e2 e3
    subst e1; subst e2
    refine ⟨by simp, fun _ => ⟨g, 0, rfl, hb.lt, fun j u hu => ?_⟩⟩
    rw [Nat.zero_add, hb.cell j, ← Array.getElem?_toList]
    have hj : j < b.length := by
      rcases Nat.lt_or_ge j b.length with h | h
      · exact h
      · rw [List.getElem?_eq_none (by simpa using h)] at hu; cases hu
    rw [← h4, List.getElem?_take, if_pos hj] at hu
    exact hu
/-- Shown in part. -/
theorem Row.cut {w : World} {g cap : Nat} {b : List UInt8} (h : Row w (.slice (some ⟨g, 0, none⟩) b.length cap) b) {k : Nat} (hk : k ≤ b.length) : Row w (.slice (some ⟨g, 0, none⟩) k k) (b.take k) := by
  rcases h with ⟨e, rfl⟩ | ⟨g', cap', cur, e, hb, h1, h2, h3, h4⟩
  · injection e with e1; cases e1
  · injection e with e1 e2 e3
    injection e1 with e1
    injection e1 with e1
    subst e1; subst e3
    have e : (b.take k).length = k := by rw [List.length_take]; omega
    refine .inr ⟨g, k, cur, by rw [e], hb, by rw [e]; omega, by omega, by omega, ?_⟩
    rw [e, List.map_take, ← h4, List.take_take, Nat.min_eq_left hk]
theorem infoB : (Try.prog.info? 5).map (fun i => (i.zero, i.size, i.bytes)) = some (some (.int .u8 0), 1, 1) := by kernel_rfl
theorem row_of_own {w : World} {base n : Nat} {v : Value} {b : List UInt8} (h : w.ownsRow base 5 1 v n (b.map bv)) : Row w v b := by
  have hl : b.length = n := by have := h.1; simpa using this
  rcases h.2 with ⟨rfl, h0⟩ | ⟨g, cap, cur, rfl, _, hh, h1, h2, h3, h4⟩
  · exact .inl ⟨rfl, List.eq_nil_of_length_eq_zero (by omega)⟩
  · refine .inr ⟨g, cap, cur, by rw [hl], hh, by omega, by omega, h2, ?_⟩
    rw [hl]; simpa using h4
theorem run_append_row {w : World} {v : Value} {b : List UInt8} (h : Row w v b) {ty : TypeId} {B : Nat} {A : Option Addr} {m c : Nat} {nb : List UInt8} (hr : Bs w B A m nb) (hs : b.length + m ≤ 140737488355328) :
    ∃ v' w', (Builtin.append_ #[23, 23] ty #[v, .slice A m c]).run Try.prog w = .ok v' w' ∧ Row w' v' (b ++ nb) ∧ w.grownBy w' v.ownBlock ∧ (v'.ownBlock = v.ownBlock ∨ v'.ownBlock = some w.heap.size) := by
  obtain ⟨i0, hi, hz0, hz1, hz2⟩ := info_parts infoB
  have hml : nb.length = m := hr.len
  rcases h with ⟨rfl, rfl⟩ | ⟨g, cap, cur, rfl, hb, h1, h2, h3, h4⟩
  · obtain ⟨v', w', e1, e2, e3, e4⟩ := run_append_rd (P := Try.prog) w 0 23 ty 5 i0 _ 1 1 Try.underlying23 hi hz0 hz1 hz2 rfl (by omega) (.slice none 0 0) 0 [] (World.ownsRow_nil w 0 5 1) B A m c _ hr (bv_one _) (by simp only [maxLen]; simp at hs; omega) (by simp at hs; omega) (Nat.zero_le _)
    exact ⟨v', w', e1, row_of_own (b := [] ++ nb) (by simpa using e2), e3, e4⟩
  · rcases Nat.eq_zero_or_pos m with hm | hm
    · subst hm
      have : nb = [] := List.eq_nil_of_length_eq_zero hml
      subst this
      refine ⟨.slice (some ⟨g, 0, none⟩) b.length cap, w, ?_, ?_, gb_refl _ _, .inl rfl⟩
      · rcases A with _ | ad
        · simp [Builtin.append_, run_underlying Try.underlying23, sizeOf, typeInfo, hi, Builtin.lenOf, Builtin.firstCells, h1, storeCells]
        · simp [Builtin.append_, run_underlying Try.underlying23, sizeOf, typeInfo, hi, Builtin.lenOf, Builtin.firstCells, h1, storeCells, loadCells, loadCellsFrom]
      · rw [List.append_nil]; exact .inr ⟨g, cap, cur, rfl, hb, h1, h2, h3, h4⟩
    · obtain ⟨g0, off, rfl, _, hc⟩ := hr.2 hm
      have hnews : ∀ j u, (nb.map bv)[j]? = some u → w.cell? ((⟨g0, off, none⟩ : Addr).add j) = some u := fun j u hu => by rw [add_mk]; exact hc j u hu
      have hl1 : (nb.map bv).length = m * i0.size := by rw [hz1]; simp [hml]
      by_cases hroom : b.length + m ≤ cap
      · have hfit : b.length * i0.size + (nb.map bv).length ≤ cur.size := by rw [hl1, hz1]; omega
        have hr := run_append_room (P := Try.prog) w 23 ty 5 i0 Try.underlying23 hi g b.length cap cur hb ⟨g0, off, none⟩ m c (nb.map bv) hl1 hnews (bv_one _) hroom hfit
        refine ⟨_, _, hr, .inr ⟨g, cap, _, by rw [List.length_append, hml], setRow_heap w g cur _ 5 _ hb, by rw [List.length_append, hml]; exact hroom, ?_, h3, ?_⟩, ⟨rfl, rfl, rfl, by simp, fun k _ hk => setRow_other w g k _ (fun e => hk (by simp [Value.ownBlock, e]))⟩, .inl rfl⟩
        · rw [hz1] at hfit ⊢
          simp only [List.size_toArray, List.length_append, List.length_take, List.length_drop, Array.length_toList]
          omega
        · rw [hz1]
          simp only [Nat.mul_one, h4]
          rw [List.map_append]
          exact List.take_left' (by simp)
      · have holds : ∀ j u, (b.map bv)[j]? = some u → w.cell? ((⟨g, 0, none⟩ : Addr).add j) = some u := by
          have hbs : Bs w w.heap.size (some ⟨g, 0, none⟩) b.length b := Row.bs (c := cap) (.inr ⟨g, cap, cur, rfl, hb, h1, h2, h3, h4⟩)
          intro j u hu
          have hj : 0 < b.length := by
            rcases Nat.eq_zero_or_pos b.length with h0 | h0
            · rw [List.getElem?_eq_none (by simp; omega)] at hu; cases hu
            · exact h0
          obtain ⟨g1, o1, e, _, hcc⟩ := hbs.2 hj
          simp only [Option.some.injEq, Addr.mk.injEq] at e
          obtain ⟨rfl, rfl, _⟩ := e
          rw [add_mk]
          exact hcc j u hu
        have hbytes : (b.length + m) * i0.bytes ≤ 140737488355328 := by rw [hz2]; omega
        have hr := run_append_grow (P := Try.prog) w 23 ty 5 i0 _ Try.underlying23 hi hz0 ⟨g, 0, none⟩ b.length cap (b.map bv) (by rw [hz1]; simp) holds ⟨g0, off, none⟩ m c (nb.map bv) hl1 hnews (by omega) (by omega) (growslice_fits (by omega) hbytes)
        have hge := grownCap_ge w (b.length + m) cap 5
        have hcm : grownCap w (b.length + m) cap 5 ≤ maxLen := grownCap_le_maxLen w (b.length + m) cap 5 (by simp only [maxLen]; omega)
        refine ⟨_, _, hr, .inr ⟨w.heap.size, _, _, by rw [List.length_append, hml], heap_alloc_new w.drew _, by rw [List.length_append, hml]; exact hge, ?_, hcm, ?_⟩, ⟨rfl, rfl, rfl, by simp, fun k hk _ => heap_alloc_old w.drew _ hk⟩, .inr rfl⟩
        · simp only [Array.size_append, List.size_toArray, size_zeroCells, List.length_map, hml]
          have : (Value.int IntKind.u8 0).cells.size = 1 := rfl
          rw [this]; omega
        · simp only [Array.toList_append, List.append_assoc]
          rw [← List.append_assoc]
          have e : (b ++ nb).length = (b.map bv ++ nb.map bv).length := by simp
          rw [e, List.take_left, List.map_append]
theorem wp_append_row {ops : Array Oper} {rest : List Oper} {o : Oper} {a : Act} {Q : Exit → Act → World → Prop} {w : World} (hgd : o.guard = none) (s x : Operand)
    (ho : o.op = .call { callee := .builtin .append, args := #[s, x], argTypes := #[23, 23] })
    (v : Value) (b : List UInt8) (hs : a.eval s = v) (h : Row w v b) (B : Nat) (A : Option Addr) (m c : Nat) (nb : List UInt8) (hx : a.eval x = .slice A m c) (hr : Bs w B A m nb) (hsm : b.length + m ≤ 140737488355328)
    (hK : ∀ v' w', Row w' v' (b ++ nb) → w.grownBy w' v.ownBlock → (v'.ownBlock = v.ownBlock ∨ v'.ownBlock = some w.heap.size) → wpList Try.prog ops Q rest (a.put o.dst v') w') : wpList Try.prog ops Q (o :: rest) a w := by
  refine wpList_plain hgd fun K hK' => ?_
  obtain ⟨v', w', hrun, h2, h3, h4⟩ := run_append_row (ty := o.type) (c := c) h hr hsm
  unfold Oper.wp execOp
  simp only [ho, resolve, invoke, builtin, Sem.run_bind, Sem.run_pure, Result.andThen_ok, List.map_toArray, List.map_cons, List.map_nil, hs, hx, hrun]
  exact hK' _ _ (hK v' w' h2 h3 h4)
end Go.Proofs.Ytcoimlenejffpaa
