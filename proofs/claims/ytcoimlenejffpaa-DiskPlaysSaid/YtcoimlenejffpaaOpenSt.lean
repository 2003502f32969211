/- A script: its steps, opened. -/
import Derived.Test.YtcoimlenejffpaaOpenD
import Derived.Test.YtcoimlenejffpaaDiskB
namespace Go.Proofs.Ytcoimlenejffpaa
set_option linter.all false
open Go.RowKit Go.ChangeShapes
structure St where
  k : Int
  n : Int
  a : List UInt8
  to : List UInt8
  b : List UInt8
  A : Option Addr
  c : Nat
def scells (x : St) : List Value := [.int .i64 x.k, .int .i64 x.n, .string (str x.a), .string (str x.to), .slice x.A x.b.length x.c]
structure StOk (w : World) (B : Nat) (x : St) : Prop where
  k : -9223372036854775808 ≤ x.k ∧ x.k ≤ 9223372036854775807
  n : -9223372036854775808 ≤ x.n ∧ x.n ≤ 9223372036854775807
  a : x.a.length ≤ 140737488351232
  to : x.to.length ≤ 140737488351232
  c : x.b.length ≤ x.c ∧ x.c ≤ 140737488351232
  b : Bs w B x.A x.b.length x.b
theorem StOk.below {w w' : World} {B : Nat} {x : St} (h : StOk w B x) (hb : Below B w w') : StOk w' B x := ⟨h.k, h.n, h.a, h.to, h.c, h.b.below hb⟩
structure Steps (w : World) (B : Nat) (A : Option Addr) (l : List St) : Prop where
  row : Rd w B 5 A l.length (l.flatMap scells)
  ok : ∀ x ∈ l, StOk w B x
theorem Steps.below {w w' : World} {B : Nat} {A : Option Addr} {l : List St} (h : Steps w B A l) (hb : Below B w w') : Steps w' B A l := ⟨h.row.below hb, fun x hx => (h.ok x hx).below hb⟩
theorem sc_len (l : List St) : (l.flatMap scells).length = l.length * 5 := by
  induction l with
  | nil => rfl
  | cons x r ih => rw [List.flatMap_cons, List.length_append, ih]; simp [scells]; omega
theorem sc_get {l : List St} {i j : Nat} {x : St} (h : l[i]? = some x) (hj : j < 5) : (l.flatMap scells)[i * 5 + j]? = (scells x)[j]? := by
  induction l generalizing i with
  | nil => simp at h
  | cons y r ih =>
    rw [List.flatMap_cons]
    cases i with
    | zero =>
      simp only [List.getElem?_cons_zero, Option.some.injEq] at h
      subst h
      rw [List.getElem?_append_left (by simp [scells]; omega)]
      simp
    | succ i =>
      simp only [List.getElem?_cons_succ] at h
      rw [List.getElem?_append_right (by simp [scells]; omega), ← ih h]
      congr 1
      simp [scells]; omega
/-- A step, as it lies. -/
theorem Steps.at_ {w : World} {B i : Nat} {A : Option Addr} {l : List St} (h : Steps w B A l) (hi : i < l.length) :
    ∃ g off x, A = some ⟨g, off, none⟩ ∧ g < B ∧ l[i]? = some x ∧ StOk w B x ∧ w.cell? ⟨g, off + i * 5, none⟩ = some (.int .i64 x.k) ∧ w.cell? ⟨g, off + i * 5 + 1, none⟩ = some (.int .i64 x.n) ∧
      w.cell? ⟨g, off + i * 5 + 2, none⟩ = some (.string (str x.a)) ∧ w.cell? ⟨g, off + i * 5 + 3, none⟩ = some (.string (str x.to)) ∧ w.cell? ⟨g, off + i * 5 + 4, none⟩ = some (.slice x.A x.b.length x.c) := by
  have hx := List.getElem?_eq_getElem hi
  obtain ⟨hl, hr⟩ := h.row
  obtain ⟨g, off, hA, hg, hc⟩ := hr (by omega)
  have key : ∀ j (u : Value), j < 5 → (scells l[i])[j]? = some u → w.cell? ⟨g, off + (i * 5 + j), none⟩ = some u := fun j u hj hu => hc _ u ((sc_get hx hj).trans hu)
  refine ⟨g, off, l[i], hA, hg, hx, h.ok _ (List.getElem_mem hi), ?_, ?_, ?_, ?_, ?_⟩
  · exact key 0 _ (by omega) rfl
  · exact key 1 _ (by omega) rfl
  · exact key 2 _ (by omega) rfl
  · exact key 3 _ (by omega) rfl
  · exact key 4 _ (by omega) rfl
set_option maxRecDepth 100000 in
theorem open_step {H : Type} {enc : TypeId × Value → H} {w : World} (fuel : Nat) (cs : List Value) (x : DataW H × List MemPlace)
    (h : DataW.trod enc Try.prog w 0 (fun _ => true) true fuel 49 cs = some x) (hw : Lt Try.prog 49 x.1) : ∃ s : St, cs = scells s ∧ StOk w w.heap.size s := by
  have c25 : Try.prog.cellsOf 49 = 5 := by kernel_rfl
  have c3 : Try.prog.cellsOf 3 = 1 := by kernel_rfl
  have c9 : Try.prog.cellsOf 9 = 1 := by kernel_rfl
  have c22 : Try.prog.cellsOf 23 = 1 := by kernel_rfl
  obtain ⟨xs, m, rfl, hx, hlen, hxl, hf⟩ := DataW.trod_struct Try.underlying49 h
  rw [c25] at hlen
  match cs, hlen with
  | [k0, k1, k2, k3, k4], _ =>
  match xs, hxl with
  | [y0, y1, y2, y3, y4], _ =>
  have f0 : DataW.trod enc Try.prog w 0 (fun _ => true) true m 3 (([k0, k1, k2, k3, k4].drop 0).take (Try.prog.cellsOf 3)) = some y0 := hf 0 _ rfl
  have f1 : DataW.trod enc Try.prog w 0 (fun _ => true) true m 3 (([k0, k1, k2, k3, k4].drop 1).take (Try.prog.cellsOf 3)) = some y1 := hf 1 _ rfl
  have f2 : DataW.trod enc Try.prog w 0 (fun _ => true) true m 9 (([k0, k1, k2, k3, k4].drop 2).take (Try.prog.cellsOf 9)) = some y2 := hf 2 _ rfl
  have f3 : DataW.trod enc Try.prog w 0 (fun _ => true) true m 9 (([k0, k1, k2, k3, k4].drop 3).take (Try.prog.cellsOf 9)) = some y3 := hf 3 _ rfl
  have f4 : DataW.trod enc Try.prog w 0 (fun _ => true) true m 23 (([k0, k1, k2, k3, k4].drop 4).take (Try.prog.cellsOf 23)) = some y4 := hf 4 _ rfl
  simp only [c3, c9, c22, List.drop, List.take, List.getElem?_cons_zero, List.getElem?_cons_succ] at f0 f1 f2 f3 f4
  obtain ⟨n0, e0, _, w0⟩ := DataW.trod_int Try.underlying3 f0
  obtain ⟨n1, e1, _, w1⟩ := DataW.trod_int Try.underlying3 f1
  obtain ⟨s2, e2, hs2, _⟩ := DataW.trod_string Try.underlying9 f2
  obtain ⟨s3, e3, hs3, _⟩ := DataW.trod_string Try.underlying9 f3
  have hwt : ∀ (j : Nat) (t : TypeId) (y : DataW H × List MemPlace), ([3, 3, 9, 9, 23] : List TypeId)[j]? = some t → [y0, y1, y2, y3, y4][j]? = some y → Lt Try.prog t y.1 := by
    intro j t y ht hy n hn
    refine hw n ?_
    rw [hx]
    simp only [DataW.weights, Try.underlying49]
    refine DataW.weights_mem_each (j := j) (t := t) (d := y.1) ht ?_ n hn
    rw [List.getElem?_map, hy]; rfl
  have l2 : s2.toList.length ≤ 140737488351232 := by
    have := hwt 2 _ y2 rfl rfl s2.data.toList.length (by rw [hs2]; simp [DataW.weights])
    simpa [ByteArray.toList_eq] using this
  have l3 : s3.toList.length ≤ 140737488351232 := by
    have := hwt 3 _ y3 rfl rfl s3.data.toList.length (by rw [hs3]; simp [DataW.weights])
    simpa [ByteArray.toList_eq] using this
  obtain ⟨A4, c4, l4, e4, ok4, b4⟩ := open_bytes Try.underlying23 Try.underlying5 (by kernel_rfl) (by kernel_rfl) f4 (hwt 4 _ _ rfl rfl)
  simp only [List.cons.injEq, and_true] at e0 e1 e2 e3 e4
  subst e0; subst e1; subst e2; subst e3; subst e4
  exact ⟨⟨n0, n1, s2.toList, s3.toList, l4, A4, c4⟩, by simp [scells, str_data], i64_of_wf w0, i64_of_wf w1, l2, l3, ok4, b4⟩
theorem steps_of (w : World) (B : Nat) : ∀ (n : Nat) (vs : List Value), vs.length = n * 5 → (∀ i, i < n → ∃ s : St, (vs.drop (i * 5)).take 5 = scells s ∧ StOk w B s) → ∃ l : List St, l.length = n ∧ vs = l.flatMap scells ∧ ∀ x ∈ l, StOk w B x
  | 0, vs, hl, _ => ⟨[], rfl, List.length_eq_zero_iff.1 (by omega), by simp⟩
  | n + 1, vs, hl, h => by
    obtain ⟨l, h1, h2, h3⟩ := steps_of w B n (vs.drop 5) (by rw [List.length_drop]; omega) (fun i hi => by
      have := h (i + 1) (by omega)
      rwa [show (i + 1) * 5 = 5 + i * 5 by omega, ← List.drop_drop] at this)
    obtain ⟨s, e, hs⟩ := h 0 (by omega)
    refine ⟨s :: l, by simp [h1], ?_, ?_⟩
    · rw [List.flatMap_cons, ← h2, ← e]
      simp [List.take_append_drop]
    · intro x hx
      rcases List.mem_cons.1 hx with rfl | hx
      · exact hs
      · exact h3 x hx
section
variable {H : Type} {enc : TypeId × Value → H} {w : World} {r : Reach} {b0 : Nat} {v : Value} {d : DataW H} {p : List MemPlace}
set_option maxRecDepth 100000 in
theorem arg_steps (o : Value.okWide Try.prog w r b0 43 v) (h : DataW.Trod enc Try.prog w 0 (fun _ => true) true 43 v d p) (hw : Lt Try.prog 43 d) :
    ∃ A c, ∃ l : List St, v = .slice A l.length c ∧ (l.length ≤ c ∧ c ≤ 140737488351232) ∧ Steps w w.heap.size A l := by
  obtain ⟨a, n, c, rfl⟩ := WideShapes.okWide_slice Try.underlying43 o
  obtain ⟨fuel, hf⟩ := h
  have c25 : Try.prog.cellsOf 49 = 5 := by kernel_rfl
  have b25 : Try.prog.bytesOf 49 = 72 := by kernel_rfl
  rcases DataW.trod_slice Try.underlying43 hf with ⟨e5, _⟩ | ⟨a', len, cap, elems, rest, m, hmn, e5, hx5, _, hl, hm, hel, hes, hsp, _⟩
  · have e6 : [Value.slice a n c] = [Value.slice none 0 0] := e5
    injection e6 with e6
    exact ⟨none, 0, [], e6, by simp, ⟨Rd.nil_ _, by simp⟩⟩
  · have hrest := (hsp rfl).1
    have hd : d = .slice (elems.map (·.1)) (rest.map (·.1)) := by injection hx5
    have hcap : cap * 72 ≤ 140737488351232 := by
      have := hw ((elems.length + rest.length) * Try.prog.bytesOf 49) (by rw [hd]; simp [DataW.weights, Try.underlying43])
      rw [b25] at this
      have h2 : elems.length + rest.length = cap := by omega
      rwa [h2] at this
    have each : ∀ i, i < len → ∃ cs', w.cells? 0 (a'.add (i * 5)) 5 = some cs' ∧ ∃ s : St, cs' = scells s ∧ StOk w w.heap.size s := by
      intro i hi
      have h1 := hes i hi
      rw [c25] at h1
      rw [List.getElem?_eq_getElem (by omega)] at h1
      obtain ⟨cs', h2, h3⟩ := Option.bind_eq_some_iff.1 h1
      refine ⟨cs', h2, open_step m cs' _ h3 fun z hz => hw z ?_⟩
      rw [hd]
      simp only [DataW.weights, Try.underlying43, List.mem_cons, List.mem_append]
      right; left
      refine weightsAll_mem (j := i) ?_ z hz
      rw [List.getElem?_map, List.getElem?_eq_getElem (by omega)]; rfl
    obtain ⟨l, h1, h2, h3⟩ := steps_of w w.heap.size len (rowOf w a' (len * 5)) (rowOf_len _ _) (fun i hi => by
      obtain ⟨cs', h1, h2⟩ := each i hi
      rw [row_elem h1 hi]; exact h2)
    have e6 : [Value.slice a n c] = [Value.slice (some a') len cap] := e5
    injection e6 with e6
    refine ⟨some a', cap, l, by rw [h1]; exact e6, ⟨by omega, by omega⟩, ⟨?_, h3⟩⟩
    rw [← h2, h1]
    exact row_rd (by omega) (fun i hi => by obtain ⟨cs', h1, _⟩ := each i hi; exact ⟨_, h1⟩)
end
end Go.Proofs.Ytcoimlenejffpaa
