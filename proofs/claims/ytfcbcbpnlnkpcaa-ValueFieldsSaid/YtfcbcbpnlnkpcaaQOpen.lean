/- An argument of type Value, opened: a node and its kids. By induction on the reader's fuel. -/
import Derived.Test.YtfcbcbpnlnkpcaaQBase
import Derived.ChangeArms
import Derived.Deep.Slices
import Derived.SizedLaws
import Derived.ChangeOld
namespace Go.Proofs.Ytfcbcbpnlnkpcaa
set_option linter.all false
open Go.RowKit Go.ChangeShapes
theorem weightsAll_mem {H : Type} {P : Program} {e : TypeId} : ∀ {ds : List (DataW H)} {j : Nat} {d : DataW H}, ds[j]? = some d → ∀ n ∈ d.weights P e, n ∈ DataW.weightsAll P e ds
  | d0 :: ds, 0, d, hd, n, hn => by
    simp only [List.getElem?_cons_zero, Option.some.injEq] at hd
    subst hd
    simp only [DataW.weightsAll, List.mem_append]
    exact Or.inl hn
  | d0 :: ds, j + 1, d, hd, n, hn => by
    simp only [List.getElem?_cons_succ] at hd
    simp only [DataW.weightsAll, List.mem_append]
    exact Or.inr (weightsAll_mem hd n hn)
  | [], _, _, hd, _, _ => by simp at hd
/-- All that a datum weighs is within reach. -/
def Lt {H : Type} (P : Program) (t : TypeId) (d : DataW H) : Prop := ∀ n ∈ d.weights P t, n ≤ 140737488351232
theorem Lt.of_each {H : Type} {P : Program} {ts : List TypeId} {ds : List (DataW H)} (h : (DataW.weightsEach P ts ds).all (· ≤ reachBytes) = true) {j : Nat} {t : TypeId} {d : DataW H} (ht : ts[j]? = some t) (hd : ds[j]? = some d) : Lt P t d := fun n hn => by
  have := List.all_eq_true.1 h _ (DataW.weights_mem_each ht hd n hn)
  exact of_decide_eq_true this
section
variable {H : Type} {enc : TypeId × Value → H} {P : Program} {w : World}
/-- The cells of a row of elements, read off memory. -/
def rowOf (w : World) (a : Addr) (n : Nat) : List Value := (List.range n).map fun j => (w.cell? (a.add j)).getD (Value.bool false)
theorem rowOf_len (a : Addr) (n : Nat) : (rowOf w a n).length = n := by simp [rowOf]
theorem rowOf_get {a : Addr} {n j : Nat} (h : j < n) : (rowOf w a n)[j]? = some ((w.cell? (a.add j)).getD (Value.bool false)) := by
  unfold rowOf
  rw [List.getElem?_map, List.getElem?_range h]
  rfl
/-- Elements of sz cells each, sz > 0: what each one's cells are. -/
theorem row_elem {a : Addr} {sz n i : Nat} {cs : List Value} (hc : w.cells? 0 (a.add (i * sz)) sz = some cs) (hi : i < n) : ((rowOf w a (n * sz)).drop (i * sz)).take sz = cs := by
  obtain ⟨_, hl, hg⟩ := World.cells?_some hc
  have hle : i * sz + sz ≤ n * sz := by
    have := Nat.mul_le_mul_right sz (show i + 1 ≤ n by omega)
    rw [Nat.add_mul, Nat.one_mul] at this
    exact this
  apply List.ext_getElem?
  intro j
  rw [List.getElem?_take]
  split
  · rename_i hj
    rw [List.getElem?_drop, rowOf_get (by omega)]
    have := hg j hj
    rw [show (a.add (i * sz)).add j = a.add (i * sz + j) from Addr.add_add _ _ _] at this
    rw [this, List.getElem?_eq_getElem (by omega)]
    rfl
  · rw [List.getElem?_eq_none (by omega)]
theorem row_cell {a : Addr} {sz n : Nat} (hsz : 0 < sz) (hc : ∀ i, i < n → ∃ cs, w.cells? 0 (a.add (i * sz)) sz = some cs) {j : Nat} (hj : j < n * sz) : ∃ u, w.cell? (a.add j) = some u := by
  have hi : j / sz < n := by rw [Nat.div_lt_iff_lt_mul hsz]; exact hj
  obtain ⟨cs, h⟩ := hc _ hi
  obtain ⟨_, hl, hg⟩ := World.cells?_some h
  have hm : j % sz < sz := Nat.mod_lt _ hsz
  have := hg _ hm
  rw [show (a.add (j / sz * sz)).add (j % sz) = a.add (j / sz * sz + j % sz) from Addr.add_add _ _ _, Nat.div_add_mod'] at this
  exact ⟨_, this.trans (List.getElem?_eq_getElem (by omega))⟩
theorem row_rd {a : Addr} {sz n : Nat} (hsz : 0 < sz) (hc : ∀ i, i < n → ∃ cs, w.cells? 0 (a.add (i * sz)) sz = some cs) : RdS w (· < w.heap.size) sz (some a) n (rowOf w a (n * sz)) := by
  refine ⟨rowOf_len _ _, fun hn => ?_⟩
  obtain ⟨b, off, spot⟩ := a
  obtain ⟨u, hu⟩ := row_cell hsz hc (j := 0) (by have := Nat.mul_pos hn hsz; omega)
  have hspot : spot = none := by simpa [Addr.add] using World.cell?_spot hu
  subst hspot
  refine ⟨b, off, rfl, World.block_lt_of_cell? w _ hu, fun j u hu => ?_⟩
  have hj : j < n * sz := by
    rcases Nat.lt_or_ge j (n * sz) with h | h
    · exact h
    · rw [List.getElem?_eq_none (by rw [rowOf_len]; exact h)] at hu; cases hu
  rw [rowOf_get hj] at hu
  injection hu with hu
  obtain ⟨v, hv⟩ := row_cell hsz hc hj
  rw [hv] at hu
  rw [add_mk] at hv
  rw [hv, ← hu]
  rfl
/-- A slice of texts, opened. -/
theorem open_texts {t e : TypeId} {fuel : Nat} {cs : List Value} {x : DataW H × List MemPlace} (ht : P.underlying t = some (.slice e)) (he : P.underlying e = some .string) (ce : P.cellsOf e = 1) (be : P.bytesOf e = 16)
    (h : DataW.trod enc P w 0 (fun _ => true) true fuel t cs = some x) (hw : Lt P t x.1) :
    ∃ A c, ∃ l : List (List UInt8), cs = [.slice A l.length c] ∧ okl l.length c ∧ (∀ s ∈ l, s.length ≤ 140737488351232) ∧ RdS w (· < w.heap.size) 1 A l.length (l.map sv) := by
  rcases DataW.trod_slice ht h with ⟨rfl, rfl⟩ | ⟨a, len, cap, elems, rest, n, rfl, rfl, rfl, _, hl, hm, hel, hes, hsp, _⟩
  · exact ⟨none, 0, [], rfl, ⟨by simp, by simp⟩, by simp, by simp, fun h => absurd h (by simp)⟩
  · have hrest := (hsp rfl).1
    have hcap : cap * 16 ≤ 140737488351232 := by
      have := hw ((elems.length + rest.length) * P.bytesOf e) (by simp [DataW.weights, ht])
      rw [be] at this
      have h2 : elems.length + rest.length = cap := by omega
      rwa [h2] at this
    have each : ∀ i, i < len → ∃ s : ByteArray, w.cells? 0 (a.add (i * 1)) 1 = some [.string s] ∧ s.toList.length ≤ 140737488351232 := by
      intro i hi
      have h1 := hes i hi
      rw [ce] at h1
      rw [List.getElem?_eq_getElem (by omega)] at h1
      obtain ⟨cs', h2, h3⟩ := Option.bind_eq_some_iff.1 h1
      obtain ⟨s, rfl, hx, _⟩ := DataW.trod_string he h3
      refine ⟨s, h2, ?_⟩
      have := hw s.data.toList.length (by
        simp only [DataW.weights, ht, List.mem_cons, List.mem_append]
        right; left
        refine weightsAll_mem (j := i) (d := .lit (.string s.data.toList)) ?_ _ (by simp [DataW.weights])
        rw [List.getElem?_map, List.getElem?_eq_getElem (by omega), hx]; rfl)
      simpa [ByteArray.toList_eq] using this
    let l : List (List UInt8) := (rowOf w a (len * 1)).map fun v => match v with | .string s => s.toList | _ => []
    have hll : l.length = len := by simp [l, rowOf_len]
    have hrow : rowOf w a (len * 1) = l.map sv := by
      apply List.ext_getElem?
      intro i
      rcases Nat.lt_or_ge i (len * 1) with hi | hi
      · obtain ⟨s, hs, _⟩ := each i (by omega)
        have hc := cell_of_cells?_one hs
        rw [Nat.mul_one] at hc
        have h0 : (rowOf w a (len * 1))[i]? = some (.string s) := by rw [rowOf_get hi, hc]; rfl
        rw [h0, List.getElem?_map]
        show _ = ((rowOf w a (len * 1)).map _)[i]?.map sv
        rw [List.getElem?_map, h0]
        simp [sv, str_data]
      · rw [List.getElem?_eq_none (by rw [rowOf_len]; exact hi), List.getElem?_eq_none (by simp; omega)]
    have hr := row_rd (w := w) (a := a) (sz := 1) (n := len) (by omega) (fun i hi => by obtain ⟨s, hs, _⟩ := each i hi; exact ⟨_, hs⟩)
    rw [hrow] at hr
    refine ⟨some a, cap, l, by rw [hll], ⟨by omega, by omega⟩, ?_, by rw [hll]; exact hr⟩
    intro s hs
    obtain ⟨i, hi⟩ := List.mem_iff_getElem?.1 hs
    have hil : i < len := by rw [← hll]; exact (List.getElem?_eq_some_iff.1 hi).1
    obtain ⟨s', hs', hle⟩ := each i hil
    have hc := cell_of_cells?_one hs'
    rw [Nat.mul_one] at hc
    have h0 : (rowOf w a (len * 1))[i]? = some (.string s') := by rw [rowOf_get (by omega), hc]; rfl
    have h1 : l[i]? = some s'.toList := by show ((rowOf w a (len * 1)).map _)[i]? = _; rw [List.getElem?_map, h0]; rfl
    rw [h1] at hi
    injection hi with hi
    rw [← hi]; exact hle
end
theorem forest_of {w : World} {S : Nat → Prop} : ∀ (len : Nat) (xs : List Value), xs.length = len * 6 →
    (∀ i, i < len → ∃ n k An cn Ak ck, (xs.drop (i * 6)).take 6 = ncells n An cn Ak (F.len k) ck ∧ n.ok ∧ okl n.names.length cn ∧ okl (F.len k) ck ∧ RdS w S 1 An n.names.length (n.names.map sv) ∧ Kids w S Ak k) →
    ∃ f, F.len f = len ∧ Kc w S f xs
  | 0, xs, hl, _ => ⟨.nil, rfl, List.eq_nil_of_length_eq_zero (by omega)⟩
  | len + 1, xs, hl, h => by
    obtain ⟨f, hf, hk⟩ := forest_of len (xs.drop 6) (by simp; omega) (fun i hi => by
      have := h (i + 1) (by omega)
      rwa [show (i + 1) * 6 = 6 + i * 6 by omega, ← List.drop_drop] at this)
    obtain ⟨n, k, An, cn, Ak, ck, e, ho, h1, h2, hn, ks, hr, hkk⟩ := h 0 (by omega)
    refine ⟨.cons n k f, by simp [F.len, hf], An, cn, Ak, ck, xs.drop 6, ks, ?_, ho, h1, h2, hn, hr, hkk, hk⟩
    rw [← e]
    simp [List.take_append_drop]
set_option maxRecDepth 100000 in
theorem open_val {H : Type} {enc : TypeId × Value → H} {w : World} : ∀ (fuel : Nat) (cs : List Value) (x : DataW H × List MemPlace),
    DataW.trod enc Try.prog w 0 (fun _ => true) true fuel 25 cs = some x → Lt Try.prog 25 x.1 →
    ∃ n k An cn Ak ck, cs = ncells n An cn Ak (F.len k) ck ∧ n.ok ∧ okl n.names.length cn ∧ okl (F.len k) ck ∧ RdS w (· < w.heap.size) 1 An n.names.length (n.names.map sv) ∧ Kids w (· < w.heap.size) Ak k := by
  intro fuel
  induction fuel using Nat.strongRecOn with
  | ind fuel ih =>
  intro cs x h hw
  have c25 : Try.prog.cellsOf 25 = 6 := by kernel_rfl
  have b25 : Try.prog.bytesOf 25 = 88 := by kernel_rfl
  have c3 : Try.prog.cellsOf 3 = 1 := by kernel_rfl
  have c9 : Try.prog.cellsOf 9 = 1 := by kernel_rfl
  have b9 : Try.prog.bytesOf 9 = 16 := by kernel_rfl
  have c22 : Try.prog.cellsOf 22 = 1 := by kernel_rfl
  have c23 : Try.prog.cellsOf 23 = 1 := by kernel_rfl
  obtain ⟨xs, m, rfl, hx, hlen, hxl, hf⟩ := DataW.trod_struct Try.underlying25 h
  rw [c25] at hlen
  match cs, hlen with
  | [k0, k1, k2, k3, k4, k5], _ =>
  match xs, hxl with
  | [y0, y1, y2, y3, y4, y5], _ =>
  have f0 : DataW.trod enc Try.prog w 0 (fun _ => true) true m 3 (([k0, k1, k2, k3, k4, k5].drop 0).take (Try.prog.cellsOf 3)) = some y0 := hf 0 _ rfl
  have f1 : DataW.trod enc Try.prog w 0 (fun _ => true) true m 3 (([k0, k1, k2, k3, k4, k5].drop 1).take (Try.prog.cellsOf 3)) = some y1 := hf 1 _ rfl
  have f2 : DataW.trod enc Try.prog w 0 (fun _ => true) true m 3 (([k0, k1, k2, k3, k4, k5].drop 2).take (Try.prog.cellsOf 3)) = some y2 := hf 2 _ rfl
  have f3 : DataW.trod enc Try.prog w 0 (fun _ => true) true m 9 (([k0, k1, k2, k3, k4, k5].drop 3).take (Try.prog.cellsOf 9)) = some y3 := hf 3 _ rfl
  have f4 : DataW.trod enc Try.prog w 0 (fun _ => true) true m 22 (([k0, k1, k2, k3, k4, k5].drop 4).take (Try.prog.cellsOf 22)) = some y4 := hf 4 _ rfl
  have f5 : DataW.trod enc Try.prog w 0 (fun _ => true) true m 23 (([k0, k1, k2, k3, k4, k5].drop 5).take (Try.prog.cellsOf 23)) = some y5 := hf 5 _ rfl
  simp only [c3, c9, c22, c23, List.drop, List.take, List.getElem?_cons_zero, List.getElem?_cons_succ] at f0 f1 f2 f3 f4 f5
  obtain ⟨n0, e0, _, w0⟩ := DataW.trod_int Try.underlying3 f0
  obtain ⟨n1, e1, _, w1⟩ := DataW.trod_int Try.underlying3 f1
  obtain ⟨n2, e2, _, w2⟩ := DataW.trod_int Try.underlying3 f2
  obtain ⟨s, e3, hs3, _⟩ := DataW.trod_string Try.underlying9 f3
  have hwt : ∀ (j : Nat) (t : TypeId) (y : DataW H × List MemPlace), ([3, 3, 3, 9, 22, 23] : List TypeId)[j]? = some t → [y0, y1, y2, y3, y4, y5][j]? = some y → Lt Try.prog t y.1 := by
    intro j t y ht hy n hn
    refine hw n ?_
    rw [hx]
    simp only [DataW.weights, Try.underlying25]
    refine DataW.weights_mem_each (j := j) (t := t) (d := y.1) ht ?_ n hn
    rw [List.getElem?_map, hy]; rfl
  obtain ⟨A4, c4, l4, e4, ok4, len4, r4⟩ := open_texts Try.underlying22 Try.underlying9 c9 b9 f4 (hwt 4 _ _ rfl rfl)
  have hs : s.toList.length ≤ 140737488351232 := by
    have := hwt 3 _ y3 rfl rfl s.data.toList.length (by rw [hs3]; simp [DataW.weights])
    simpa [ByteArray.toList_eq] using this
  have hk : ∃ A c, ∃ k : F, [k5] = [Value.slice A k.len c] ∧ okl k.len c ∧ Kids w (· < w.heap.size) A k := by
    have hw5 := hwt 5 _ y5 rfl rfl
    rcases DataW.trod_slice Try.underlying23 f5 with ⟨e5, _⟩ | ⟨a, len, cap, elems, rest, n, hmn, e5, hx5, _, hl, hm, hel, hes, hsp, _⟩
    · exact ⟨none, 0, .nil, e5, ⟨by simp [F.len], by simp [F.len]⟩, [], ⟨by simp [F.len], fun h => absurd h (by simp [F.len])⟩, rfl⟩
    · have hrest := (hsp rfl).1
      have hcap : cap * 88 ≤ 140737488351232 := by
        have := hw5 ((elems.length + rest.length) * Try.prog.bytesOf 25) (by rw [hx5]; simp [DataW.weights, Try.underlying23])
        rw [b25] at this
        have h2 : elems.length + rest.length = cap := by omega
        rwa [h2] at this
      have each : ∀ i, i < len → ∃ cs', w.cells? 0 (a.add (i * 6)) 6 = some cs' ∧ ∃ n k An cn Ak ck, cs' = ncells n An cn Ak (F.len k) ck ∧ n.ok ∧ okl n.names.length cn ∧ okl (F.len k) ck ∧ RdS w (· < w.heap.size) 1 An n.names.length (n.names.map sv) ∧ Kids w (· < w.heap.size) Ak k := by
        intro i hi
        have h1 := hes i hi
        rw [c25] at h1
        rw [List.getElem?_eq_getElem (by omega)] at h1
        obtain ⟨cs', h2, h3⟩ := Option.bind_eq_some_iff.1 h1
        refine ⟨cs', h2, ih n (by omega) cs' _ h3 fun z hz => hw5 z ?_⟩
        rw [hx5]
        simp only [DataW.weights, Try.underlying23, List.mem_cons, List.mem_append]
        right; left
        refine weightsAll_mem (j := i) ?_ z hz
        rw [List.getElem?_map, List.getElem?_eq_getElem (by omega)]; rfl
      obtain ⟨f, hfl, hfk⟩ := forest_of (w := w) (S := (· < w.heap.size)) len (rowOf w a (len * 6)) (rowOf_len _ _) (fun i hi => by
        obtain ⟨cs', h1, h2⟩ := each i hi
        rw [row_elem h1 hi]; exact h2)
      subst hfl
      exact ⟨some a, cap, f, e5, ⟨hl, by omega⟩, _, row_rd (by omega) (fun i hi => by obtain ⟨cs', h1, _⟩ := each i hi; exact ⟨_, h1⟩), hfk⟩
  obtain ⟨A5, c5, k, e5, ok5, r5⟩ := hk
  simp only [List.cons.injEq, and_true] at e0 e1 e2 e3 e4 e5
  subst e0; subst e1; subst e2; subst e3; subst e4; subst e5
  have wf : ∀ {z : Int}, (Lit.int .i64 z).wf = true → I64 z := fun h => i64_of_wf h
  exact ⟨⟨n0, n1, n2, s.toList, l4⟩, k, A4, c4, A5, c5, by simp [ncells, str_data], ⟨wf w0, wf w1, wf w2, hs, len4⟩, ok4, ok5, r4, r5⟩
set_option maxRecDepth 100000 in
/-- An argument of type Value. -/
theorem open_V {H : Type} {enc : TypeId × Value → H} {w : World} {r : Reach} {b0 : Nat} {v : Value} {d : DataW H} {p : List MemPlace} (hval : Value.okWide Try.prog w r b0 25 v)
    (h : DataW.Trod enc Try.prog w 0 (fun _ => true) true 25 v d p) (hw : Lt Try.prog 25 d) : ∃ n k, Vo w (· < w.heap.size) n k v := by
  obtain ⟨cs, rfl, hsz⟩ := WideShapes.okWide_struct Try.underlying25 hval
  obtain ⟨fuel, hf⟩ := h
  obtain ⟨n, k, An, cn, Ak, ck, e, h1, h2, h3, h4, h5⟩ := open_val fuel _ _ hf hw
  refine ⟨n, k, An, cn, Ak, ck, ?_, h1, h2, h3, h4, h5⟩
  have e' : cs.toList = ncells n An cn Ak k.len ck := e
  rw [← e']
end Go.Proofs.Ytfcbcbpnlnkpcaa
/- A text argument opened. -/
namespace Go.Proofs.Ytfcbcbpnlnkpcaa
set_option linter.all false
open Go.RowKit Go.ChangeShapes
variable {H : Type} {enc : TypeId × Value → H} {P : Program} {w : World}
variable {H : Type} {enc : TypeId × Value → H} {w : World} {r : Reach} {b0 : Nat} {v : Value} {d : DataW H} {p : List MemPlace}
set_option maxRecDepth 100000 in
theorem arg_str (o : Value.okWide Try.prog w r b0 9 v) (h : DataW.Trod enc Try.prog w 0 (fun _ => true) true 9 v d p) (hw : Lt Try.prog 9 d) : ∃ l : List UInt8, v = .string (str l) ∧ l.length ≤ 140737488351232 := by
  obtain ⟨s, rfl⟩ := WideShapes.okWide_string Try.underlying9 o
  obtain ⟨fuel, hf⟩ := h
  obtain ⟨s', e, hx, _⟩ := DataW.trod_string Try.underlying9 hf
  have e2 : [Value.string s] = [Value.string s'] := e
  injection e2 with e2
  injection e2 with e3
  subst e3
  refine ⟨s.toList, by rw [str_data], ?_⟩
  have hd : d = .lit (.string s.data.toList) := by injection hx
  have := hw s.data.toList.length (by rw [hd]; simp [DataW.weights])
  simpa [ByteArray.toList_eq] using this
end Go.Proofs.Ytfcbcbpnlnkpcaa
