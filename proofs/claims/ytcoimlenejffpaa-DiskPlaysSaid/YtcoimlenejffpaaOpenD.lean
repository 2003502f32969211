/- Arguments opened: bytes, rows of bytes, texts, numbers. -/
import Derived.Test.YtcoimlenejffpaaCore
import Derived.ChangeArms
import Derived.Deep.Slices
import Derived.SizedLaws
import Derived.ChangeOld
namespace Go.Proofs.Ytcoimlenejffpaa
set_option linter.all false
open Go.RowKit Go.ChangeShapes
theorem weightsAll_mem {H : Type} {P : Program} {e : TypeId} : ∀ {ds : List (DataW H)} {j : Nat} {d : DataW H}, ds[j]? = some d → ∀ n ∈ d.weights P e, n ∈ DataW.weightsAll P e ds
  | d0 :: ds, 0, d, hd, n, hn => by
    simp only [List.getElem?_cons_zero, Option.some.injEq] at hd
    subst hd
    simp only [DataW.weightsAll, List.mem_append]
    exact Or.inl hn
  | d0 :: ds, j + 1, d, hd, n, hn => by
    simp only [List.getElem?_cons_succ] at hd
    simp only [DataW.weightsAll, List.mem_append]
    exact Or.inr (weightsAll_mem hd n hn)
  | [], _, _, hd, _, _ => by simp at hd
/-- All that a datum weighs is within reach. -/
def Lt {H : Type} (P : Program) (t : TypeId) (d : DataW H) : Prop := ∀ n ∈ d.weights P t, n ≤ 140737488351232
theorem Lt.of_each {H : Type} {P : Program} {ts : List TypeId} {ds : List (DataW H)} (h : (DataW.weightsEach P ts ds).all (· ≤ reachBytes) = true) {j : Nat} {t : TypeId} {d : DataW H} (ht : ts[j]? = some t) (hd : ds[j]? = some d) : Lt P t d := fun n hn => by
  have := List.all_eq_true.1 h _ (DataW.weights_mem_each ht hd n hn)
  exact of_decide_eq_true this
section
variable {H : Type} {enc : TypeId × Value → H} {P : Program} {w : World}
/-- The cells of a row of elements, read off memory. -/
def rowOf (w : World) (a : Addr) (n : Nat) : List Value := (List.range n).map fun j => (w.cell? (a.add j)).getD (Value.bool false)
theorem rowOf_len (a : Addr) (n : Nat) : (rowOf w a n).length = n := by simp [rowOf]
theorem rowOf_get {a : Addr} {n j : Nat} (h : j < n) : (rowOf w a n)[j]? = some ((w.cell? (a.add j)).getD (Value.bool false)) := by
  unfold rowOf
  rw [List.getElem?_map, List.getElem?_range h]
  rfl
/-- Elements of sz cells each, sz > 0: what each one's cells are. -/
theorem row_elem {a : Addr} {sz n i : Nat} {cs : List Value} (hc : w.cells? 0 (a.add (i * sz)) sz = some cs) (hi : i < n) : ((rowOf w a (n * sz)).drop (i * sz)).take sz = cs := by
  obtain ⟨_, hl, hg⟩ := World.cells?_some hc
  have hle : i * sz + sz ≤ n * sz := by
    have := Nat.mul_le_mul_right sz (show i + 1 ≤ n by omega)
    rw [Nat.add_mul, Nat.one_mul] at this
    exact this
  apply List.ext_getElem?
  intro j
  rw [List.getElem?_take]
  split
  · rename_i hj
    rw [List.getElem?_drop, rowOf_get (by omega)]
    have := hg j hj
    rw [show (a.add (i * sz)).add j = a.add (i * sz + j) from Addr.add_add _ _ _] at this
    rw [this, List.getElem?_eq_getElem (by omega)]
    rfl
  · rw [List.getElem?_eq_none (by omega)]
theorem row_cell {a : Addr} {sz n : Nat} (hsz : 0 < sz) (hc : ∀ i, i < n → ∃ cs, w.cells? 0 (a.add (i * sz)) sz = some cs) {j : Nat} (hj : j < n * sz) : ∃ u, w.cell? (a.add j) = some u := by
  have hi : j / sz < n := by rw [Nat.div_lt_iff_lt_mul hsz]; exact hj
  obtain ⟨cs, h⟩ := hc _ hi
  obtain ⟨_, hl, hg⟩ := World.cells?_some h
  have hm : j % sz < sz := Nat.mod_lt _ hsz
  have := hg _ hm
  rw [show (a.add (j / sz * sz)).add (j % sz) = a.add (j / sz * sz + j % sz) from Addr.add_add _ _ _, Nat.div_add_mod'] at this
  exact ⟨_, this.trans (List.getElem?_eq_getElem (by omega))⟩
theorem row_rd {a : Addr} {sz n : Nat} (hsz : 0 < sz) (hc : ∀ i, i < n → ∃ cs, w.cells? 0 (a.add (i * sz)) sz = some cs) : Rd w w.heap.size sz (some a) n (rowOf w a (n * sz)) := by
  refine ⟨rowOf_len _ _, fun hn => ?_⟩
  obtain ⟨b, off, spot⟩ := a
  obtain ⟨u, hu⟩ := row_cell hsz hc (j := 0) (by have := Nat.mul_pos hn hsz; omega)
  have hspot : spot = none := by simpa [Addr.add] using World.cell?_spot hu
  subst hspot
  refine ⟨b, off, rfl, World.block_lt_of_cell? w _ hu, fun j u hu => ?_⟩
  have hj : j < n * sz := by
    rcases Nat.lt_or_ge j (n * sz) with h | h
    · exact h
    · rw [List.getElem?_eq_none (by rw [rowOf_len]; exact h)] at hu; cases hu
  rw [rowOf_get hj] at hu
  injection hu with hu
  obtain ⟨v, hv⟩ := row_cell hsz hc hj
  rw [hv] at hu
  rw [add_mk] at hv
  rw [hv, ← hu]
  rfl
/-- A row of elements of one cell each, opened: each element by 'open'. -/
theorem open_row {α : Type} {R : Value → α → Prop} {t e : TypeId} {fuel : Nat} {cs : List Value} {x : DataW H × List MemPlace} {bs : Nat} (hb : 0 < bs) (ht : P.underlying t = some (.slice e)) (ce : P.cellsOf e = 1) (be : P.bytesOf e = bs)
    (h : DataW.trod enc P w 0 (fun _ => true) true fuel t cs = some x) (hw : Lt P t x.1)
    (he : ∀ (fuel : Nat) (cs : List Value) (y : DataW H × List MemPlace), DataW.trod enc P w 0 (fun _ => true) true fuel e cs = some y → Lt P e y.1 → ∃ v a, cs = [v] ∧ R v a) :
    ∃ A c, ∃ vs : List Value, ∃ l : List α, cs = [.slice A l.length c] ∧ (l.length ≤ c ∧ c ≤ 9223372036854775807) ∧ c * bs ≤ 140737488351232 ∧ Rd w w.heap.size 1 A l.length vs ∧ ∀ (i : Nat) (v : Value) (a : α), vs[i]? = some v → l[i]? = some a → R v a := by
  rcases DataW.trod_slice ht h with ⟨rfl, rfl⟩ | ⟨a, len, cap, elems, rest, n, rfl, rfl, rfl, _, hl, hm, hel, hes, hsp, _⟩
  · exact ⟨none, 0, [], [], rfl, ⟨by simp, by simp⟩, by simp, Rd.nil_ _, by simp⟩
  · have hrest := (hsp rfl).1
    have hcap : cap * bs ≤ 140737488351232 := by
      have := hw ((elems.length + rest.length) * P.bytesOf e) (by simp [DataW.weights, ht])
      rw [be] at this
      have h2 : elems.length + rest.length = cap := by omega
      rwa [h2] at this
    have each : ∀ i, i < len → ∃ v a', w.cells? 0 (a.add (i * 1)) 1 = some [v] ∧ R v a' := by
      intro i hi
      have h1 := hes i hi
      rw [ce] at h1
      rw [List.getElem?_eq_getElem (by omega)] at h1
      obtain ⟨cs', h2, h3⟩ := Option.bind_eq_some_iff.1 h1
      obtain ⟨v, a', rfl, hR⟩ := he _ _ _ h3 (fun n hn => hw n (by
        simp only [DataW.weights, ht, List.mem_cons, List.mem_append]
        right; left
        refine weightsAll_mem (j := i) ?_ n hn
        rw [List.getElem?_map, List.getElem?_eq_getElem (by omega)]; rfl))
      exact ⟨v, a', h2, hR⟩
    have hr := row_rd (w := w) (a := a) (sz := 1) (n := len) (by omega) (fun i hi => by obtain ⟨v, a', hs, _⟩ := each i hi; exact ⟨_, hs⟩)
    have hpick : ∀ k, k ≤ len → ∃ l : List α, l.length = k ∧ ∀ (i : Nat) (v : Value) (a' : α), (rowOf w a (len * 1))[i]? = some v → l[i]? = some a' → R v a' := by
      intro k
      induction k with
      | zero => intro _; exact ⟨[], rfl, by simp⟩
      | succ k ih =>
        intro hk
        obtain ⟨l, hl, hR⟩ := ih (by omega)
        obtain ⟨v, a', hc, hv⟩ := each k (by omega)
        refine ⟨l ++ [a'], by simp [hl], fun i u z hu hz => ?_⟩
        rcases Nat.lt_or_ge i k with hi | hi
        · rw [List.getElem?_append_left (by omega)] at hz
          exact hR i u z hu hz
        · rw [List.getElem?_append_right (by omega)] at hz
          have hi2 : i = k := by
            have := (List.getElem?_eq_some_iff.1 hz).1
            simp at this; omega
          subst hi2
          rw [hl, Nat.sub_self] at hz
          injection hz with hz
          subst hz
          have h0 := cell_of_cells?_one hc
          rw [Nat.mul_one] at h0
          rw [rowOf_get (by omega), h0] at hu
          injection hu with hu
          rw [← hu]; exact hv
    obtain ⟨l, hl2, hR⟩ := hpick len (Nat.le_refl _)
    have hcm : cap ≤ 9223372036854775807 := by
      have := Nat.le_mul_of_pos_right cap hb
      omega
    exact ⟨some a, cap, _, l, by rw [hl2], ⟨by omega, hcm⟩, hcap, by rw [hl2]; exact hr, hR⟩
theorem map_of_R {α : Type} {f : α → Value} {vs : List Value} {l : List α} {n : Nat} (hv : vs.length = n) (hl : l.length = n) (h : ∀ (i : Nat) (v : Value) (a : α), vs[i]? = some v → l[i]? = some a → v = f a) : vs = l.map f := by
  apply List.ext_getElem?
  intro i
  rw [List.getElem?_map]
  rcases Nat.lt_or_ge i n with hi | hi
  · have e1 := List.getElem?_eq_getElem (l := vs) (show i < vs.length by omega)
    have e2 := List.getElem?_eq_getElem (l := l) (show i < l.length by omega)
    rw [e1, e2]
    exact congrArg some (h i _ _ e1 e2)
  · rw [List.getElem?_eq_none (by omega), List.getElem?_eq_none (by omega)]; rfl
/-- A slice of bytes. -/
theorem open_bytes {t e : TypeId} {fuel : Nat} {cs : List Value} {x : DataW H × List MemPlace} (ht : P.underlying t = some (.slice e)) (he : P.underlying e = some (.int .u8)) (ce : P.cellsOf e = 1) (be : P.bytesOf e = 1)
    (h : DataW.trod enc P w 0 (fun _ => true) true fuel t cs = some x) (hw : Lt P t x.1) :
    ∃ A c, ∃ l : List UInt8, cs = [.slice A l.length c] ∧ (l.length ≤ c ∧ c ≤ 140737488351232) ∧ Bs w w.heap.size A l.length l := by
  obtain ⟨A, c, vs, l, rfl, h1, h2, h3, h4⟩ := open_row (R := fun v (b : UInt8) => v = bv b) (by omega) ht ce be h hw (fun fuel cs y hy _ => by
    obtain ⟨n, rfl, _, hwf⟩ := DataW.trod_int he hy
    obtain ⟨b, rfl⟩ := u8_of_wf hwf
    exact ⟨_, b, rfl, rfl⟩)
  refine ⟨A, c, l, rfl, ⟨h1.1, by omega⟩, ?_⟩
  have := map_of_R (f := bv) (by have := h3.1; simpa using this) rfl h4
  rw [this] at h3
  exact h3
/-- Slices of bytes, as they lie in memory. -/
def RowsB (w : World) (B : Nat) (A : Option Addr) (vs : List Value) (R : List (List UInt8)) : Prop :=
  Rd w B 1 A R.length vs ∧ ∀ (i : Nat) (v : Value) (l : List UInt8), vs[i]? = some v → R[i]? = some l → ∃ A' c, v = .slice A' l.length c ∧ l.length ≤ c ∧ c ≤ 140737488351232 ∧ Bs w B A' l.length l
theorem RowsB.below {w w' : World} {B : Nat} {A : Option Addr} {vs : List Value} {R : List (List UInt8)} (h : RowsB w B A vs R) (hb : Below B w w') : RowsB w' B A vs R :=
  ⟨h.1.below hb, fun i v l hv hl => by obtain ⟨A', c, e, h1, h2, h3⟩ := h.2 i v l hv hl; exact ⟨A', c, e, h1, h2, h3.below hb⟩⟩
theorem RowsB.at_ {w : World} {B i : Nat} {A : Option Addr} {vs : List Value} {R : List (List UInt8)} (h : RowsB w B A vs R) (hi : i < R.length) :
    ∃ g off A' c l, A = some ⟨g, off, none⟩ ∧ g < B ∧ R[i]? = some l ∧ w.cell? ⟨g, off + i, none⟩ = some (.slice A' l.length c) ∧ l.length ≤ c ∧ c ≤ 140737488351232 ∧ Bs w B A' l.length l := by
  obtain ⟨g, off, u, hA, hg, hu, hc⟩ := h.1.at_ hi
  obtain ⟨A', c, e, h1, h2, h3⟩ := h.2 i u _ hu (List.getElem?_eq_getElem hi)
  exact ⟨g, off, A', c, _, hA, hg, List.getElem?_eq_getElem hi, by rw [hc, e], h1, h2, h3⟩
theorem open_rows {t e u : TypeId} {fuel : Nat} {cs : List Value} {x : DataW H × List MemPlace} (ht : P.underlying t = some (.slice e)) (he : P.underlying e = some (.slice u)) (hu : P.underlying u = some (.int .u8)) (ce : P.cellsOf e = 1) (be : P.bytesOf e = 24) (cu : P.cellsOf u = 1) (bu : P.bytesOf u = 1)
    (h : DataW.trod enc P w 0 (fun _ => true) true fuel t cs = some x) (hw : Lt P t x.1) :
    ∃ A c, ∃ vs : List Value, ∃ R : List (List UInt8), cs = [.slice A R.length c] ∧ (R.length ≤ c ∧ c ≤ 140737488351232) ∧ RowsB w w.heap.size A vs R := by
  obtain ⟨A, c, vs, l, rfl, h1, h2, h3, h4⟩ := open_row (R := fun v (b : List UInt8) => ∃ A' c, v = .slice A' b.length c ∧ b.length ≤ c ∧ c ≤ 140737488351232 ∧ Bs w w.heap.size A' b.length b) (by omega) ht ce be h hw (fun fuel cs y hy hl => by
    obtain ⟨A, c, l, rfl, h5, h6⟩ := open_bytes he hu cu bu hy hl
    exact ⟨_, l, rfl, A, c, rfl, h5.1, h5.2, h6⟩)
  exact ⟨A, c, vs, l, rfl, ⟨h1.1, by omega⟩, h3, h4⟩
end
section
variable {H : Type} {enc : TypeId × Value → H} {w : World} {r : Reach} {b0 : Nat} {v : Value} {d : DataW H} {p : List MemPlace}
set_option maxRecDepth 100000 in
theorem arg_rows (o : Value.okWide Try.prog w r b0 22 v) (h : DataW.Trod enc Try.prog w 0 (fun _ => true) true 22 v d p) (hw : Lt Try.prog 22 d) :
    ∃ A c, ∃ vs : List Value, ∃ R : List (List UInt8), v = .slice A R.length c ∧ (R.length ≤ c ∧ c ≤ 140737488351232) ∧ RowsB w w.heap.size A vs R := by
  obtain ⟨a, n, c, rfl⟩ := WideShapes.okWide_slice Try.underlying22 o
  obtain ⟨fuel, hf⟩ := h
  obtain ⟨A, c', vs, R, e, h1, h2⟩ := open_rows (x := (d, p)) Try.underlying22 Try.underlying23 Try.underlying5 (by kernel_rfl) (by kernel_rfl) (by kernel_rfl) (by kernel_rfl) hf hw
  have e2 : [Value.slice a n c] = [Value.slice A R.length c'] := e
  injection e2 with e2
  exact ⟨A, c', vs, R, e2, h1, h2⟩
set_option maxRecDepth 100000 in
theorem arg_bytes (o : Value.okWide Try.prog w r b0 23 v) (h : DataW.Trod enc Try.prog w 0 (fun _ => true) true 23 v d p) (hw : Lt Try.prog 23 d) :
    ∃ A c, ∃ l : List UInt8, v = .slice A l.length c ∧ (l.length ≤ c ∧ c ≤ 140737488351232) ∧ Bs w w.heap.size A l.length l := by
  obtain ⟨a, n, c, rfl⟩ := WideShapes.okWide_slice Try.underlying23 o
  obtain ⟨fuel, hf⟩ := h
  obtain ⟨A, c', l, e, h1, h2⟩ := open_bytes (x := (d, p)) Try.underlying23 Try.underlying5 (by kernel_rfl) (by kernel_rfl) hf hw
  have e2 : [Value.slice a n c] = [Value.slice A l.length c'] := e
  injection e2 with e2
  exact ⟨A, c', l, e2, h1, h2⟩
set_option maxRecDepth 100000 in
theorem arg_int (o : Value.okWide Try.prog w r b0 3 v) (h : DataW.Trod enc Try.prog w 0 (fun _ => true) true 3 v d p) : ∃ n : Int, v = .int .i64 n ∧ -9223372036854775808 ≤ n ∧ n ≤ 9223372036854775807 := by
  obtain ⟨n, rfl⟩ := WideShapes.okWide_int Try.underlying3 o
  obtain ⟨fuel, hf⟩ := h
  obtain ⟨m, e, _, hwf⟩ := DataW.trod_int Try.underlying3 hf
  have e2 : [Value.int .i64 n] = [Value.int .i64 m] := e
  injection e2 with e2
  injection e2 with _ e3
  subst e3
  exact ⟨n, rfl, i64_of_wf hwf⟩
set_option maxRecDepth 100000 in
theorem arg_bool (o : Value.okWide Try.prog w r b0 4 v) : ∃ b : Bool, v = .bool b := WideShapes.okWide_bool Try.underlying4 o
set_option maxRecDepth 100000 in
theorem arg_str (o : Value.okWide Try.prog w r b0 9 v) (h : DataW.Trod enc Try.prog w 0 (fun _ => true) true 9 v d p) (hw : Lt Try.prog 9 d) : ∃ l : List UInt8, v = .string (str l) ∧ l.length ≤ 140737488351232 := by
  obtain ⟨s, rfl⟩ := WideShapes.okWide_string Try.underlying9 o
  obtain ⟨fuel, hf⟩ := h
  obtain ⟨s', e, hx, _⟩ := DataW.trod_string Try.underlying9 hf
  have e2 : [Value.string s] = [Value.string s'] := e
  injection e2 with e2
  injection e2 with e3
  subst e3
  refine ⟨s.toList, by rw [str_data], ?_⟩
  have hd : d = .lit (.string s.data.toList) := by injection hx
  have := hw s.data.toList.length (by rw [hd]; simp [DataW.weights])
  simpa [ByteArray.toList_eq] using this
end
end Go.Proofs.Ytcoimlenejffpaa
