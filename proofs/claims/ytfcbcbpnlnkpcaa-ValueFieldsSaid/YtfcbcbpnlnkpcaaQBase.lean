/- Words for memory that all walks of this seat use: a slice that reads as a list of cells; a block that is known whole; append from whatever source onto a slice of the call's own. No condition of its own. -/
import Derived.Test.YtfcbcbpnlnkpcaaRows
import Derived.ProofKit
import Derived.WalkKit
import Derived.WalkSpells
import Derived.WalkLawsBesides
import Derived.Below
import Derived.Laws.OwnMore
import Derived.Deep.AppendLies
import Derived.Deep.Draws
import Derived.Deep.QuietTactic
import Derived.Maps.AppendAt
import Derived.Lib.Hide
import Derived.Laws.BitsAllLaws
import Derived.Lib.SlBytesConst
import Derived.OneCell
import Derived.LoopTactic
namespace Go.Proofs.Ytfcbcbpnlnkpcaa
set_option linter.all false
open Go.RowKit
set_option linter.all false

theorem add_mk (g off j : Nat) : (⟨g, off, none⟩ : Addr).add j = ⟨g, off + j, none⟩ := by
  unfold Addr.add; split <;> simp_all

/-- The slice value '.slice A n _' reads, cell by cell, as 'xs'; all its cells lie below block B. -/
def Rd (w : World) (B sz : Nat) (A : Option Addr) (n : Nat) (xs : List Value) : Prop :=
  xs.length = n * sz ∧ (0 < n → ∃ g off, A = some ⟨g, off, none⟩ ∧ g < B ∧ ∀ j u, xs[j]? = some u → w.cell? ⟨g, off + j, none⟩ = some u)

section
variable {w w' : World} {B B' sz n : Nat} {A : Option Addr} {xs : List Value}
theorem Rd.nil_ (A : Option Addr) : Rd w B sz A 0 [] := ⟨by simp, fun h => absurd h (by omega)⟩
theorem Rd.len (h : Rd w B sz A n xs) : xs.length = n * sz := h.1
theorem Rd.at_ {k : Nat} (h : Rd w B 1 A n xs) (hk : k < n) : ∃ g off u, A = some ⟨g, off, none⟩ ∧ g < B ∧ xs[k]? = some u ∧ w.cell? ⟨g, off + k, none⟩ = some u := by
  obtain ⟨g, off, e, hb, hc⟩ := h.2 (by omega)
  have hl : k < xs.length := by have := h.1; omega
  exact ⟨g, off, xs[k], e, hb, List.getElem?_eq_getElem hl, hc k _ (List.getElem?_eq_getElem hl)⟩
theorem Rd.keep (h : Rd w B sz A n xs) (hk : ∀ p : Addr, p.block < B → w'.cell? p = w.cell? p) : Rd w' B sz A n xs :=
  ⟨h.1, fun hn => by
    obtain ⟨g, off, e, hb, hc⟩ := h.2 hn
    exact ⟨g, off, e, hb, fun j u hu => (hk _ hb).trans (hc j u hu)⟩⟩
theorem Rd.more (h : Rd w B sz A n xs) (hB : B ≤ B') : Rd w B' sz A n xs :=
  ⟨h.1, fun hn => by
    obtain ⟨g, off, e, hb, hc⟩ := h.2 hn
    exact ⟨g, off, e, by omega, hc⟩⟩
theorem Rd.below (h : Rd w B sz A n xs) (hb : Below B w w') : Rd w' B sz A n xs := h.keep fun _ hp => hb.cell hp
theorem Rd.upto (h : Rd w B sz A n xs) (hb : Below B w w') (hB : B ≤ w'.heap.size) : Rd w' w'.heap.size sz A n xs := (h.below hb).more hB
theorem Rd.drew (h : Rd w B sz A n xs) : Rd w.drew B sz A n xs := h
theorem Rd.drewN (h : Rd w B sz A n xs) (k : Nat) : Rd (w.drewN k) B sz A n xs := h
theorem Rd.alloc (h : Rd w B sz A n xs) (hB : B ≤ w.heap.size) (o : Obj) : Rd (w.alloc o) B sz A n xs := h.keep fun p hp => World.cell?_alloc_lt w o p (by omega)
theorem Rd.setCell (h : Rd w B sz A n xs) {p : Addr} (hB : B ≤ p.block) (u : Value) : Rd (w.setCell p u) B sz A n xs :=
  h.keep fun q hq => World.cell?_setCell_other w p q u (fun e => by subst e; omega)
theorem Rd.grown (h : Rd w B sz A n xs) {row : Option Nat} (hg : w.grownBy w' row) (hB : B ≤ w.heap.size) (hr : ∀ g, row = some g → B ≤ g) : Rd w' B sz A n xs :=
  h.keep fun p hp => World.cell?_of_block (hg.block p.block (by omega) (fun e => by have := hr _ e.symm; omega))
theorem Rd.take (h : Rd w B sz A n xs) {k : Nat} (hk : k ≤ n) : Rd w B sz A k (xs.take (k * sz)) := by
  refine ⟨by rw [List.length_take, h.1, Nat.min_eq_left (Nat.mul_le_mul_right _ hk)], fun hn => ?_⟩
  obtain ⟨g, off, e, hb, hc⟩ := h.2 (by omega)
  refine ⟨g, off, e, hb, fun j u hu => hc j u ?_⟩
  rw [List.getElem?_take] at hu
  split at hu
  · exact hu
  · cases hu
theorem Rd.cut {k cap : Nat} (h : Rd w B sz A n xs) (hk : k ≤ n) (hc : n ≤ cap) :
    Rd w B sz (if cap = k then A else A.map (·.add (k * sz))) (n - k) (xs.drop (k * sz)) := by
  refine ⟨by rw [List.length_drop, h.1, Nat.sub_mul], fun hn => ?_⟩
  obtain ⟨g, off, rfl, hb, hcell⟩ := h.2 (by omega)
  rw [if_neg (by omega)]
  refine ⟨g, off + k * sz, by simp [add_mk], hb, fun j u hu => ?_⟩
  rw [Nat.add_assoc]
  exact hcell _ u (by rw [← hu, List.getElem?_drop])
theorem Rd.of_own {base : Nat} {e : TypeId} {c : Nat} (h : w.ownsRow base e sz (.slice A n c) n xs) : Rd w w.heap.size sz A n xs := by
  refine ⟨h.1, fun hn => ?_⟩
  rcases h.2 with ⟨hv, h0⟩ | ⟨g, cap, cur, hv, hb, hh, _⟩
  · omega
  · injection hv with hA
    refine ⟨g, 0, hA, (Array.getElem?_eq_some_iff.1 hh).1, fun j u hu => ?_⟩
    have := h.cells (g := g) (by simp [Value.ownBlock, hA]) j u hu
    rwa [add_mk] at this
theorem own_form {base : Nat} {e : TypeId} {v : Value} (h : w.ownsRow base e sz v n xs) : ∃ A c, v = .slice A n c ∧ n ≤ c ∧ c ≤ maxLen := by
  rcases h.2 with ⟨rfl, rfl⟩ | ⟨g, cap, cur, rfl, _, _, h1, h2, _⟩
  · exact ⟨none, 0, rfl, Nat.le_refl _, by simp [maxLen]⟩
  · exact ⟨_, cap, rfl, h1, h2⟩
theorem own_cap {base : Nat} {e : TypeId} {c : Nat} (h : w.ownsRow base e sz (.slice A n c) n xs) : n ≤ c ∧ c ≤ 9223372036854775807 := by
  obtain ⟨A2, c2, e, h3, h4⟩ := own_form h
  injection e with e1 e2 e3
  subst e3
  exact ⟨h3, h4⟩
theorem own_more {base base' : Nat} {e : TypeId} {v : Value} (h : w.ownsRow base e sz v n xs) (hb : base' ≤ base) : w.ownsRow base' e sz v n xs := by
  refine ⟨h.1, ?_⟩
  rcases h.2 with h0 | ⟨g, cap, cur, hv, hbg, r⟩
  · exact .inl h0
  · exact .inr ⟨g, cap, cur, hv, by omega, r⟩
theorem own_below {base : Nat} {e : TypeId} {v : Value} (h : w.ownsRow base e sz v n xs) (hb : Below w.heap.size w w') : w'.ownsRow base e sz v n xs := by
  refine ⟨h.1, ?_⟩
  rcases h.2 with h0 | ⟨g, cap, cur, hv, hbg, hh, r⟩
  · exact .inl h0
  · exact .inr ⟨g, cap, cur, hv, hbg, by rw [hb.block g (Array.getElem?_eq_some_iff.1 hh).1]; exact hh, r⟩
end

theorem below_drewN {B : Nat} {a w : World} (h : Below B a w) (n : Nat) : Below B a (w.drewN n) := ⟨h.os, h.tape, h.output, h.size, h.block⟩

/-- Two calls, one behind the other. -/
theorem bseq {a b c : World} (h : Below a.heap.size a b) (k : Below b.heap.size b c) : Below a.heap.size a c := h.trans (k.mono h.size)
/-- Behind a call: it answers 'v'; nothing that was there has turned. -/
def Ret (v : Value) (w : World) (e : Ending) (w' : World) : Prop := e = .returned v ∧ Below w.heap.size w w'
/-- Behind a call: it answers 'v'; the world is as it was. -/
def RetS (v : Value) (w : World) (e : Ending) (w' : World) : Prop := e = .returned v ∧ w = w'
def Drew (w w' : World) : Prop := ∃ m, w' = w.drewN m
theorem Drew.refl (w : World) : Drew w w := ⟨0, rfl⟩
theorem Drew.more {w w' : World} (h : Drew w w') (n : Nat) : Drew w (w'.drewN n) := by
  obtain ⟨m, rfl⟩ := h
  exact ⟨m + n, World.drewN_drewN _ _ _⟩
theorem Drew.below {w w' : World} (h : Drew w w') (B : Nat) : Below B w w' := by
  obtain ⟨m, rfl⟩ := h
  exact below_drewN (Below.refl _ _) _
/-- Behind a call: it answers a slice of its own, with the cells 'xs'. -/
def RetOwn (e : TypeId) (sz n : Nat) (xs : List Value) (w : World) (en : Ending) (w' : World) : Prop :=
  ∃ A c, en = .returned (.slice A n c) ∧ w'.ownsRow w.heap.size e sz (.slice A n c) n xs ∧ Below w.heap.size w w' ∧ n ≤ c ∧ c ≤ 9223372036854775807

section
variable {P : Program} (w : World)
theorem run_append_of_nil (base : Nat) (t ty e : TypeId) (i : TypeInfo) (size : Nat) (ht : P.underlying t = some (.slice e)) (hi : P.info? e = some i)
    (v : Value) (n : Nat) (xs : List Value) (hown : w.ownsRow base e size v n xs) (c : Nat) : (Builtin.append_ #[t, t] ty #[v, .slice none 0 c]).run P w = .ok v w := by
  rcases hown.2 with ⟨rfl, rfl⟩ | ⟨g, cap, cur, rfl, _, _, hnc, _⟩
  · simp [Builtin.append_, run_underlying ht, sizeOf, typeInfo, hi, Builtin.lenOf, Builtin.firstCells]
  · simp [Builtin.append_, run_underlying ht, sizeOf, typeInfo, hi, Builtin.lenOf, Builtin.firstCells, hnc, storeCells]

theorem run_append_rd (base : Nat) (t ty e : TypeId) (i : TypeInfo) (z : Value) (size bytes : Nat) (ht : P.underlying t = some (.slice e)) (hi : P.info? e = some i) (hz : i.zero = some z)
    (hsize : i.size = size) (hby : i.bytes = bytes) (hzs : z.cells.size = size) (hsz : 0 < size)
    (v : Value) (n : Nat) (xs : List Value) (hown : w.ownsRow base e size v n xs)
    (B : Nat) (A : Option Addr) (m c : Nat) (news : List Value) (hr : Rd w B size A m news) (h1 : ∀ u ∈ news, u.oneCell' = true)
    (h63 : n + m ≤ maxLen) (hbytes : (n + m) * bytes ≤ 140737488355328) (hbase : base ≤ w.heap.size) :
    ∃ v' w', (Builtin.append_ #[t, t] ty #[v, .slice A m c]).run P w = .ok v' w' ∧ w'.ownsRow base e size v' (n + m) (xs ++ news) ∧ w.grownBy w' v.ownBlock ∧
      (v'.ownBlock = v.ownBlock ∨ v'.ownBlock = some w.heap.size) := by
  rcases A with _ | ad
  · have hm : m = 0 := by
      rcases Nat.eq_zero_or_pos m with h0 | h0
      · exact h0
      · obtain ⟨g, off, h, _⟩ := hr.2 h0
        cases h
    subst hm
    have hn : news = [] := List.eq_nil_of_length_eq_zero (by simpa using hr.1)
    subst hn
    exact ⟨v, w, run_append_of_nil w base t ty e i size ht hi v n xs hown c, by simpa using hown, World.grownBy.refl w _, .inl rfl⟩
  · have hcells : ∀ j u, news[j]? = some u → w.cell? (ad.add j) = some u := by
      intro j u hu
      rcases Nat.eq_zero_or_pos m with h0 | h0
      · subst h0
        have hn : news = [] := List.eq_nil_of_length_eq_zero (by simpa using hr.1)
        subst hn
        simp at hu
      · obtain ⟨g, off, h, _, hc⟩ := hr.2 h0
        injection h with h
        subst h
        rw [add_mk]
        exact hc j u hu
    obtain ⟨v', w', hrun, h2, h3, _, h5⟩ := run_append_own_at (P := P) w base t ty e i z size bytes ht hi hz hsize hby hzs hsz v n xs hown ad m c news hr.1 hcells h1 h63 hbytes hbase
    exact ⟨v', w', hrun, h2, h3, h5⟩

theorem wp_append_rd {o : Oper} {a : Act} {K : Act → World → Prop} {Q : Exit → Act → World → Prop} (s x : Operand) (t : TypeId)
    (ho : o.op = .call { callee := .builtin .append, args := #[s, x], argTypes := #[t, t] })
    (base : Nat) (e : TypeId) (i : TypeInfo) (z : Value) (size bytes : Nat) (ht : P.underlying t = some (.slice e)) (hi : P.info? e = some i) (hz : i.zero = some z)
    (hsize : i.size = size) (hby : i.bytes = bytes) (hzs : z.cells.size = size) (hsz : 0 < size)
    (v : Value) (n : Nat) (xs : List Value) (hs : a.eval s = v) (hown : w.ownsRow base e size v n xs)
    (B : Nat) (A : Option Addr) (m c : Nat) (news : List Value) (hx : a.eval x = .slice A m c) (hr : Rd w B size A m news) (h1 : ∀ u ∈ news, u.oneCell' = true)
    (h63 : n + m ≤ maxLen) (hbytes : (n + m) * bytes ≤ 140737488355328) (hbase : base ≤ w.heap.size)
    (h : ∀ A' c' w', w'.ownsRow base e size (.slice A' (n + m) c') (n + m) (xs ++ news) → Below base w w' → K (a.put o.dst (.slice A' (n + m) c')) w') : o.wp P a w K Q := by
  obtain ⟨v', w', hrun, h2, h3, h4⟩ := run_append_rd (P := P) w base t o.type e i z size bytes ht hi hz hsize hby hzs hsz v n xs hown B A m c news hr h1 h63 hbytes hbase
  obtain ⟨A', c', rfl, _, _⟩ := own_form h2
  unfold Oper.wp execOp
  simp only [ho, resolve, invoke, builtin, Sem.run_bind, Sem.run_pure, Result.andThen_ok, List.map_toArray, List.map_cons, List.map_nil, hs, hx, hrun]
  exact h A' c' w' h2 ((Below.refl base w).grown h3 hbase (fun k hk => (hown.lt k hk).1))

theorem wpList_append_rd {ops : Array Oper} {rest : List Oper} {o : Oper} {a : Act} {Q : Exit → Act → World → Prop} (hgd : o.guard = none) (s x : Operand) (t : TypeId)
    (ho : o.op = .call { callee := .builtin .append, args := #[s, x], argTypes := #[t, t] })
    (base : Nat) (e : TypeId) (i : TypeInfo) (z : Value) (size bytes : Nat) (ht : P.underlying t = some (.slice e)) (hi : P.info? e = some i) (hz : i.zero = some z)
    (hsize : i.size = size) (hby : i.bytes = bytes) (hzs : z.cells.size = size) (hsz : 0 < size)
    (v : Value) (n : Nat) (xs : List Value) (hs : a.eval s = v) (hown : w.ownsRow base e size v n xs)
    (B : Nat) (A : Option Addr) (m c : Nat) (news : List Value) (hx : a.eval x = .slice A m c) (hr : Rd w B size A m news) (h1 : ∀ u ∈ news, u.oneCell' = true)
    (h63 : n + m ≤ maxLen) (hbytes : (n + m) * bytes ≤ 140737488355328) (hbase : base ≤ w.heap.size)
    (h : ∀ A' c' w', w'.ownsRow base e size (.slice A' (n + m) c') (n + m) (xs ++ news) → Below base w w' → wpList P ops Q rest (a.put o.dst (.slice A' (n + m) c')) w') : wpList P ops Q (o :: rest) a w :=
  wpList_plain hgd fun _ hK => wp_append_rd w s x t ho base e i z size bytes ht hi hz hsize hby hzs hsz v n xs hs hown B A m c news hx hr h1 h63 hbytes hbase fun A' c' w' h2 h3 => hK _ _ (h A' c' w' h2 h3)
theorem wp_append_rg {o : Oper} {a : Act} {K : Act → World → Prop} {Q : Exit → Act → World → Prop} (s x : Operand) (t : TypeId)
    (ho : o.op = .call { callee := .builtin .append, args := #[s, x], argTypes := #[t, t] })
    (base : Nat) (e : TypeId) (i : TypeInfo) (z : Value) (size bytes : Nat) (ht : P.underlying t = some (.slice e)) (hi : P.info? e = some i) (hz : i.zero = some z)
    (hsize : i.size = size) (hby : i.bytes = bytes) (hzs : z.cells.size = size) (hsz : 0 < size)
    (v : Value) (n : Nat) (xs : List Value) (hs : a.eval s = v) (hown : w.ownsRow base e size v n xs)
    (B : Nat) (A : Option Addr) (m c : Nat) (news : List Value) (hx : a.eval x = .slice A m c) (hr : Rd w B size A m news) (h1 : ∀ u ∈ news, u.oneCell' = true)
    (h63 : n + m ≤ maxLen) (hbytes : (n + m) * bytes ≤ 140737488355328) (hbase : base ≤ w.heap.size)
    (h : ∀ A' c' w', w'.ownsRow base e size (.slice A' (n + m) c') (n + m) (xs ++ news) → Below base w w' → w.grownBy w' v.ownBlock → K (a.put o.dst (.slice A' (n + m) c')) w') : o.wp P a w K Q := by
  obtain ⟨v', w', hrun, h2, h3, h4⟩ := run_append_rd (P := P) w base t o.type e i z size bytes ht hi hz hsize hby hzs hsz v n xs hown B A m c news hr h1 h63 hbytes hbase
  obtain ⟨A', c', rfl, _, _⟩ := own_form h2
  unfold Oper.wp execOp
  simp only [ho, resolve, invoke, builtin, Sem.run_bind, Sem.run_pure, Result.andThen_ok, List.map_toArray, List.map_cons, List.map_nil, hs, hx, hrun]
  exact h A' c' w' h2 ((Below.refl base w).grown h3 hbase (fun k hk => (hown.lt k hk).1)) h3

theorem wpList_append_rg {ops : Array Oper} {rest : List Oper} {o : Oper} {a : Act} {Q : Exit → Act → World → Prop} (hgd : o.guard = none) (s x : Operand) (t : TypeId)
    (ho : o.op = .call { callee := .builtin .append, args := #[s, x], argTypes := #[t, t] })
    (base : Nat) (e : TypeId) (i : TypeInfo) (z : Value) (size bytes : Nat) (ht : P.underlying t = some (.slice e)) (hi : P.info? e = some i) (hz : i.zero = some z)
    (hsize : i.size = size) (hby : i.bytes = bytes) (hzs : z.cells.size = size) (hsz : 0 < size)
    (v : Value) (n : Nat) (xs : List Value) (hs : a.eval s = v) (hown : w.ownsRow base e size v n xs)
    (B : Nat) (A : Option Addr) (m c : Nat) (news : List Value) (hx : a.eval x = .slice A m c) (hr : Rd w B size A m news) (h1 : ∀ u ∈ news, u.oneCell' = true)
    (h63 : n + m ≤ maxLen) (hbytes : (n + m) * bytes ≤ 140737488355328) (hbase : base ≤ w.heap.size)
    (h : ∀ A' c' w', w'.ownsRow base e size (.slice A' (n + m) c') (n + m) (xs ++ news) → Below base w w' → w.grownBy w' v.ownBlock → wpList P ops Q rest (a.put o.dst (.slice A' (n + m) c')) w') : wpList P ops Q (o :: rest) a w :=
  wpList_plain hgd fun _ hK => wp_append_rg w s x t ho base e i z size bytes ht hi hz hsize hby hzs hsz v n xs hs hown B A m c news hx hr h1 h63 hbytes hbase fun A' c' w' h2 h3 h4 => hK _ _ (h A' c' w' h2 h3 h4)
end

/-- A byte as a cell. -/
def bv (b : UInt8) : Value := .int .u8 (b.toNat : Int)
/-- A slice of bytes that reads as a list. -/
abbrev Bs (w : World) (B : Nat) (A : Option Addr) (n : Nat) (l : List UInt8) : Prop := Rd w B 1 A n (l.map bv)
theorem Bs.len {w : World} {B n : Nat} {A : Option Addr} {l : List UInt8} (h : Bs w B A n l) : l.length = n := by simpa using Rd.len h
theorem Bs.at_ {w : World} {B n k : Nat} {A : Option Addr} {l : List UInt8} (h : Bs w B A n l) (hk : k < n) :
    ∃ g off b, A = some ⟨g, off, none⟩ ∧ g < B ∧ l[k]? = some b ∧ w.cell? ⟨g, off + k, none⟩ = some (.int .u8 (b.toNat : Int)) := by
  obtain ⟨g, off, u, hA, hg, hu, hc⟩ := Rd.at_ h hk
  rw [List.getElem?_map] at hu
  cases hb : l[k]? with
  | none => rw [hb] at hu; cases hu
  | some b => rw [hb] at hu; injection hu with hu; subst hu; exact ⟨g, off, b, hA, hg, rfl, hc⟩
theorem Bs.take {w : World} {B n : Nat} {A : Option Addr} {l : List UInt8} (h : Bs w B A n l) {k : Nat} (hk : k ≤ n) : Bs w B A k (l.take k) := by
  have := Rd.take h hk
  simpa [Bs, List.map_take] using this
theorem Bs.cut {w : World} {B n : Nat} {A : Option Addr} {l : List UInt8} {k cap : Nat} (h : Bs w B A n l) (hk : k ≤ n) (hc : n ≤ cap) :
    Bs w B (if cap = k then A else A.map (·.add k)) (n - k) (l.drop k) := by
  have := Rd.cut h hk hc
  simpa [Bs, List.map_drop] using this

theorem Rd.one {w : World} (g : Nat) (u : Value) (T : TypeId) (B : Nat) (hB : g < B) (h : w.heap[g]? = some (.cells #[u] T (0, 0))) : Rd w B 1 (some ⟨g, 0, none⟩) 1 [u] :=
  ⟨rfl, fun _ => ⟨g, 0, rfl, hB, fun j v hv => by
    have : j = 0 := by
      rcases Nat.eq_zero_or_pos j with h | h
      · exact h
      · rw [List.getElem?_eq_none (by simp; omega)] at hv; cases hv
    subst this
    injection hv with hv
    subst hv
    rw [cell_of_row w g _ #[u] T (0, 0) h]; rfl⟩⟩
theorem own_empty (w : World) (T : TypeId) (sz : Nat) : (w.alloc (.cells #[] T)).ownsRow w.heap.size T sz (.slice (some ⟨w.heap.size, 0, none⟩) 0 0) 0 [] :=
  World.ownsRow_made w #[] 0 (Nat.le_refl _) (by simp [maxLen]) (by simp)

theorem Bs.lit (w : World) (T : TypeId) (cs : Array Value) (fz : Nat × Nat) (l : List UInt8) (n : Nat) (h : cs = (l.map bv).toArray) (hn : n = l.length) :
    Bs (w.alloc (.cells cs T fz)) (w.alloc (.cells cs T fz)).heap.size (some ⟨w.heap.size, 0, none⟩) n l := by
  subst h; subst hn
  refine ⟨by simp, fun _ => ⟨w.heap.size, 0, rfl, by simp, fun j u hu => ?_⟩⟩
  have : (w.alloc (.cells (l.map bv).toArray T fz)).heap[w.heap.size]? = some (.cells (l.map bv).toArray T fz) := heap_alloc_new w _
  rw [cell_of_row _ _ _ _ _ _ this]
  simpa using hu

/-- A list of bytes as a string. -/
def str (l : List UInt8) : ByteArray := ⟨l.toArray⟩
theorem str_toList (l : List UInt8) : (str l).toList = l := by rw [ByteArray.toList_eq]; rfl
theorem str_data (s : ByteArray) : str s.toList = s := by rw [ByteArray.toList_eq]; unfold str; cases s; simp
theorem i64_of_wf {x : Int} (h : (Lit.int .i64 x).wf = true) : -9223372036854775808 ≤ x ∧ x ≤ 9223372036854775807 := by
  simp [Lit.wf, IntKind.min, IntKind.max, IntKind.signed, IntKind.bits] at h
  omega

/-- Two rows whose elements are of two types lie in two blocks. -/
theorem own_apart {w : World} {b b' : Nat} {e e' : TypeId} {sz sz' n n' : Nat} {v v' : Value} {xs xs' : List Value} (h : w.ownsRow b e sz v n xs) (h' : w.ownsRow b' e' sz' v' n' xs') (hne : e ≠ e') :
    v.ownBlock = none ∨ v.ownBlock ≠ v'.ownBlock := by
  rcases h.2 with ⟨rfl, _⟩ | ⟨g, cap, cur, rfl, _, hh, _⟩
  · exact .inl rfl
  · refine .inr fun he => ?_
    rcases h'.2 with ⟨rfl, _⟩ | ⟨g', cap', cur', rfl, _, hh', _⟩
    · simp [Value.ownBlock] at he
    · have : g = g' := by simpa [Value.ownBlock] using he
      subst this
      rw [hh] at hh'
      injection hh' with hh'
      injection hh' with _ ht
      exact hne ht
/-- Slices of bytes of the call's own. -/
def Rwo (w : World) (base : Nat) (e : TypeId) (vs : List Value) (R : List (List UInt8)) : Prop :=
  vs.length = R.length ∧ ∀ (i : Nat) (v : Value) (p : List UInt8), vs[i]? = some v → R[i]? = some p → w.ownsRow base e 1 v p.length (p.map bv)
theorem Rwo.nil_ (w : World) (base : Nat) (e : TypeId) : Rwo w base e [] [] := ⟨rfl, fun i v p h => by simp at h⟩
theorem Rwo.below {w w' : World} {base : Nat} {e : TypeId} {vs : List Value} {R : List (List UInt8)} (h : Rwo w base e vs R) (hb : Below w.heap.size w w') : Rwo w' base e vs R :=
  ⟨h.1, fun i v p hv hp => own_below (h.2 i v p hv hp) hb⟩
theorem Rwo.snoc {w : World} {base : Nat} {e : TypeId} {vs : List Value} {R : List (List UInt8)} (h : Rwo w base e vs R) {v : Value} {p : List UInt8} (ho : w.ownsRow base e 1 v p.length (p.map bv)) : Rwo w base e (vs ++ [v]) (R ++ [p]) := by
  refine ⟨by simp [h.1], fun i u q hu hq => ?_⟩
  rcases Nat.lt_or_ge i vs.length with hi | hi
  · rw [List.getElem?_append_left hi] at hu
    rw [List.getElem?_append_left (by rw [← h.1]; exact hi)] at hq
    exact h.2 i u q hu hq
  · rw [List.getElem?_append_right hi] at hu
    rw [List.getElem?_append_right (by rw [← h.1]; exact hi)] at hq
    have hi2 : i - vs.length = 0 := by
      rcases Nat.eq_zero_or_pos (i - vs.length) with h0 | h0
      · exact h0
      · rw [List.getElem?_eq_none (by simp; omega)] at hu; cases hu
    rw [← h.1, hi2] at hq
    rw [hi2] at hu
    injection hu with hu
    injection hq with hq
    subst hu; subst hq
    exact ho
theorem Rwo.more {w : World} {base base' : Nat} {e : TypeId} {vs : List Value} {R : List (List UInt8)} (h : Rwo w base e vs R) (hb : base' ≤ base) : Rwo w base' e vs R :=
  ⟨h.1, fun i v p hv hp => own_more (h.2 i v p hv hp) hb⟩

end Go.Proofs.Ytfcbcbpnlnkpcaa
/- Values: trees of nodes, and what it is that memory holds one. A value is a node with its kids, a forest; a forest is empty, or a node, its kids, and the rest. -/
namespace Go.Proofs.Ytfcbcbpnlnkpcaa
set_option linter.all false
open Go.RowKit

structure Nd where
  kind : Int
  int : Int
  scale : Int
  text : List UInt8
  names : List (List UInt8)
inductive F where
  | nil
  | cons (n : Nd) (k r : F)
def F.len : F → Nat
  | .nil => 0
  | .cons _ _ r => r.len + 1
def F.get : F → Nat → Option (Nd × F)
  | .nil, _ => none
  | .cons n k _, 0 => some (n, k)
  | .cons _ _ r, i + 1 => r.get i
def F.drop : F → Nat → F
  | f, 0 => f
  | .nil, _ + 1 => .nil
  | .cons _ _ r, i + 1 => r.drop i
theorem F.get_lt : ∀ (f : F) (i : Nat), i < f.len → ∃ n k, f.get i = some (n, k)
  | .nil, i, h => absurd h (by simp [F.len])
  | .cons n k r, 0, _ => ⟨n, k, rfl⟩
  | .cons n k r, i + 1, h => F.get_lt r i (by simp [F.len] at h; omega)
theorem F.drop_get : ∀ (f : F) (i : Nat) {n : Nd} {k : F}, f.get i = some (n, k) → f.drop i = .cons n k (f.drop (i + 1))
  | .nil, i, n, k, h => by simp [F.get] at h
  | .cons n' k' r, 0, n, k, h => by
    simp only [F.get, Option.some.injEq, Prod.mk.injEq] at h
    obtain ⟨rfl, rfl⟩ := h
    simp [F.drop]
  | .cons n' k' r, i + 1, n, k, h => by
    have := F.drop_get r i h
    simpa [F.drop] using this
theorem F.drop_len : ∀ (f : F) (i : Nat), f.len ≤ i → f.drop i = .nil
  | .nil, 0, _ => rfl
  | .nil, i + 1, _ => rfl
  | .cons n k r, 0, h => by simp [F.len] at h
  | .cons n k r, i + 1, h => by
    have := F.drop_len r i (by simp [F.len] at h; omega)
    simpa [F.drop] using this
/-- What holds of each node whose kids have it holds of all nodes. -/
theorem F.nodes {C : Nd → F → Prop} (h : ∀ n k, (∀ i m j, k.get i = some (m, j) → C m j) → C n k) : ∀ (f : F) (i : Nat) (n : Nd) (k : F), f.get i = some (n, k) → C n k
  | .nil, i, n, k, hg => by simp [F.get] at hg
  | .cons n' k' r, 0, n, k, hg => by
    simp only [F.get, Option.some.injEq, Prod.mk.injEq] at hg
    obtain ⟨rfl, rfl⟩ := hg
    exact h _ _ (F.nodes h k')
  | .cons n' k' r, i + 1, n, k, hg => F.nodes h r i n k hg
theorem F.node {C : Nd → F → Prop} (h : ∀ n k, (∀ i m j, k.get i = some (m, j) → C m j) → C n k) (n : Nd) (k : F) : C n k := h n k (F.nodes h k)

/-- A slice that reads as a list of cells, in blocks of the set S. -/
def RdS (w : World) (S : Nat → Prop) (sz : Nat) (A : Option Addr) (n : Nat) (xs : List Value) : Prop :=
  xs.length = n * sz ∧ (0 < n → ∃ g off, A = some ⟨g, off, none⟩ ∧ S g ∧ ∀ j u, xs[j]? = some u → w.cell? ⟨g, off + j, none⟩ = some u)
theorem RdS.keep {w w' : World} {S S' : Nat → Prop} {sz n : Nat} {A : Option Addr} {xs : List Value} (h : RdS w S sz A n xs) (hk : ∀ b, S b → w'.heap[b]? = w.heap[b]?) (hS : ∀ b, S b → S' b) : RdS w' S' sz A n xs :=
  ⟨h.1, fun hn => by
    obtain ⟨g, off, e, hg, hc⟩ := h.2 hn
    exact ⟨g, off, e, hS g hg, fun j u hu => (World.cell?_of_block (hk g hg)).trans (hc j u hu)⟩⟩
theorem RdS.rd {w : World} {B sz n : Nat} {A : Option Addr} {xs : List Value} (h : RdS w (· < B) sz A n xs) : Rd w B sz A n xs := h
def sv (s : List UInt8) : Value := .string (str s)
/-- A node's six cells. -/
def ncells (n : Nd) (An : Option Addr) (cn : Nat) (Ak : Option Addr) (kl ck : Nat) : List Value :=
  [.int .i64 n.kind, .int .i64 n.int, .int .i64 n.scale, .string (str n.text), .slice An n.names.length cn, .slice Ak kl ck]
/-- A number of 64 digits. -/
def I64 (x : Int) : Prop := -9223372036854775808 ≤ x ∧ x ≤ 9223372036854775807
def Nd.ok (n : Nd) : Prop := I64 n.kind ∧ I64 n.int ∧ I64 n.scale ∧ n.text.length ≤ 140737488351232 ∧ ∀ s ∈ n.names, s.length ≤ 140737488351232
/-- A length and a capacity, within reach (a new row.s capacity is known by its length alone). -/
def okl (n c : Nat) : Prop := n ≤ c ∧ (c ≤ 9223372036854775807 ∧ n ≤ 8796093021952)
/-- The cells of a forest. -/
def Kc (w : World) (S : Nat → Prop) : F → List Value → Prop
  | .nil, cs => cs = []
  | .cons n k r, cs => ∃ (An : Option Addr) (cn : Nat) (Ak : Option Addr) (ck : Nat) (cs' ks : List Value), cs = ncells n An cn Ak k.len ck ++ cs' ∧ n.ok ∧ okl n.names.length cn ∧ okl k.len ck ∧
      RdS w S 1 An n.names.length (n.names.map sv) ∧ RdS w S 6 Ak k.len ks ∧ Kc w S k ks ∧ Kc w S r cs'
theorem Kc.keep {w w' : World} {S S' : Nat → Prop} (hk : ∀ b, S b → w'.heap[b]? = w.heap[b]?) (hS : ∀ b, S b → S' b) : ∀ (f : F) (cs : List Value), Kc w S f cs → Kc w' S' f cs
  | .nil, cs, h => h
  | .cons n k r, cs, h => by
    obtain ⟨An, cn, Ak, ck, cs', ks, e, ho, h1, h2, hn, hr, hkk, hrr⟩ := h
    exact ⟨An, cn, Ak, ck, cs', ks, e, ho, h1, h2, hn.keep hk hS, hr.keep hk hS, Kc.keep hk hS k ks hkk, Kc.keep hk hS r cs' hrr⟩
theorem Kc.len {w : World} {S : Nat → Prop} : ∀ (f : F) (cs : List Value), Kc w S f cs → cs.length = f.len * 6
  | .nil, cs, h => by rw [show cs = [] from h]; rfl
  | .cons n k r, cs, h => by
    obtain ⟨An, cn, Ak, ck, cs', ks, e, _, _, _, _, _, _, hrr⟩ := h
    have := Kc.len r cs' hrr
    rw [e, List.length_append, this]
    simp only [ncells, F.len, List.length_cons, List.length_nil]
    omega
/-- The slice '.slice A f.len _' holds the forest f. -/
def Kids (w : World) (S : Nat → Prop) (A : Option Addr) (f : F) : Prop := ∃ ks, RdS w S 6 A f.len ks ∧ Kc w S f ks
theorem Kids.keep {w w' : World} {S S' : Nat → Prop} {A : Option Addr} {f : F} (h : Kids w S A f) (hk : ∀ b, S b → w'.heap[b]? = w.heap[b]?) (hS : ∀ b, S b → S' b) : Kids w' S' A f := by
  obtain ⟨ks, h1, h2⟩ := h
  exact ⟨ks, h1.keep hk hS, Kc.keep hk hS f ks h2⟩
/-- The value v is the node n with the kids k. -/
def Vo (w : World) (S : Nat → Prop) (n : Nd) (k : F) (v : Value) : Prop :=
  ∃ An cn Ak ck, v = .agg (ncells n An cn Ak k.len ck).toArray ∧ n.ok ∧ okl n.names.length cn ∧ okl k.len ck ∧ RdS w S 1 An n.names.length (n.names.map sv) ∧ Kids w S Ak k
theorem Vo.keep {w w' : World} {S S' : Nat → Prop} {n : Nd} {k : F} {v : Value} (h : Vo w S n k v) (hk : ∀ b, S b → w'.heap[b]? = w.heap[b]?) (hS : ∀ b, S b → S' b) : Vo w' S' n k v := by
  obtain ⟨An, cn, Ak, ck, e, ho, h1, h2, hn, hkk⟩ := h
  exact ⟨An, cn, Ak, ck, e, ho, h1, h2, hn.keep hk hS, hkk.keep hk hS⟩
theorem Vo.below {w w' : World} {B : Nat} {n : Nd} {k : F} {v : Value} (h : Vo w (· < B) n k v) (hb : Below B w w') : Vo w' (· < B) n k v := h.keep (fun b hbb => hb.block b hbb) (fun _ h => h)
theorem Vo.upto {w w' : World} {n : Nd} {k : F} {v : Value} (h : Vo w (· < w.heap.size) n k v) (hb : Below w.heap.size w w') : Vo w' (· < w'.heap.size) n k v :=
  h.keep (fun b hbb => hb.block b hbb) (fun b h => Nat.lt_of_lt_of_le h hb.size)
theorem Kids.upto {w w' : World} {A : Option Addr} {f : F} (h : Kids w (· < w.heap.size) A f) (hb : Below w.heap.size w w') : Kids w' (· < w'.heap.size) A f :=
  h.keep (fun b hbb => hb.block b hbb) (fun b h => Nat.lt_of_lt_of_le h hb.size)
/-- A node of a forest: its cells in memory. -/
theorem Kc.at_ {w : World} {S : Nat → Prop} : ∀ (f : F) (cs : List Value) (i : Nat) {n : Nd} {k : F}, Kc w S f cs → f.get i = some (n, k) →
    ∃ An cn Ak ck, (∀ j u, (ncells n An cn Ak k.len ck)[j]? = some u → cs[i * 6 + j]? = some u) ∧ n.ok ∧ okl n.names.length cn ∧ okl k.len ck ∧ RdS w S 1 An n.names.length (n.names.map sv) ∧ Kids w S Ak k
  | .nil, cs, i, n, k, _, hg => by simp [F.get] at hg
  | .cons n' k' r, cs, 0, n, k, h, hg => by
    simp only [F.get, Option.some.injEq, Prod.mk.injEq] at hg
    obtain ⟨rfl, rfl⟩ := hg
    obtain ⟨An, cn, Ak, ck, cs', ks, e, ho, h1, h2, hn, hr, hkk, hrr⟩ := h
    refine ⟨An, cn, Ak, ck, fun j u hu => ?_, ho, h1, h2, hn, ks, hr, hkk⟩
    rw [e, Nat.zero_mul, Nat.zero_add, List.getElem?_append_left (List.getElem?_eq_some_iff.1 hu).1]
    exact hu
  | .cons n' k' r, cs, i + 1, n, k, h, hg => by
    obtain ⟨An, cn, Ak, ck, cs', ks, e, _, _, _, _, _, _, hrr⟩ := h
    obtain ⟨Bn, dn, Bk, dk, hc, rest⟩ := Kc.at_ r cs' i hrr hg
    refine ⟨Bn, dn, Bk, dk, fun j u hu => ?_, rest⟩
    rw [e, List.getElem?_append_right (by simp [ncells]; omega)]
    have : (i + 1) * 6 + j - (ncells n' An cn Ak k'.len ck).length = i * 6 + j := by simp [ncells]; omega
    rw [this]
    exact hc j u hu
/-- The six cells of a node at an address, as a walk reads them. -/
def Six (w : World) (g o : Nat) (n : Nd) (An : Option Addr) (cn : Nat) (Ak : Option Addr) (kl ck : Nat) : Prop :=
  w.cell? ⟨g, o, none⟩ = some (.int .i64 n.kind) ∧ w.cell? ⟨g, o + 1, none⟩ = some (.int .i64 n.int) ∧ w.cell? ⟨g, o + 2, none⟩ = some (.int .i64 n.scale) ∧
  w.cell? ⟨g, o + 3, none⟩ = some (.string (str n.text)) ∧ w.cell? ⟨g, o + 4, none⟩ = some (.slice An n.names.length cn) ∧ w.cell? ⟨g, o + 5, none⟩ = some (.slice Ak kl ck)
theorem Kids.at_ {w : World} {S : Nat → Prop} {A : Option Addr} {f : F} {i : Nat} {n : Nd} {k : F} (h : Kids w S A f) (hg : f.get i = some (n, k)) (hi : i < f.len) :
    ∃ g off An cn Ak ck, A = some ⟨g, off, none⟩ ∧ S g ∧ Six w g (off + i * 6) n An cn Ak k.len ck ∧ Vo w S n k (.agg (ncells n An cn Ak k.len ck).toArray) := by
  obtain ⟨ks, hr, hk⟩ := h
  obtain ⟨g, off, hA, hS, hc⟩ := hr.2 (by omega)
  obtain ⟨An, cn, Ak, ck, hcs, ho, h1, h2, hn, hkk⟩ := Kc.at_ f ks i hk hg
  have hcell : ∀ j u, (ncells n An cn Ak k.len ck)[j]? = some u → w.cell? ⟨g, off + i * 6 + j, none⟩ = some u := fun j u hu => by
    rw [Nat.add_assoc]; exact hc _ _ (hcs j u hu)
  exact ⟨g, off, An, cn, Ak, ck, hA, hS, ⟨hcell 0 _ rfl, hcell 1 _ rfl, hcell 2 _ rfl, hcell 3 _ rfl, hcell 4 _ rfl, hcell 5 _ rfl⟩, An, cn, Ak, ck, rfl, ho, h1, h2, hn, hkk⟩
end Go.Proofs.Ytfcbcbpnlnkpcaa
/- A struct argument is boxed by the callee: the six cells of its box. -/
namespace Go.Proofs.Ytfcbcbpnlnkpcaa
set_option linter.all false
open Go.RowKit
theorem unhide {p : Prop} (h : Hid p) : p := h
/-- The six cells of a struct that the call has boxed. -/
def boxw (w : World) (n : Nd) (An : Option Addr) (cn : Nat) (Ak : Option Addr) (kl ck : Nat) : World := w.alloc (.cells (ncells n An cn Ak kl ck).toArray 25)
theorem boxw_eq (w : World) (n : Nd) (An : Option Addr) (cn : Nat) (Ak : Option Addr) (kl ck : Nat) :
    w.alloc (.cells #[.int .i64 n.kind, .int .i64 n.int, .int .i64 n.scale, .string (str n.text), .slice An n.names.length cn, .slice Ak kl ck] 25) = boxw w n An cn Ak kl ck := rfl
theorem boxw_size (w : World) (n : Nd) (An : Option Addr) (cn : Nat) (Ak : Option Addr) (kl ck : Nat) : (boxw w n An cn Ak kl ck).heap.size = w.heap.size + 1 := by simp [boxw]
theorem boxw_below (w : World) (n : Nd) (An : Option Addr) (cn : Nat) (Ak : Option Addr) (kl ck : Nat) : Below w.heap.size w (boxw w n An cn Ak kl ck) := (Below.refl _ _).alloc (Nat.le_refl _) _
/-- The six cells of a boxed struct, as a walk reads them. -/
def Six0 (w : World) (g : Nat) (n : Nd) (An : Option Addr) (cn : Nat) (Ak : Option Addr) (kl ck : Nat) : Prop :=
  w.cell? ⟨g, 0, none⟩ = some (.int .i64 n.kind) ∧ w.cell? ⟨g, 1, none⟩ = some (.int .i64 n.int) ∧ w.cell? ⟨g, 2, none⟩ = some (.int .i64 n.scale) ∧
  w.cell? ⟨g, 3, none⟩ = some (.string (str n.text)) ∧ w.cell? ⟨g, 4, none⟩ = some (.slice An n.names.length cn) ∧ w.cell? ⟨g, 5, none⟩ = some (.slice Ak kl ck)
theorem boxw_six (w : World) (n : Nd) (An : Option Addr) (cn : Nat) (Ak : Option Addr) (kl ck : Nat) : Six0 (boxw w n An cn Ak kl ck) w.heap.size n An cn Ak kl ck := by
  unfold boxw
  refine ⟨?_, ?_, ?_, ?_, ?_, ?_⟩ <;> (rw [World.cell?_alloc_new]; rfl)
theorem Six0.below {w w' : World} {B g : Nat} {n : Nd} {An : Option Addr} {cn : Nat} {Ak : Option Addr} {kl ck : Nat} (h : Six0 w g n An cn Ak kl ck) (hb : Below B w w') (hg : g < B) : Six0 w' g n An cn Ak kl ck := by
  obtain ⟨h1, h2, h3, h4, h5, h6⟩ := h
  have k : ∀ j, w'.cell? ⟨g, j, none⟩ = w.cell? ⟨g, j, none⟩ := fun j => hb.cell (p := ⟨g, j, none⟩) hg
  exact ⟨(k _).trans h1, (k _).trans h2, (k _).trans h3, (k _).trans h4, (k _).trans h5, (k _).trans h6⟩

end Go.Proofs.Ytfcbcbpnlnkpcaa
/- Blocks known whole; one block that is written, and nothing else: words. -/
namespace Go.Proofs.Ytfcbcbpnlnkpcaa
set_option linter.all false
open Go.RowKit
theorem gb_refl (w : World) (row : Option Nat) : w.grownBy w row := World.grownBy.refl w row
theorem gb_trans {w w1 w2 : World} {row : Option Nat} (h : w.grownBy w1 row) (k : w1.grownBy w2 row) : w.grownBy w2 row :=
  ⟨k.os.trans h.os, k.tape.trans h.tape, k.output.trans h.output, Nat.le_trans h.size k.size, fun i hi hr => (k.block i (Nat.lt_of_lt_of_le hi h.size) hr).trans (h.block i hi hr)⟩
theorem gb_below {w w' : World} (h : Below w.heap.size w w') (row : Option Nat) : w.grownBy w' row := ⟨h.os, h.tape, h.output, h.size, fun i hi _ => h.block i hi⟩
theorem gb_drew {w w' : World} {row : Option Nat} (h : w.grownBy w' row) : w.grownBy w'.drew row := ⟨h.os, h.tape, h.output, h.size, h.block⟩
theorem gb_set (w : World) (g o : Nat) (v : Value) : w.grownBy (w.setCell ⟨g, o, none⟩ v) (some g) :=
  ⟨rfl, rfl, rfl, by simp, fun i hi hr => Below.heap_setCell _ _ _ _ (fun e => hr (by rw [e]))⟩
/-- A block known whole. -/
abbrev Blk (w : World) (g : Nat) (cs : Array Value) (T : TypeId) : Prop := w.heap[g]? = some (.cells cs T (0, 0))
theorem Blk.cell {w : World} {g : Nat} {cs : Array Value} {T : TypeId} (h : Blk w g cs T) (o : Nat) : w.cell? ⟨g, o, none⟩ = cs[o]? := cell_of_row w g o cs T (0, 0) h
theorem Blk.free {w : World} {g : Nat} {cs : Array Value} {T : TypeId} (h : Blk w g cs T) (o : Nat) : w.frozen? ⟨g, o, none⟩ = false := frozen_of_row w g o cs T h
theorem Blk.lt {w : World} {g : Nat} {cs : Array Value} {T : TypeId} (h : Blk w g cs T) : g < w.heap.size := lt_of_block h
theorem Blk.below {w w' : World} {g B : Nat} {cs : Array Value} {T : TypeId} (h : Blk w g cs T) (hb : Below B w w') (hg : g < B) : Blk w' g cs T := (hb.block g hg).trans h
theorem Blk.grown {w w' : World} {g : Nat} {row : Option Nat} {cs : Array Value} {T : TypeId} (h : Blk w g cs T) (hb : w.grownBy w' row) (hg : some g ≠ row) : Blk w' g cs T := (hb.block g h.lt hg).trans h
theorem Blk.set {w : World} {g : Nat} {cs : Array Value} {T : TypeId} (h : Blk w g cs T) (o : Nat) (v : Value) : Blk (w.setCell ⟨g, o, none⟩ v) g (cs.setIfInBounds o v) T := by
  have hlt := lt_of_block h
  have h1 : w.heap[g]? = some (.cells cs T (0, 0)) := h
  have h' : w.heap[g] = .cells cs T (0, 0) := by simpa [Array.getElem?_eq_getElem hlt] using h1
  show (w.heap.modify g _)[g]? = _
  rw [Array.getElem?_eq_getElem (by simpa using hlt), Array.getElem_modify_self, h']
  rfl
theorem Blk.set_other {w : World} {g g' : Nat} {cs : Array Value} {T : TypeId} (h : Blk w g cs T) (o : Nat) (v : Value) (hne : g ≠ g') : Blk (w.setCell ⟨g', o, none⟩ v) g cs T :=
  (Below.heap_setCell _ _ _ _ hne).trans h
theorem Blk.alloc {w : World} {g : Nat} {cs : Array Value} {T : TypeId} (h : Blk w g cs T) (o : Obj) : Blk (w.alloc o) g cs T :=
  (((Below.refl w.heap.size w).alloc (Nat.le_refl _) o).block g h.lt).trans h
theorem Blk.drew {w : World} {g : Nat} {cs : Array Value} {T : TypeId} (h : Blk w g cs T) : Blk w.drew g cs T := h
theorem Blk.new (w : World) (cs : Array Value) (T : TypeId) : Blk (w.alloc (.cells cs T)) w.heap.size cs T := heap_alloc_new w _
end Go.Proofs.Ytfcbcbpnlnkpcaa
/- One block of one cell that is written, and nothing else: words, for boxes of Values. -/
namespace Go.Proofs.Ytfcbcbpnlnkpcaa
set_option linter.all false
open Go.RowKit
theorem Six0.grown {w w' : World} {g b : Nat} {n : Nd} {An : Option Addr} {cn : Nat} {Ak : Option Addr} {kl ck : Nat} (h : Six0 w b n An cn Ak kl ck) (hg : w.grownBy w' (some g)) (hne : b ≠ g) : Six0 w' b n An cn Ak kl ck := by
  obtain ⟨h1, h2, h3, h4, h5, h6⟩ := h
  have hb : some b ≠ some g := fun e => hne (by injection e)
  exact ⟨hg.cell h1 hb, hg.cell h2 hb, hg.cell h3 hb, hg.cell h4 hb, hg.cell h5 hb, hg.cell h6 hb⟩
theorem boxw_blk (w : World) (n : Nd) (An : Option Addr) (cn : Nat) (Ak : Option Addr) (kl ck : Nat) : Blk (boxw w n An cn Ak kl ck) w.heap.size (ncells n An cn Ak kl ck).toArray 25 := heap_alloc_new w _
theorem Blk.six {w : World} {g : Nat} {n : Nd} {An : Option Addr} {cn : Nat} {Ak : Option Addr} {kl ck : Nat} {T : TypeId} (h : Blk w g (ncells n An cn Ak kl ck).toArray T) : Six0 w g n An cn Ak kl ck :=
  ⟨h.cell 0, h.cell 1, h.cell 2, h.cell 3, h.cell 4, h.cell 5⟩
end Go.Proofs.Ytfcbcbpnlnkpcaa
/- How many nodes, how deep: the plain law. -/
namespace Go.Proofs.Ytfcbcbpnlnkpcaa
set_option linter.all false
open Go.RowKit
/-- How many nodes a forest has; how deep it is. -/
def szF : F → Nat
  | .nil => 0
  | .cons _ k r => szF k + 1 + szF r
theorem F.drop0 (f : F) : f.drop 0 = f := by cases f <;> rfl
end Go.Proofs.Ytfcbcbpnlnkpcaa
/- Small words: strings' lengths; what is returned. -/
namespace Go.Proofs.Ytfcbcbpnlnkpcaa
set_option linter.all false
open Go.RowKit
theorem str_sz (l : List UInt8) : (str l).size = l.length := by simp [str, ByteArray.size]
theorem ret_bo {a b : Bool} (h : a = b) : Ending.returned (.bool a) = .returned (.bool b) := by rw [h]
end Go.Proofs.Ytfcbcbpnlnkpcaa
/- What is wrong with a value: the plain law. No program in sight. -/
namespace Go.Proofs.Ytfcbcbpnlnkpcaa
set_option linter.all false
open Go.RowKit
/-- Is a node's own data as its kind wants it? -/
def okF (kind i s : Int) (bare plain te nz : Bool) : Bool :=
  if kind = 1 then bare && plain && te
  else if kind = 2 then (i / 2 == 0) && (s == 0) && plain && te
  else if kind = 3 then (s == 0) && plain && te
  else if kind = 4 then decide (1 ≤ s) && decide (s ≤ 18) && (i.tmod 10 != 0) && plain && te
  else if kind = 5 then decide (0 ≤ i) && decide (i ≤ 9007199254740992) && (s == 0) && plain && te
  else if kind = 6 then bare && plain
  else if kind = 7 then bare && plain
  else if kind = 8 then bare && nz && te
  else if kind = 9 then bare && te
  else false
/-- May a text name a field? -/
def nameOk (s : List UInt8) : Bool := decide (1 ≤ s.length) && decide (s.length ≤ 40)
/-- Are names as they should be, each above the one ahead of it? -/
def upFrom : Option (List UInt8) → List (List UInt8) → Bool
  | _, [] => true
  | none, a :: r => nameOk a && upFrom (some a) r
  | some b, a :: r => nameOk a && !(Op.bytesLess a b || a == b) && upFrom (some a) r
def prevOf (l : List (List UInt8)) : Nat → Option (List UInt8)
  | 0 => none
  | k + 1 => l[k]?
def fieldsOk (names : List (List UInt8)) (kl : Nat) : Bool := upFrom none names && decide (names.length = kl)
theorem upFrom_drop {l : List (List UInt8)} {k : Nat} {a : List UInt8} (h : l[k]? = some a) (p : Option (List UInt8)) :
    upFrom p (l.drop k) = (nameOk a && (match p with | none => true | some b => !(Op.bytesLess a b || a == b)) && upFrom (some a) (l.drop (k + 1))) := by
  obtain ⟨hk, e⟩ := List.getElem?_eq_some_iff.1 h
  rw [List.drop_eq_getElem_cons hk, e]
  cases p <;> simp [upFrom]
def okN (n : Nd) (kl : Nat) : Bool :=
  okF n.kind n.int n.scale ((n.int == 0) && (n.scale == 0)) (((n.names.length : Int) == 0) && ((kl : Int) == 0)) n.text.isEmpty ((n.names.length : Int) == 0)
/-- What is wrong with a node, but for its kids: 0, 3 or 5. -/
def nerr (n : Nd) (kl : Nat) : Nat :=
  if okN n kl = false then 3 else if 16384 < n.text.length ∨ 200 < kl then 5 else if n.kind = 9 ∧ fieldsOk n.names kl = false then 3 else 0

end Go.Proofs.Ytfcbcbpnlnkpcaa
/- What is wrong with a value, all below it too: the plain law. No program in sight. -/
namespace Go.Proofs.Ytfcbcbpnlnkpcaa
set_option linter.all false
open Go.RowKit
/-- What is wrong with a forest's nodes, at depth d: the first that is. -/
def chkF : F → Nat → Nat
  | .nil, _ => 0
  | .cons n k r, d => if (if 16 < d then 9 else if nerr n k.len ≠ 0 then nerr n k.len else chkF k (d + 1)) ≠ 0 then (if 16 < d then 9 else if nerr n k.len ≠ 0 then nerr n k.len else chkF k (d + 1)) else chkF r d
/-- What is wrong with a value at depth d. -/
def chk (n : Nd) (k : F) (d : Nat) : Nat := if 16 < d then 9 else if nerr n k.len ≠ 0 then nerr n k.len else chkF k (d + 1)
theorem chkF_drop {f : F} {i : Nat} {n : Nd} {k : F} (h : f.get i = some (n, k)) (d : Nat) : chkF (f.drop i) d = if chk n k d ≠ 0 then chk n k d else chkF (f.drop (i + 1)) d := by
  rw [F.drop_get f i h]; rfl
end Go.Proofs.Ytfcbcbpnlnkpcaa
/- value.isName, value.fields. -/
namespace Go.Proofs.Ytfcbcbpnlnkpcaa
set_option linter.all false
open Go.RowKit
theorem str_size (l : List UInt8) : (str l).size = l.length := by simp [str, ByteArray.size]
theorem ret_bool {a b : Bool} (h : a = b) : Ending.returned (.bool a) = .returned (.bool b) := by rw [h]
set_option maxHeartbeats 400000 in
theorem isName_any (s : List UInt8) (w : World) (hs : s.length ≤ 140737488351232) : Calls Try.prog 68 #[.string (str s)] w (RetS (.bool (nameOk s)) w) := by
  have h1 := str_size s
  by_cases h0 : 1 ≤ s.length
  · have HN : Hid (nameOk s = decide (s.length ≤ 40)) := by show _ = _; simp [nameOk, h0]
    go_enter Try.func68, Try.ntmps68
    go_wp2
    go_ret
    exact ⟨ret_bool (by rw [HN.out]; simp only [decide_eq_decide]; omega), rfl⟩
  · have HN : Hid (nameOk s = false) := by show _ = _; simp [nameOk, h0]
    have h2 : (str s).size = 0 := by omega
    go_enter Try.func68, Try.ntmps68
    go_wp2
    go_ret
    exact ⟨ret_bool (by rw [HN.out]), rfl⟩
theorem names_at {w : World} {B n k : Nat} {A : Option Addr} {l : List (List UInt8)} (h : Rd w B 1 A n (l.map sv)) (hk : k < n) :
    ∃ g off s, A = some ⟨g, off, none⟩ ∧ g < B ∧ l[k]? = some s ∧ w.cell? ⟨g, off + k, none⟩ = some (.string (str s)) := by
  obtain ⟨g, off, u, hA, hg, hu, hc⟩ := Rd.at_ h hk
  rw [List.getElem?_map] at hu
  cases hb : l[k]? with
  | none => rw [hb] at hu; cases hu
  | some b => rw [hb] at hu; injection hu with hu; subst hu; exact ⟨g, off, b, hA, hg, rfl, hc⟩
set_option maxRecDepth 100000 in
set_option maxHeartbeats 1600000 in
theorem fields_any (n : Nd) (kl : Nat) (An Ak : Option Addr) (cn ck : Nat) (w : World) (hn : okl n.names.length cn) (hkl : okl kl ck)
    (hr : Rd w w.heap.size 1 An n.names.length (n.names.map sv)) (hl : ∀ s ∈ n.names, s.length ≤ 140737488351232) :
    Calls Try.prog 56 #[.agg (ncells n An cn Ak kl ck).toArray] w (Ret (.bool (fieldsOk n.names kl)) w) := by
  unfold ncells
  obtain ⟨hn1, hn2⟩ := hn
  obtain ⟨hk1, hk2⟩ := hkl
  have hlen := hr.1
  rw [List.length_map] at hlen
  have HLL := Lib.hid hl
  clear hl
  generalize hN : n.names = l at *
  generalize hnl : l.length = nl at *
  have HNL := Lib.hid hnl
  clear hnl hN hlen
  generalize hB : w.alloc (.cells #[.int .i64 n.kind, .int .i64 n.int, .int .i64 n.scale, .string (str n.text), .slice An nl cn, .slice Ak kl ck] 25) = W
  have hr2 : Rd W w.heap.size 1 An nl (l.map sv) := by rw [← hB]; exact hr.alloc (Nat.le_refl _) _
  have c4 : W.cell? ⟨w.heap.size, 4, none⟩ = some (.slice An nl cn) := by rw [← hB, World.cell?_alloc_new]; rfl
  have c5 : W.cell? ⟨w.heap.size, 5, none⟩ = some (.slice Ak kl ck) := by rw [← hB, World.cell?_alloc_new]; rfl
  have hbel : Below w.heap.size w W := by rw [← hB]; exact (Below.refl _ _).alloc (Nat.le_refl _) _
  go_enter Try.func56, Try.ntmps56
  go_wp2_with fail
  clear hB
  go_loop [8, 3, 4] (fun s8 _ _ => ∃ k : Nat, k ≤ nl ∧ s8 = .int .i64 k ∧ Hid (upFrom none l = upFrom (prevOf l k) (l.drop k))) (fun s8 _ _ => nl - (intOf s8).toNat)
  case atStart => exact ⟨0, Nat.zero_le _, rfl, rfl⟩
  case round =>
    obtain ⟨k, hk, rfl, HU⟩ := hrel
    by_cases hlt : k < nl
    · obtain ⟨g, off, s, rfl, hg, hs, hc⟩ := names_at hr2 hlt
      have hsl : s.length ≤ 140737488351232 := HLL.out s (List.mem_of_getElem? hs)
      have hu := HU.out.trans (upFrom_drop hs _)
      have HS : Hid (prevOf l (k + 1) = some s) := hs
      rcases hno : nameOk s with _ | _
      · have HR : Hid (upFrom none l = false) := by show _ = _; rw [hu, hno]; simp
        clear hu HU hs
        go_wp2_with (go_at_call 68; refine (isName_any s _ hsl).mono ?_; rintro e w' ⟨rfl, rfl⟩)
        go_ret
        exact ⟨ret_bool (by unfold fieldsOk; rw [HR.out]; rfl), hbel⟩
      · by_cases h0 : k = 0
        · subst h0
          have hc : W.cell? ⟨g, off, none⟩ = some (.string (str s)) := hc
          have HR : Hid (upFrom none l = upFrom (prevOf l 1) (l.drop 1)) := by
            show _ = _; rw [hu, hno, HS.out]; simp [prevOf]
          clear hu HU hs
          go_wp2_with (go_at_call 68; refine (isName_any s _ hsl).mono ?_; rintro e w' ⟨rfl, rfl⟩)
          go_round
          case rel => exact ⟨1, by omega, rfl, HR.out⟩
          case measure => simp [intOf]; omega
        · obtain ⟨j, rfl⟩ : ∃ j, k = j + 1 := ⟨k - 1, by omega⟩
          obtain ⟨g', off', p, hA, _, hp, hc'⟩ := names_at hr2 (k := j) (by omega)
          injection hA with hA
          injection hA with hA1 hA2
          subst hA1; subst hA2
          have hprev : prevOf l (j + 1) = some p := hp
          rw [hprev, hno] at hu
          simp only [Bool.true_and] at hu
          have HP := Lib.hid hp
          rcases h1 : Op.bytesLess s p with _ | _
          · rcases h2 : (s == p) with _ | _
            · have HR : Hid (upFrom none l = upFrom (prevOf l (j + 1 + 1)) (l.drop (j + 1 + 1))) := by
                show _ = _; rw [hu, h1, h2, HS.out]; simp
              have q1 : Op.bytesLess (str s).toList (str p).toList = false := by rw [str_toList, str_toList]; exact h1
              have q2 : ((str s).toList == (str p).toList) = false := by rw [str_toList, str_toList]; exact h2
              clear hu HU hs hp hprev h1 h2
              go_wp2_with (go_at_call 68; refine (isName_any s _ hsl).mono ?_; rintro e w' ⟨rfl, rfl⟩)
              go_round
              case rel => exact ⟨j + 1 + 1, by omega, by go_num, HR.out⟩
              case measure => simp [intOf]; omega
            · have HR : Hid (upFrom none l = false) := by show _ = _; rw [hu, h1, h2]; simp
              have q1 : Op.bytesLess (str s).toList (str p).toList = false := by rw [str_toList, str_toList]; exact h1
              have q2 : ((str s).toList == (str p).toList) = true := by rw [str_toList, str_toList]; exact h2
              clear hu HU hs hp hprev h1 h2
              go_wp2_with (go_at_call 68; refine (isName_any s _ hsl).mono ?_; rintro e w' ⟨rfl, rfl⟩)
              go_ret
              exact ⟨ret_bool (by unfold fieldsOk; rw [HR.out]; rfl), hbel⟩
          · have HR : Hid (upFrom none l = false) := by show _ = _; rw [hu, h1]; simp
            have q1 : Op.bytesLess (str s).toList (str p).toList = true := by rw [str_toList, str_toList]; exact h1
            clear hu HU hs hp hprev h1
            go_wp2_with (go_at_call 68; refine (isName_any s _ hsl).mono ?_; rintro e w' ⟨rfl, rfl⟩)
            go_ret
            exact ⟨ret_bool (by unfold fieldsOk; rw [HR.out]; rfl), hbel⟩
    · have HR : Hid (upFrom none l = true) := by
        show _ = _
        rw [HU.out, List.drop_of_length_le (by rw [HNL.out]; omega)]
        cases prevOf l k <;> rfl
      clear HU
      go_wp2_with fail
      go_ret
      refine ⟨ret_bool ?_, hbel⟩
      unfold fieldsOk
      rw [HR.out, HNL.out, Bool.true_and, Bool.eq_iff_iff]
      simp
      try omega
end Go.Proofs.Ytfcbcbpnlnkpcaa
