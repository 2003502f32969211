/- Words for memory that all walks of this seat use: a slice that reads as a list of cells; a block that is known whole; append from whatever source onto a slice of the call's own. No condition of its own. -/
import Derived.Test.YtfcbcbpnlnkpcaaDoorRows
import Derived.ProofKit
import Derived.WalkKit
import Derived.WalkSpells
import Derived.WalkLawsBesides
import Derived.Below
import Derived.Laws.OwnMore
import Derived.Deep.AppendLies
import Derived.Deep.Draws
import Derived.Deep.QuietTactic
import Derived.Maps.AppendAt
import Derived.Lib.Hide
import Derived.Laws.BitsAllLaws
import Derived.Lib.SlBytesConst
import Derived.OneCell
import Derived.LoopTactic
import Derived.Lib.ItoaNum
import Derived.Lib.ItoaLen
import Derived.Lib.Strings
namespace Go.Proofs.YtfcbcbpnlnkpcaaDoor
set_option linter.all false
open Go.RowKit
set_option linter.all false

theorem add_mk (g off j : Nat) : (⟨g, off, none⟩ : Addr).add j = ⟨g, off + j, none⟩ := by
  unfold Addr.add; split <;> simp_all

/-- The slice value '.slice A n _' reads, cell by cell, as 'xs'; all its cells lie below block B. -/
def Rd (w : World) (B sz : Nat) (A : Option Addr) (n : Nat) (xs : List Value) : Prop :=
  xs.length = n * sz ∧ (0 < n → ∃ g off, A = some ⟨g, off, none⟩ ∧ g < B ∧ ∀ j u, xs[j]? = some u → w.cell? ⟨g, off + j, none⟩ = some u)

section
variable {w w' : World} {B B' sz n : Nat} {A : Option Addr} {xs : List Value}
theorem Rd.nil_ (A : Option Addr) : Rd w B sz A 0 [] := ⟨by simp, fun h => absurd h (by omega)⟩
theorem Rd.len (h : Rd w B sz A n xs) : xs.length = n * sz := h.1
theorem Rd.at_ {k : Nat} (h : Rd w B 1 A n xs) (hk : k < n) : ∃ g off u, A = some ⟨g, off, none⟩ ∧ g < B ∧ xs[k]? = some u ∧ w.cell? ⟨g, off + k, none⟩ = some u := by
  obtain ⟨g, off, e, hb, hc⟩ := h.2 (by omega)
  have hl : k < xs.length := by have := h.1; omega
  exact ⟨g, off, xs[k], e, hb, List.getElem?_eq_getElem hl, hc k _ (List.getElem?_eq_getElem hl)⟩
theorem Rd.keep (h : Rd w B sz A n xs) (hk : ∀ p : Addr, p.block < B → w'.cell? p = w.cell? p) : Rd w' B sz A n xs :=
  ⟨h.1, fun hn => by
    obtain ⟨g, off, e, hb, hc⟩ := h.2 hn
    exact ⟨g, off, e, hb, fun j u hu => (hk _ hb).trans (hc j u hu)⟩⟩
theorem Rd.more (h : Rd w B sz A n xs) (hB : B ≤ B') : Rd w B' sz A n xs :=
  ⟨h.1, fun hn => by
    obtain ⟨g, off, e, hb, hc⟩ := h.2 hn
    exact ⟨g, off, e, by omega, hc⟩⟩
theorem Rd.below (h : Rd w B sz A n xs) (hb : Below B w w') : Rd w' B sz A n xs := h.keep fun _ hp => hb.cell hp
theorem Rd.upto (h : Rd w B sz A n xs) (hb : Below B w w') (hB : B ≤ w'.heap.size) : Rd w' w'.heap.size sz A n xs := (h.below hb).more hB
theorem Rd.drew (h : Rd w B sz A n xs) : Rd w.drew B sz A n xs := h
theorem Rd.drewN (h : Rd w B sz A n xs) (k : Nat) : Rd (w.drewN k) B sz A n xs := h
theorem Rd.alloc (h : Rd w B sz A n xs) (hB : B ≤ w.heap.size) (o : Obj) : Rd (w.alloc o) B sz A n xs := h.keep fun p hp => World.cell?_alloc_lt w o p (by omega)
theorem Rd.setCell (h : Rd w B sz A n xs) {p : Addr} (hB : B ≤ p.block) (u : Value) : Rd (w.setCell p u) B sz A n xs :=
  h.keep fun q hq => World.cell?_setCell_other w p q u (fun e => by subst e; omega)
theorem Rd.grown (h : Rd w B sz A n xs) {row : Option Nat} (hg : w.grownBy w' row) (hB : B ≤ w.heap.size) (hr : ∀ g, row = some g → B ≤ g) : Rd w' B sz A n xs :=
  h.keep fun p hp => World.cell?_of_block (hg.block p.block (by omega) (fun e => by have := hr _ e.symm; omega))
theorem Rd.take (h : Rd w B sz A n xs) {k : Nat} (hk : k ≤ n) : Rd w B sz A k (xs.take (k * sz)) := by
  refine ⟨by rw [List.length_take, h.1, Nat.min_eq_left (Nat.mul_le_mul_right _ hk)], fun hn => ?_⟩
  obtain ⟨g, off, e, hb, hc⟩ := h.2 (by omega)
  refine ⟨g, off, e, hb, fun j u hu => hc j u ?_⟩
  rw [List.getElem?_take] at hu
  split at hu
  · exact hu
  · cases hu
theorem Rd.cut {k cap : Nat} (h : Rd w B sz A n xs) (hk : k ≤ n) (hc : n ≤ cap) :
    Rd w B sz (if cap = k then A else A.map (·.add (k * sz))) (n - k) (xs.drop (k * sz)) := by
  refine ⟨by rw [List.length_drop, h.1, Nat.sub_mul], fun hn => ?_⟩
  obtain ⟨g, off, rfl, hb, hcell⟩ := h.2 (by omega)
  rw [if_neg (by omega)]
  refine ⟨g, off + k * sz, by simp [add_mk], hb, fun j u hu => ?_⟩
  rw [Nat.add_assoc]
  exact hcell _ u (by rw [← hu, List.getElem?_drop])
theorem Rd.of_own {base : Nat} {e : TypeId} {c : Nat} (h : w.ownsRow base e sz (.slice A n c) n xs) : Rd w w.heap.size sz A n xs := by
  refine ⟨h.1, fun hn => ?_⟩
  rcases h.2 with ⟨hv, h0⟩ | ⟨g, cap, cur, hv, hb, hh, _⟩
  · omega
  · injection hv with hA
    refine ⟨g, 0, hA, (Array.getElem?_eq_some_iff.1 hh).1, fun j u hu => ?_⟩
    have := h.cells (g := g) (by simp [Value.ownBlock, hA]) j u hu
    rwa [add_mk] at this
theorem own_form {base : Nat} {e : TypeId} {v : Value} (h : w.ownsRow base e sz v n xs) : ∃ A c, v = .slice A n c ∧ n ≤ c ∧ c ≤ maxLen := by
  rcases h.2 with ⟨rfl, rfl⟩ | ⟨g, cap, cur, rfl, _, _, h1, h2, _⟩
  · exact ⟨none, 0, rfl, Nat.le_refl _, by simp [maxLen]⟩
  · exact ⟨_, cap, rfl, h1, h2⟩
theorem own_cap {base : Nat} {e : TypeId} {c : Nat} (h : w.ownsRow base e sz (.slice A n c) n xs) : n ≤ c ∧ c ≤ 9223372036854775807 := by
  obtain ⟨A2, c2, e, h3, h4⟩ := own_form h
  injection e with e1 e2 e3
  subst e3
  exact ⟨h3, h4⟩
theorem own_more {base base' : Nat} {e : TypeId} {v : Value} (h : w.ownsRow base e sz v n xs) (hb : base' ≤ base) : w.ownsRow base' e sz v n xs := by
  refine ⟨h.1, ?_⟩
  rcases h.2 with h0 | ⟨g, cap, cur, hv, hbg, r⟩
  · exact .inl h0
  · exact .inr ⟨g, cap, cur, hv, by omega, r⟩
theorem own_below {base : Nat} {e : TypeId} {v : Value} (h : w.ownsRow base e sz v n xs) (hb : Below w.heap.size w w') : w'.ownsRow base e sz v n xs := by
  refine ⟨h.1, ?_⟩
  rcases h.2 with h0 | ⟨g, cap, cur, hv, hbg, hh, r⟩
  · exact .inl h0
  · exact .inr ⟨g, cap, cur, hv, hbg, by rw [hb.block g (Array.getElem?_eq_some_iff.1 hh).1]; exact hh, r⟩
end

theorem below_drewN {B : Nat} {a w : World} (h : Below B a w) (n : Nat) : Below B a (w.drewN n) := ⟨h.os, h.tape, h.output, h.size, h.block⟩

theorem own_take {w : World} {base : Nat} {e : TypeId} {sz n k c : Nat} {A : Option Addr} {xs : List Value} (h : w.ownsRow base e sz (.slice A n c) n xs) (hk : k ≤ n) :
    w.ownsRow base e sz (.slice A k c) k (xs.take (k * sz)) := by
  refine ⟨by rw [List.length_take, h.1, Nat.min_eq_left (Nat.mul_le_mul_right _ hk)], ?_⟩
  rcases h.2 with ⟨hv, h0⟩ | ⟨g, cap, cur, hv, hb, hh, h1, h2, h3, h4⟩
  · injection hv with h5 h6 h7
    subst h5; subst h7
    have : k = 0 := by omega
    subst this
    exact .inl ⟨rfl, rfl⟩
  · injection hv with h5 h6 h7
    subst h5; subst h7
    refine .inr ⟨g, _, cur, rfl, hb, hh, by omega, h2, h3, ?_⟩
    rw [← h4, List.take_take, Nat.min_eq_left (Nat.mul_le_mul_right _ hk)]

/-- Two calls, one behind the other. -/
theorem bseq {a b c : World} (h : Below a.heap.size a b) (k : Below b.heap.size b c) : Below a.heap.size a c := h.trans (k.mono h.size)
/-- Behind a call: it answers 'v'; nothing that was there has turned. -/
def Ret (v : Value) (w : World) (e : Ending) (w' : World) : Prop := e = .returned v ∧ Below w.heap.size w w'
/-- Behind a call: it answers 'v'; the world is as it was. -/
def RetS (v : Value) (w : World) (e : Ending) (w' : World) : Prop := e = .returned v ∧ w = w'
/-- Behind a call: it answers 'v'; the world is as it was, but for draws. -/
def RetQ (v : Value) (w : World) (e : Ending) (w' : World) : Prop := e = .returned v ∧ ∃ m, w' = w.drewN m
def Drew (w w' : World) : Prop := ∃ m, w' = w.drewN m
theorem Drew.refl (w : World) : Drew w w := ⟨0, rfl⟩
theorem Drew.more {w w' : World} (h : Drew w w') (n : Nat) : Drew w (w'.drewN n) := by
  obtain ⟨m, rfl⟩ := h
  exact ⟨m + n, World.drewN_drewN _ _ _⟩
theorem Drew.below {w w' : World} (h : Drew w w') (B : Nat) : Below B w w' := by
  obtain ⟨m, rfl⟩ := h
  exact below_drewN (Below.refl _ _) _
theorem RetQ.ret {v : Value} {w w' : World} {e : Ending} (h : RetQ v w e w') : Ret v w e w' := ⟨h.1, Drew.below h.2 _⟩
/-- Behind a call: it answers a slice of its own, with the cells 'xs'. -/
def RetOwn (e : TypeId) (sz n : Nat) (xs : List Value) (w : World) (en : Ending) (w' : World) : Prop :=
  ∃ A c, en = .returned (.slice A n c) ∧ w'.ownsRow w.heap.size e sz (.slice A n c) n xs ∧ Below w.heap.size w w' ∧ n ≤ c ∧ c ≤ 9223372036854775807

section
variable {P : Program} (w : World)
theorem run_append_of_nil (base : Nat) (t ty e : TypeId) (i : TypeInfo) (size : Nat) (ht : P.underlying t = some (.slice e)) (hi : P.info? e = some i)
    (v : Value) (n : Nat) (xs : List Value) (hown : w.ownsRow base e size v n xs) (c : Nat) : (Builtin.append_ #[t, t] ty #[v, .slice none 0 c]).run P w = .ok v w := by
  rcases hown.2 with ⟨rfl, rfl⟩ | ⟨g, cap, cur, rfl, _, _, hnc, _⟩
  · simp [Builtin.append_, run_underlying ht, sizeOf, typeInfo, hi, Builtin.lenOf, Builtin.firstCells]
  · simp [Builtin.append_, run_underlying ht, sizeOf, typeInfo, hi, Builtin.lenOf, Builtin.firstCells, hnc, storeCells]

theorem run_append_rd (base : Nat) (t ty e : TypeId) (i : TypeInfo) (z : Value) (size bytes : Nat) (ht : P.underlying t = some (.slice e)) (hi : P.info? e = some i) (hz : i.zero = some z)
    (hsize : i.size = size) (hby : i.bytes = bytes) (hzs : z.cells.size = size) (hsz : 0 < size)
    (v : Value) (n : Nat) (xs : List Value) (hown : w.ownsRow base e size v n xs)
    (B : Nat) (A : Option Addr) (m c : Nat) (news : List Value) (hr : Rd w B size A m news) (h1 : ∀ u ∈ news, u.oneCell' = true)
    (h63 : n + m ≤ maxLen) (hbytes : (n + m) * bytes ≤ 140737488355328) (hbase : base ≤ w.heap.size) :
    ∃ v' w', (Builtin.append_ #[t, t] ty #[v, .slice A m c]).run P w = .ok v' w' ∧ w'.ownsRow base e size v' (n + m) (xs ++ news) ∧ w.grownBy w' v.ownBlock ∧
      (v'.ownBlock = v.ownBlock ∨ v'.ownBlock = some w.heap.size) := by
  rcases A with _ | ad
  · have hm : m = 0 := by
      rcases Nat.eq_zero_or_pos m with h0 | h0
      · exact h0
      · obtain ⟨g, off, h, _⟩ := hr.2 h0
        cases h
    subst hm
    have hn : news = [] := List.eq_nil_of_length_eq_zero (by simpa using hr.1)
    subst hn
    exact ⟨v, w, run_append_of_nil w base t ty e i size ht hi v n xs hown c, by simpa using hown, World.grownBy.refl w _, .inl rfl⟩
  · have hcells : ∀ j u, news[j]? = some u → w.cell? (ad.add j) = some u := by
      intro j u hu
      rcases Nat.eq_zero_or_pos m with h0 | h0
      · subst h0
        have hn : news = [] := List.eq_nil_of_length_eq_zero (by simpa using hr.1)
        subst hn
        simp at hu
      · obtain ⟨g, off, h, _, hc⟩ := hr.2 h0
        injection h with h
        subst h
        rw [add_mk]
        exact hc j u hu
    obtain ⟨v', w', hrun, h2, h3, _, h5⟩ := run_append_own_at (P := P) w base t ty e i z size bytes ht hi hz hsize hby hzs hsz v n xs hown ad m c news hr.1 hcells h1 h63 hbytes hbase
    exact ⟨v', w', hrun, h2, h3, h5⟩

theorem wp_append_rd {o : Oper} {a : Act} {K : Act → World → Prop} {Q : Exit → Act → World → Prop} (s x : Operand) (t : TypeId)
    (ho : o.op = .call { callee := .builtin .append, args := #[s, x], argTypes := #[t, t] })
    (base : Nat) (e : TypeId) (i : TypeInfo) (z : Value) (size bytes : Nat) (ht : P.underlying t = some (.slice e)) (hi : P.info? e = some i) (hz : i.zero = some z)
    (hsize : i.size = size) (hby : i.bytes = bytes) (hzs : z.cells.size = size) (hsz : 0 < size)
    (v : Value) (n : Nat) (xs : List Value) (hs : a.eval s = v) (hown : w.ownsRow base e size v n xs)
    (B : Nat) (A : Option Addr) (m c : Nat) (news : List Value) (hx : a.eval x = .slice A m c) (hr : Rd w B size A m news) (h1 : ∀ u ∈ news, u.oneCell' = true)
    (h63 : n + m ≤ maxLen) (hbytes : (n + m) * bytes ≤ 140737488355328) (hbase : base ≤ w.heap.size)
    (h : ∀ A' c' w', w'.ownsRow base e size (.slice A' (n + m) c') (n + m) (xs ++ news) → Below base w w' → K (a.put o.dst (.slice A' (n + m) c')) w') : o.wp P a w K Q := by
  obtain ⟨v', w', hrun, h2, h3, h4⟩ := run_append_rd (P := P) w base t o.type e i z size bytes ht hi hz hsize hby hzs hsz v n xs hown B A m c news hr h1 h63 hbytes hbase
  obtain ⟨A', c', rfl, _, _⟩ := own_form h2
  unfold Oper.wp execOp
  simp only [ho, resolve, invoke, builtin, Sem.run_bind, Sem.run_pure, Result.andThen_ok, List.map_toArray, List.map_cons, List.map_nil, hs, hx, hrun]
  exact h A' c' w' h2 ((Below.refl base w).grown h3 hbase (fun k hk => (hown.lt k hk).1))

theorem wpList_append_rd {ops : Array Oper} {rest : List Oper} {o : Oper} {a : Act} {Q : Exit → Act → World → Prop} (hgd : o.guard = none) (s x : Operand) (t : TypeId)
    (ho : o.op = .call { callee := .builtin .append, args := #[s, x], argTypes := #[t, t] })
    (base : Nat) (e : TypeId) (i : TypeInfo) (z : Value) (size bytes : Nat) (ht : P.underlying t = some (.slice e)) (hi : P.info? e = some i) (hz : i.zero = some z)
    (hsize : i.size = size) (hby : i.bytes = bytes) (hzs : z.cells.size = size) (hsz : 0 < size)
    (v : Value) (n : Nat) (xs : List Value) (hs : a.eval s = v) (hown : w.ownsRow base e size v n xs)
    (B : Nat) (A : Option Addr) (m c : Nat) (news : List Value) (hx : a.eval x = .slice A m c) (hr : Rd w B size A m news) (h1 : ∀ u ∈ news, u.oneCell' = true)
    (h63 : n + m ≤ maxLen) (hbytes : (n + m) * bytes ≤ 140737488355328) (hbase : base ≤ w.heap.size)
    (h : ∀ A' c' w', w'.ownsRow base e size (.slice A' (n + m) c') (n + m) (xs ++ news) → Below base w w' → wpList P ops Q rest (a.put o.dst (.slice A' (n + m) c')) w') : wpList P ops Q (o :: rest) a w :=
  wpList_plain hgd fun _ hK => wp_append_rd w s x t ho base e i z size bytes ht hi hz hsize hby hzs hsz v n xs hs hown B A m c news hx hr h1 h63 hbytes hbase fun A' c' w' h2 h3 => hK _ _ (h A' c' w' h2 h3)
theorem wp_append_rg {o : Oper} {a : Act} {K : Act → World → Prop} {Q : Exit → Act → World → Prop} (s x : Operand) (t : TypeId)
    (ho : o.op = .call { callee := .builtin .append, args := #[s, x], argTypes := #[t, t] })
    (base : Nat) (e : TypeId) (i : TypeInfo) (z : Value) (size bytes : Nat) (ht : P.underlying t = some (.slice e)) (hi : P.info? e = some i) (hz : i.zero = some z)
    (hsize : i.size = size) (hby : i.bytes = bytes) (hzs : z.cells.size = size) (hsz : 0 < size)
    (v : Value) (n : Nat) (xs : List Value) (hs : a.eval s = v) (hown : w.ownsRow base e size v n xs)
    (B : Nat) (A : Option Addr) (m c : Nat) (news : List Value) (hx : a.eval x = .slice A m c) (hr : Rd w B size A m news) (h1 : ∀ u ∈ news, u.oneCell' = true)
    (h63 : n + m ≤ maxLen) (hbytes : (n + m) * bytes ≤ 140737488355328) (hbase : base ≤ w.heap.size)
    (h : ∀ A' c' w', w'.ownsRow base e size (.slice A' (n + m) c') (n + m) (xs ++ news) → Below base w w' → w.grownBy w' v.ownBlock → K (a.put o.dst (.slice A' (n + m) c')) w') : o.wp P a w K Q := by
  obtain ⟨v', w', hrun, h2, h3, h4⟩ := run_append_rd (P := P) w base t o.type e i z size bytes ht hi hz hsize hby hzs hsz v n xs hown B A m c news hr h1 h63 hbytes hbase
  obtain ⟨A', c', rfl, _, _⟩ := own_form h2
  unfold Oper.wp execOp
  simp only [ho, resolve, invoke, builtin, Sem.run_bind, Sem.run_pure, Result.andThen_ok, List.map_toArray, List.map_cons, List.map_nil, hs, hx, hrun]
  exact h A' c' w' h2 ((Below.refl base w).grown h3 hbase (fun k hk => (hown.lt k hk).1)) h3

theorem wpList_append_rg {ops : Array Oper} {rest : List Oper} {o : Oper} {a : Act} {Q : Exit → Act → World → Prop} (hgd : o.guard = none) (s x : Operand) (t : TypeId)
    (ho : o.op = .call { callee := .builtin .append, args := #[s, x], argTypes := #[t, t] })
    (base : Nat) (e : TypeId) (i : TypeInfo) (z : Value) (size bytes : Nat) (ht : P.underlying t = some (.slice e)) (hi : P.info? e = some i) (hz : i.zero = some z)
    (hsize : i.size = size) (hby : i.bytes = bytes) (hzs : z.cells.size = size) (hsz : 0 < size)
    (v : Value) (n : Nat) (xs : List Value) (hs : a.eval s = v) (hown : w.ownsRow base e size v n xs)
    (B : Nat) (A : Option Addr) (m c : Nat) (news : List Value) (hx : a.eval x = .slice A m c) (hr : Rd w B size A m news) (h1 : ∀ u ∈ news, u.oneCell' = true)
    (h63 : n + m ≤ maxLen) (hbytes : (n + m) * bytes ≤ 140737488355328) (hbase : base ≤ w.heap.size)
    (h : ∀ A' c' w', w'.ownsRow base e size (.slice A' (n + m) c') (n + m) (xs ++ news) → Below base w w' → w.grownBy w' v.ownBlock → wpList P ops Q rest (a.put o.dst (.slice A' (n + m) c')) w') : wpList P ops Q (o :: rest) a w :=
  wpList_plain hgd fun _ hK => wp_append_rg w s x t ho base e i z size bytes ht hi hz hsize hby hzs hsz v n xs hs hown B A m c news hx hr h1 h63 hbytes hbase fun A' c' w' h2 h3 h4 => hK _ _ (h A' c' w' h2 h3 h4)
end

/-- A byte as a cell. -/
def bv (b : UInt8) : Value := .int .u8 (b.toNat : Int)
theorem bv_one (l : List UInt8) : ∀ u ∈ l.map bv, u.oneCell' = true := by
  intro u hu
  obtain ⟨b, _, rfl⟩ := List.mem_map.1 hu
  rfl
/-- A slice of bytes that reads as a list. -/
abbrev Bs (w : World) (B : Nat) (A : Option Addr) (n : Nat) (l : List UInt8) : Prop := Rd w B 1 A n (l.map bv)
theorem Bs.len {w : World} {B n : Nat} {A : Option Addr} {l : List UInt8} (h : Bs w B A n l) : l.length = n := by simpa using Rd.len h
theorem Bs.at_ {w : World} {B n k : Nat} {A : Option Addr} {l : List UInt8} (h : Bs w B A n l) (hk : k < n) :
    ∃ g off b, A = some ⟨g, off, none⟩ ∧ g < B ∧ l[k]? = some b ∧ w.cell? ⟨g, off + k, none⟩ = some (.int .u8 (b.toNat : Int)) := by
  obtain ⟨g, off, u, hA, hg, hu, hc⟩ := Rd.at_ h hk
  rw [List.getElem?_map] at hu
  cases hb : l[k]? with
  | none => rw [hb] at hu; cases hu
  | some b => rw [hb] at hu; injection hu with hu; subst hu; exact ⟨g, off, b, hA, hg, rfl, hc⟩
theorem Bs.take {w : World} {B n : Nat} {A : Option Addr} {l : List UInt8} (h : Bs w B A n l) {k : Nat} (hk : k ≤ n) : Bs w B A k (l.take k) := by
  have := Rd.take h hk
  simpa [Bs, List.map_take] using this
theorem Bs.cut {w : World} {B n : Nat} {A : Option Addr} {l : List UInt8} {k cap : Nat} (h : Bs w B A n l) (hk : k ≤ n) (hc : n ≤ cap) :
    Bs w B (if cap = k then A else A.map (·.add k)) (n - k) (l.drop k) := by
  have := Rd.cut h hk hc
  simpa [Bs, List.map_drop] using this

theorem Rd.one {w : World} (g : Nat) (u : Value) (T : TypeId) (B : Nat) (hB : g < B) (h : w.heap[g]? = some (.cells #[u] T (0, 0))) : Rd w B 1 (some ⟨g, 0, none⟩) 1 [u] :=
  ⟨rfl, fun _ => ⟨g, 0, rfl, hB, fun j v hv => by
    have : j = 0 := by
      rcases Nat.eq_zero_or_pos j with h | h
      · exact h
      · rw [List.getElem?_eq_none (by simp; omega)] at hv; cases hv
    subst this
    injection hv with hv
    subst hv
    rw [cell_of_row w g _ #[u] T (0, 0) h]; rfl⟩⟩
theorem Rd.one_new (w : World) (u : Value) (T : TypeId) : Rd (w.alloc (.cells #[u] T)) (w.heap.size + 1) 1 (some ⟨w.heap.size, 0, none⟩) 1 [u] :=
  Rd.one _ _ T _ (by omega) (heap_alloc_new w _)
theorem Rd.lit_new (w : World) (cs : List Value) (T : TypeId) : Rd (w.alloc (.cells cs.toArray T)) (w.heap.size + 1) 1 (some ⟨w.heap.size, 0, none⟩) cs.length cs :=
  ⟨by simp, fun _ => ⟨w.heap.size, 0, rfl, by omega, fun j u hu => by rw [World.cell?_alloc_new]; simpa using hu⟩⟩
theorem own_empty (w : World) (T : TypeId) (sz : Nat) : (w.alloc (.cells #[] T)).ownsRow w.heap.size T sz (.slice (some ⟨w.heap.size, 0, none⟩) 0 0) 0 [] :=
  World.ownsRow_made w #[] 0 (Nat.le_refl _) (by simp [maxLen]) (by simp)

theorem Bs.lit (w : World) (T : TypeId) (cs : Array Value) (fz : Nat × Nat) (l : List UInt8) (n : Nat) (h : cs = (l.map bv).toArray) (hn : n = l.length) :
    Bs (w.alloc (.cells cs T fz)) (w.alloc (.cells cs T fz)).heap.size (some ⟨w.heap.size, 0, none⟩) n l := by
  subst h; subst hn
  refine ⟨by simp, fun _ => ⟨w.heap.size, 0, rfl, by simp, fun j u hu => ?_⟩⟩
  have : (w.alloc (.cells (l.map bv).toArray T fz)).heap[w.heap.size]? = some (.cells (l.map bv).toArray T fz) := heap_alloc_new w _
  rw [cell_of_row _ _ _ _ _ _ this]
  simpa using hu

theorem Bs.one_new (w : World) (T : TypeId) (b : UInt8) (x : Int) (h : x = (b.toNat : Int)) : Bs (w.alloc (.cells #[.int .u8 x] T)) (w.heap.size + 1) (some ⟨w.heap.size, 0, none⟩) 1 [b] := by
  subst h; exact Rd.one_new _ _ _
/-- What the frame of a proof knows of a slice of bytes that came in. -/
theorem bs_of_row {w : World} {a : Option Addr} {len cap : Nat} {zs : List Int} (h : (a = none ∧ len = 0 ∧ cap = 0 ∧ zs = []) ∨
    ∃ x, a = some x ∧ len ≤ cap ∧ cap ≤ maxLen ∧ zs.length = cap ∧ (∀ i, i < zs.length → w.cell? (x.add i) = some (.int .u8 (zs.getD i 0))) ∧ ∀ n ∈ zs, (Lit.int .u8 n).wf = true) :
    ∃ l : List UInt8, Bs w w.heap.size a len l ∧ len ≤ cap ∧ cap ≤ 9223372036854775807 := by
  rcases h with ⟨rfl, rfl, rfl, rfl⟩ | ⟨x, rfl, hl, hm, hz, hc, hw⟩
  · exact ⟨[], Rd.nil_ _, by omega, by omega⟩
  · refine ⟨(zs.take len).map fun n => UInt8.ofNat n.toNat, ⟨by simp; omega, fun hn => ?_⟩, hl, hm⟩
    obtain ⟨b, off, spot⟩ := x
    have h0 := hc 0 (by omega)
    have hspot : spot = none := by simpa [Addr.add] using World.cell?_spot h0
    subst hspot
    have hblk : b < w.heap.size := World.block_lt_of_cell? w _ h0
    refine ⟨b, off, rfl, hblk, fun j u hu => ?_⟩
    rw [List.map_map, List.getElem?_map] at hu
    cases hj : (zs.take len)[j]? with
    | none => rw [hj] at hu; cases hu
    | some n =>
      rw [hj] at hu
      injection hu with hu
      subst hu
      have hj2 : zs[j]? = some n := by
        rw [List.getElem?_take] at hj
        split at hj
        · exact hj
        · cases hj
      have hjl : j < zs.length := (List.getElem?_eq_some_iff.1 hj2).1
      have hcj := hc j hjl
      rw [add_mk] at hcj
      rw [hcj]
      have hn' : zs.getD j 0 = n := by simp [List.getD, hj2]
      rw [hn']
      have hwf := hw n (List.mem_of_getElem? hj2)
      simp [Lit.wf, IntKind.min, IntKind.max, IntKind.signed, IntKind.bits] at hwf
      show some _ = some (Value.int .u8 _)
      congr 2
      simp only [UInt8.toNat_ofNat']
      omega

/-- A cell of a row of bytes of the call's own. -/
theorem own_at {w : World} {base n c k : Nat} {A : Option Addr} {e : TypeId} {l : List UInt8} (h : w.ownsRow base e 1 (.slice A n c) n (l.map bv)) (hk : k < n) :
    ∃ g b, A = some ⟨g, 0, none⟩ ∧ base ≤ g ∧ g < w.heap.size ∧ l[k]? = some b ∧ w.cell? ⟨g, k, none⟩ = some (.int .u8 (b.toNat : Int)) ∧ w.frozen? ⟨g, k, none⟩ = false := by
  have hr := Rd.of_own h
  obtain ⟨g, off, b, hA, hg, hb, hc⟩ := Bs.at_ hr hk
  rcases h.2 with ⟨hv, h0⟩ | ⟨g', cap, cur, hv, hb', hh, _⟩
  · omega
  · injection hv with h1 h2 h3
    rw [hA] at h1
    injection h1 with h1
    injection h1 with h4 h5
    subst h4; subst h5
    rw [Nat.zero_add] at hc
    exact ⟨g, b, hA, hb', hg, hb, hc, frozen_of_row w g k cur e hh⟩

theorem own_set {w : World} {base n c k g : Nat} {e : TypeId} {l : List UInt8} (h : w.ownsRow base e 1 (.slice (some ⟨g, 0, none⟩) n c) n (l.map bv)) (b : UInt8) :
    (w.setCell ⟨g, k, none⟩ (.int .u8 (b.toNat : Int))).ownsRow base e 1 (.slice (some ⟨g, 0, none⟩) n c) n ((l.set k b).map bv) := by
  have := (World.ownsRow.stored h k (.int .u8 (b.toNat : Int))).1
  rw [List.map_set]
  exact this
theorem u8_xor_byte (a b : UInt8) : bits .xor .u8 (a.toNat : Int) (b.toNat : Int) = (((a ^^^ b).toNat : Nat) : Int) := by
  rw [u8_xor_nat _ _ a.toNat_lt b.toNat_lt, UInt8.toNat_xor]

/-- A list of bytes as a string. -/
def str (l : List UInt8) : ByteArray := ⟨l.toArray⟩
theorem str_toList (l : List UInt8) : (str l).toList = l := by rw [ByteArray.toList_eq]; rfl
theorem str_data (s : ByteArray) : str s.toList = s := by rw [ByteArray.toList_eq]; unfold str; cases s; simp
theorem foldl_push (l : List UInt8) : ∀ a : List UInt8, (l.map fun b => (b.toNat : Int)).foldl (fun r n => r.push (UInt8.ofNat n.toNat)) (str a) = str (a ++ l) := by
  induction l with
  | nil => intro a; simp
  | cons b l ih =>
    intro a
    rw [List.map_cons, List.foldl_cons]
    have e : (str a).push (UInt8.ofNat ((b.toNat : Int)).toNat) = str (a ++ [b]) := by
      simp [str, ByteArray.push]
    rw [e, ih, List.append_assoc]
    rfl
theorem run_convert_bs {P : Program} {w : World} {B n : Nat} {A : Option Addr} {l : List UInt8} (h : Bs w B A n l) (src e dst c : Nat) (hs : P.underlying src = some (.slice e)) (he : P.underlying e = some (.int .u8)) (hd : P.underlying dst = some .string) :
    (convert src dst (.slice A n c)).run P w = .ok (.string (str l)) w := by
  have hl := h.len
  rcases A with _ | ad
  · have hn : n = 0 := by
      rcases Nat.eq_zero_or_pos n with h0 | h0
      · exact h0
      · obtain ⟨g, off, hA, _⟩ := h.2 h0
        cases hA
    have : l = [] := List.eq_nil_of_length_eq_zero (by omega)
    subst this
    rw [run_convert_bytes_string w src dst e _ n c hs he hd]
    simp [Conv.bytesToString]
    rfl
  · have hc : ∀ j v, (l.map bv)[j]? = some v → w.cell? (ad.add j) = some v := by
      intro j v hj
      have hjl : j < l.length := by
        rcases Nat.lt_or_ge j l.length with h | h
        · exact h
        · rw [List.getElem?_eq_none (by simpa using h)] at hj; cases hj
      obtain ⟨g, off, hA, _, hcell⟩ := h.2 (by omega)
      injection hA with hA
      subst hA
      rw [add_mk]
      exact hcell j v hj
    have hld := run_loadCells_list (P := P) w ad (l.map bv) hc
    rw [List.length_map, hl] at hld
    have e1 : l.map bv = (l.map fun b => (b.toNat : Int)).map (Value.int .u8) := by rw [List.map_map]; rfl
    rw [run_convert_bytes_string w src dst e _ n c hs he hd, run_bytesToString w ad n c (l.map fun b => (b.toNat : Int)) (by rw [← e1]; exact hld)]
    have := foldl_push l []
    rw [List.nil_append] at this
    rw [← this]
    rfl

theorem u8_of_wf {x : Int} (h : (Lit.int .u8 x).wf = true) : ∃ b : UInt8, x = (b.toNat : Int) := by
  simp [Lit.wf, IntKind.min, IntKind.max, IntKind.signed, IntKind.bits] at h
  refine ⟨UInt8.ofNat x.toNat, ?_⟩
  rw [UInt8.toNat_ofNat']
  omega
theorem u64_of_wf {x : Int} (h : (Lit.int .u64 x).wf = true) : ∃ n : Nat, x = (n : Int) ∧ n < 18446744073709551616 := by
  simp [Lit.wf, IntKind.min, IntKind.max, IntKind.signed, IntKind.bits] at h
  exact ⟨x.toNat, by omega, by omega⟩
theorem i64_of_wf {x : Int} (h : (Lit.int .i64 x).wf = true) : -9223372036854775808 ≤ x ∧ x ≤ 9223372036854775807 := by
  simp [Lit.wf, IntKind.min, IntKind.max, IntKind.signed, IntKind.bits] at h
  omega

theorem take_same_snoc {α : Type} {l m : List α} {k : Nat} {a b : α} (ha : l[k]? = some a) (hb : m[k]? = some b) (h : l.take k = m.take k) (hab : a = b) : l.take (k + 1) = m.take (k + 1) := by
  rw [List.take_add_one, List.take_add_one, h, ha, hb, hab]

theorem i64_and30 (a : Int) : ∃ r : Nat, r < 1073741824 ∧ bits .and .i64 a 1073741823 = (r : Int) := by
  have h : bits .and .i64 a 1073741823 = IntKind.i64.wrap (((BitVec.ofInt 64 a &&& BitVec.ofInt 64 1073741823).toNat : Nat) : Int) := rfl
  have hl : (BitVec.ofInt 64 a &&& BitVec.ofInt 64 1073741823).toNat ≤ 1073741823 := by
    rw [BitVec.toNat_and]; exact Nat.le_trans Nat.and_le_right (by decide)
  refine ⟨_, Nat.lt_succ_of_le hl, ?_⟩
  rw [h, IntKind.wrap_i64]
  omega

/-- Two rows whose elements are of two types lie in two blocks. -/
theorem own_apart {w : World} {b b' : Nat} {e e' : TypeId} {sz sz' n n' : Nat} {v v' : Value} {xs xs' : List Value} (h : w.ownsRow b e sz v n xs) (h' : w.ownsRow b' e' sz' v' n' xs') (hne : e ≠ e') :
    v.ownBlock = none ∨ v.ownBlock ≠ v'.ownBlock := by
  rcases h.2 with ⟨rfl, _⟩ | ⟨g, cap, cur, rfl, _, hh, _⟩
  · exact .inl rfl
  · refine .inr fun he => ?_
    rcases h'.2 with ⟨rfl, _⟩ | ⟨g', cap', cur', rfl, _, hh', _⟩
    · simp [Value.ownBlock] at he
    · have : g = g' := by simpa [Value.ownBlock] using he
      subst this
      rw [hh] at hh'
      injection hh' with hh'
      injection hh' with _ ht
      exact hne ht
/-- Slices of bytes of the call's own. -/
def Rwo (w : World) (base : Nat) (e : TypeId) (vs : List Value) (R : List (List UInt8)) : Prop :=
  vs.length = R.length ∧ ∀ (i : Nat) (v : Value) (p : List UInt8), vs[i]? = some v → R[i]? = some p → w.ownsRow base e 1 v p.length (p.map bv)
theorem Rwo.nil_ (w : World) (base : Nat) (e : TypeId) : Rwo w base e [] [] := ⟨rfl, fun i v p h => by simp at h⟩
theorem Rwo.below {w w' : World} {base : Nat} {e : TypeId} {vs : List Value} {R : List (List UInt8)} (h : Rwo w base e vs R) (hb : Below w.heap.size w w') : Rwo w' base e vs R :=
  ⟨h.1, fun i v p hv hp => own_below (h.2 i v p hv hp) hb⟩
theorem Rwo.kept {w w' : World} {base : Nat} {e : TypeId} {vs : List Value} {R : List (List UInt8)} (h : Rwo w base e vs R) {b' e' sz n' : Nat} {v' : Value} {xs : List Value} (ho : w.ownsRow b' e' sz v' n' xs) (hne : e ≠ e') (hg : w.grownBy w' v'.ownBlock) : Rwo w' base e vs R :=
  ⟨h.1, fun i v p hv hp => (h.2 i v p hv hp).kept hg (own_apart (h.2 i v p hv hp) ho hne)⟩
theorem Rwo.snoc {w : World} {base : Nat} {e : TypeId} {vs : List Value} {R : List (List UInt8)} (h : Rwo w base e vs R) {v : Value} {p : List UInt8} (ho : w.ownsRow base e 1 v p.length (p.map bv)) : Rwo w base e (vs ++ [v]) (R ++ [p]) := by
  refine ⟨by simp [h.1], fun i u q hu hq => ?_⟩
  rcases Nat.lt_or_ge i vs.length with hi | hi
  · rw [List.getElem?_append_left hi] at hu
    rw [List.getElem?_append_left (by rw [← h.1]; exact hi)] at hq
    exact h.2 i u q hu hq
  · rw [List.getElem?_append_right hi] at hu
    rw [List.getElem?_append_right (by rw [← h.1]; exact hi)] at hq
    have hi2 : i - vs.length = 0 := by
      rcases Nat.eq_zero_or_pos (i - vs.length) with h0 | h0
      · exact h0
      · rw [List.getElem?_eq_none (by simp; omega)] at hu; cases hu
    rw [← h.1, hi2] at hq
    rw [hi2] at hu
    injection hu with hu
    injection hq with hq
    subst hu; subst hq
    exact ho
theorem Rwo.more {w : World} {base base' : Nat} {e : TypeId} {vs : List Value} {R : List (List UInt8)} (h : Rwo w base e vs R) (hb : base' ≤ base) : Rwo w base' e vs R :=
  ⟨h.1, fun i v p hv hp => own_more (h.2 i v p hv hp) hb⟩

end Go.Proofs.YtfcbcbpnlnkpcaaDoor
/- Values: trees of nodes, and what it is that memory holds one. A value is a node with its kids, a forest; a forest is empty, or a node, its kids, and the rest. -/
namespace Go.Proofs.YtfcbcbpnlnkpcaaDoor
set_option linter.all false
open Go.RowKit

structure Nd where
  kind : Int
  int : Int
  scale : Int
  text : List UInt8
  names : List (List UInt8)
inductive F where
  | nil
  | cons (n : Nd) (k r : F)
def F.len : F → Nat
  | .nil => 0
  | .cons _ _ r => r.len + 1
def F.get : F → Nat → Option (Nd × F)
  | .nil, _ => none
  | .cons n k _, 0 => some (n, k)
  | .cons _ _ r, i + 1 => r.get i
def F.drop : F → Nat → F
  | f, 0 => f
  | .nil, _ + 1 => .nil
  | .cons _ _ r, i + 1 => r.drop i
theorem F.get_lt : ∀ (f : F) (i : Nat), i < f.len → ∃ n k, f.get i = some (n, k)
  | .nil, i, h => absurd h (by simp [F.len])
  | .cons n k r, 0, _ => ⟨n, k, rfl⟩
  | .cons n k r, i + 1, h => F.get_lt r i (by simp [F.len] at h; omega)
theorem F.drop_get : ∀ (f : F) (i : Nat) {n : Nd} {k : F}, f.get i = some (n, k) → f.drop i = .cons n k (f.drop (i + 1))
  | .nil, i, n, k, h => by simp [F.get] at h
  | .cons n' k' r, 0, n, k, h => by
    simp only [F.get, Option.some.injEq, Prod.mk.injEq] at h
    obtain ⟨rfl, rfl⟩ := h
    simp [F.drop]
  | .cons n' k' r, i + 1, n, k, h => by
    have := F.drop_get r i h
    simpa [F.drop] using this
theorem F.drop_len : ∀ (f : F) (i : Nat), f.len ≤ i → f.drop i = .nil
  | .nil, 0, _ => rfl
  | .nil, i + 1, _ => rfl
  | .cons n k r, 0, h => by simp [F.len] at h
  | .cons n k r, i + 1, h => by
    have := F.drop_len r i (by simp [F.len] at h; omega)
    simpa [F.drop] using this
/-- What holds of each node whose kids have it holds of all nodes. -/
theorem F.nodes {C : Nd → F → Prop} (h : ∀ n k, (∀ i m j, k.get i = some (m, j) → C m j) → C n k) : ∀ (f : F) (i : Nat) (n : Nd) (k : F), f.get i = some (n, k) → C n k
  | .nil, i, n, k, hg => by simp [F.get] at hg
  | .cons n' k' r, 0, n, k, hg => by
    simp only [F.get, Option.some.injEq, Prod.mk.injEq] at hg
    obtain ⟨rfl, rfl⟩ := hg
    exact h _ _ (F.nodes h k')
  | .cons n' k' r, i + 1, n, k, hg => F.nodes h r i n k hg
theorem F.node {C : Nd → F → Prop} (h : ∀ n k, (∀ i m j, k.get i = some (m, j) → C m j) → C n k) (n : Nd) (k : F) : C n k := h n k (F.nodes h k)

/-- A slice that reads as a list of cells, in blocks of the set S. -/
def RdS (w : World) (S : Nat → Prop) (sz : Nat) (A : Option Addr) (n : Nat) (xs : List Value) : Prop :=
  xs.length = n * sz ∧ (0 < n → ∃ g off, A = some ⟨g, off, none⟩ ∧ S g ∧ ∀ j u, xs[j]? = some u → w.cell? ⟨g, off + j, none⟩ = some u)
theorem RdS.keep {w w' : World} {S S' : Nat → Prop} {sz n : Nat} {A : Option Addr} {xs : List Value} (h : RdS w S sz A n xs) (hk : ∀ b, S b → w'.heap[b]? = w.heap[b]?) (hS : ∀ b, S b → S' b) : RdS w' S' sz A n xs :=
  ⟨h.1, fun hn => by
    obtain ⟨g, off, e, hg, hc⟩ := h.2 hn
    exact ⟨g, off, e, hS g hg, fun j u hu => (World.cell?_of_block (hk g hg)).trans (hc j u hu)⟩⟩
theorem RdS.rd {w : World} {B sz n : Nat} {A : Option Addr} {xs : List Value} (h : RdS w (· < B) sz A n xs) : Rd w B sz A n xs := h
theorem Rd.rdS {w : World} {B sz n : Nat} {A : Option Addr} {xs : List Value} (h : Rd w B sz A n xs) : RdS w (· < B) sz A n xs := h

def sv (s : List UInt8) : Value := .string (str s)
/-- A node's six cells. -/
def ncells (n : Nd) (An : Option Addr) (cn : Nat) (Ak : Option Addr) (kl ck : Nat) : List Value :=
  [.int .i64 n.kind, .int .i64 n.int, .int .i64 n.scale, .string (str n.text), .slice An n.names.length cn, .slice Ak kl ck]
/-- A number of 64 digits. -/
def I64 (x : Int) : Prop := -9223372036854775808 ≤ x ∧ x ≤ 9223372036854775807
def Nd.ok (n : Nd) : Prop := I64 n.kind ∧ I64 n.int ∧ I64 n.scale ∧ n.text.length ≤ 140737488351232 ∧ ∀ s ∈ n.names, s.length ≤ 140737488351232
/-- A length and a capacity, within reach (a new row.s capacity is known by its length alone). -/
def okl (n c : Nat) : Prop := n ≤ c ∧ (c ≤ 9223372036854775807 ∧ n ≤ 8796093021952)
/-- The cells of a forest. -/
def Kc (w : World) (S : Nat → Prop) : F → List Value → Prop
  | .nil, cs => cs = []
  | .cons n k r, cs => ∃ (An : Option Addr) (cn : Nat) (Ak : Option Addr) (ck : Nat) (cs' ks : List Value), cs = ncells n An cn Ak k.len ck ++ cs' ∧ n.ok ∧ okl n.names.length cn ∧ okl k.len ck ∧
      RdS w S 1 An n.names.length (n.names.map sv) ∧ RdS w S 6 Ak k.len ks ∧ Kc w S k ks ∧ Kc w S r cs'
theorem Kc.keep {w w' : World} {S S' : Nat → Prop} (hk : ∀ b, S b → w'.heap[b]? = w.heap[b]?) (hS : ∀ b, S b → S' b) : ∀ (f : F) (cs : List Value), Kc w S f cs → Kc w' S' f cs
  | .nil, cs, h => h
  | .cons n k r, cs, h => by
    obtain ⟨An, cn, Ak, ck, cs', ks, e, ho, h1, h2, hn, hr, hkk, hrr⟩ := h
    exact ⟨An, cn, Ak, ck, cs', ks, e, ho, h1, h2, hn.keep hk hS, hr.keep hk hS, Kc.keep hk hS k ks hkk, Kc.keep hk hS r cs' hrr⟩
theorem Kc.len {w : World} {S : Nat → Prop} : ∀ (f : F) (cs : List Value), Kc w S f cs → cs.length = f.len * 6
  | .nil, cs, h => by rw [show cs = [] from h]; rfl
  | .cons n k r, cs, h => by
    obtain ⟨An, cn, Ak, ck, cs', ks, e, _, _, _, _, _, _, hrr⟩ := h
    have := Kc.len r cs' hrr
    rw [e, List.length_append, this]
    simp only [ncells, F.len, List.length_cons, List.length_nil]
    omega
/-- The slice '.slice A f.len _' holds the forest f. -/
def Kids (w : World) (S : Nat → Prop) (A : Option Addr) (f : F) : Prop := ∃ ks, RdS w S 6 A f.len ks ∧ Kc w S f ks
theorem Kids.keep {w w' : World} {S S' : Nat → Prop} {A : Option Addr} {f : F} (h : Kids w S A f) (hk : ∀ b, S b → w'.heap[b]? = w.heap[b]?) (hS : ∀ b, S b → S' b) : Kids w' S' A f := by
  obtain ⟨ks, h1, h2⟩ := h
  exact ⟨ks, h1.keep hk hS, Kc.keep hk hS f ks h2⟩
/-- The value v is the node n with the kids k. -/
def Vo (w : World) (S : Nat → Prop) (n : Nd) (k : F) (v : Value) : Prop :=
  ∃ An cn Ak ck, v = .agg (ncells n An cn Ak k.len ck).toArray ∧ n.ok ∧ okl n.names.length cn ∧ okl k.len ck ∧ RdS w S 1 An n.names.length (n.names.map sv) ∧ Kids w S Ak k
theorem Vo.keep {w w' : World} {S S' : Nat → Prop} {n : Nd} {k : F} {v : Value} (h : Vo w S n k v) (hk : ∀ b, S b → w'.heap[b]? = w.heap[b]?) (hS : ∀ b, S b → S' b) : Vo w' S' n k v := by
  obtain ⟨An, cn, Ak, ck, e, ho, h1, h2, hn, hkk⟩ := h
  exact ⟨An, cn, Ak, ck, e, ho, h1, h2, hn.keep hk hS, hkk.keep hk hS⟩
theorem Vo.below {w w' : World} {B : Nat} {n : Nd} {k : F} {v : Value} (h : Vo w (· < B) n k v) (hb : Below B w w') : Vo w' (· < B) n k v := h.keep (fun b hbb => hb.block b hbb) (fun _ h => h)
theorem Vo.upto {w w' : World} {n : Nd} {k : F} {v : Value} (h : Vo w (· < w.heap.size) n k v) (hb : Below w.heap.size w w') : Vo w' (· < w'.heap.size) n k v :=
  h.keep (fun b hbb => hb.block b hbb) (fun b h => Nat.lt_of_lt_of_le h hb.size)
theorem Kids.upto {w w' : World} {A : Option Addr} {f : F} (h : Kids w (· < w.heap.size) A f) (hb : Below w.heap.size w w') : Kids w' (· < w'.heap.size) A f :=
  h.keep (fun b hbb => hb.block b hbb) (fun b h => Nat.lt_of_lt_of_le h hb.size)
/-- A node of a forest: its cells in memory. -/
theorem Kc.at_ {w : World} {S : Nat → Prop} : ∀ (f : F) (cs : List Value) (i : Nat) {n : Nd} {k : F}, Kc w S f cs → f.get i = some (n, k) →
    ∃ An cn Ak ck, (∀ j u, (ncells n An cn Ak k.len ck)[j]? = some u → cs[i * 6 + j]? = some u) ∧ n.ok ∧ okl n.names.length cn ∧ okl k.len ck ∧ RdS w S 1 An n.names.length (n.names.map sv) ∧ Kids w S Ak k
  | .nil, cs, i, n, k, _, hg => by simp [F.get] at hg
  | .cons n' k' r, cs, 0, n, k, h, hg => by
    simp only [F.get, Option.some.injEq, Prod.mk.injEq] at hg
    obtain ⟨rfl, rfl⟩ := hg
    obtain ⟨An, cn, Ak, ck, cs', ks, e, ho, h1, h2, hn, hr, hkk, hrr⟩ := h
    refine ⟨An, cn, Ak, ck, fun j u hu => ?_, ho, h1, h2, hn, ks, hr, hkk⟩
    rw [e, Nat.zero_mul, Nat.zero_add, List.getElem?_append_left (List.getElem?_eq_some_iff.1 hu).1]
    exact hu
  | .cons n' k' r, cs, i + 1, n, k, h, hg => by
    obtain ⟨An, cn, Ak, ck, cs', ks, e, _, _, _, _, _, _, hrr⟩ := h
    obtain ⟨Bn, dn, Bk, dk, hc, rest⟩ := Kc.at_ r cs' i hrr hg
    refine ⟨Bn, dn, Bk, dk, fun j u hu => ?_, rest⟩
    rw [e, List.getElem?_append_right (by simp [ncells]; omega)]
    have : (i + 1) * 6 + j - (ncells n' An cn Ak k'.len ck).length = i * 6 + j := by simp [ncells]; omega
    rw [this]
    exact hc j u hu
/-- The six cells of a node at an address, as a walk reads them. -/
def Six (w : World) (g o : Nat) (n : Nd) (An : Option Addr) (cn : Nat) (Ak : Option Addr) (kl ck : Nat) : Prop :=
  w.cell? ⟨g, o, none⟩ = some (.int .i64 n.kind) ∧ w.cell? ⟨g, o + 1, none⟩ = some (.int .i64 n.int) ∧ w.cell? ⟨g, o + 2, none⟩ = some (.int .i64 n.scale) ∧
  w.cell? ⟨g, o + 3, none⟩ = some (.string (str n.text)) ∧ w.cell? ⟨g, o + 4, none⟩ = some (.slice An n.names.length cn) ∧ w.cell? ⟨g, o + 5, none⟩ = some (.slice Ak kl ck)
theorem Kids.at_ {w : World} {S : Nat → Prop} {A : Option Addr} {f : F} {i : Nat} {n : Nd} {k : F} (h : Kids w S A f) (hg : f.get i = some (n, k)) (hi : i < f.len) :
    ∃ g off An cn Ak ck, A = some ⟨g, off, none⟩ ∧ S g ∧ Six w g (off + i * 6) n An cn Ak k.len ck ∧ Vo w S n k (.agg (ncells n An cn Ak k.len ck).toArray) := by
  obtain ⟨ks, hr, hk⟩ := h
  obtain ⟨g, off, hA, hS, hc⟩ := hr.2 (by omega)
  obtain ⟨An, cn, Ak, ck, hcs, ho, h1, h2, hn, hkk⟩ := Kc.at_ f ks i hk hg
  have hcell : ∀ j u, (ncells n An cn Ak k.len ck)[j]? = some u → w.cell? ⟨g, off + i * 6 + j, none⟩ = some u := fun j u hu => by
    rw [Nat.add_assoc]; exact hc _ _ (hcs j u hu)
  exact ⟨g, off, An, cn, Ak, ck, hA, hS, ⟨hcell 0 _ rfl, hcell 1 _ rfl, hcell 2 _ rfl, hcell 3 _ rfl, hcell 4 _ rfl, hcell 5 _ rfl⟩, An, cn, Ak, ck, rfl, ho, h1, h2, hn, hkk⟩
end Go.Proofs.YtfcbcbpnlnkpcaaDoor
/- A struct argument is boxed by the callee: the six cells of its box. -/
namespace Go.Proofs.YtfcbcbpnlnkpcaaDoor
set_option linter.all false
open Go.RowKit
theorem unhide {p : Prop} (h : Hid p) : p := h
/-- The six cells of a struct that the call has boxed. -/
def boxw (w : World) (n : Nd) (An : Option Addr) (cn : Nat) (Ak : Option Addr) (kl ck : Nat) : World := w.alloc (.cells (ncells n An cn Ak kl ck).toArray 25)
theorem boxw_eq (w : World) (n : Nd) (An : Option Addr) (cn : Nat) (Ak : Option Addr) (kl ck : Nat) :
    w.alloc (.cells #[.int .i64 n.kind, .int .i64 n.int, .int .i64 n.scale, .string (str n.text), .slice An n.names.length cn, .slice Ak kl ck] 25) = boxw w n An cn Ak kl ck := rfl
theorem boxw_size (w : World) (n : Nd) (An : Option Addr) (cn : Nat) (Ak : Option Addr) (kl ck : Nat) : (boxw w n An cn Ak kl ck).heap.size = w.heap.size + 1 := by simp [boxw]
theorem boxw_below (w : World) (n : Nd) (An : Option Addr) (cn : Nat) (Ak : Option Addr) (kl ck : Nat) : Below w.heap.size w (boxw w n An cn Ak kl ck) := (Below.refl _ _).alloc (Nat.le_refl _) _
/-- The six cells of a boxed struct, as a walk reads them. -/
def Six0 (w : World) (g : Nat) (n : Nd) (An : Option Addr) (cn : Nat) (Ak : Option Addr) (kl ck : Nat) : Prop :=
  w.cell? ⟨g, 0, none⟩ = some (.int .i64 n.kind) ∧ w.cell? ⟨g, 1, none⟩ = some (.int .i64 n.int) ∧ w.cell? ⟨g, 2, none⟩ = some (.int .i64 n.scale) ∧
  w.cell? ⟨g, 3, none⟩ = some (.string (str n.text)) ∧ w.cell? ⟨g, 4, none⟩ = some (.slice An n.names.length cn) ∧ w.cell? ⟨g, 5, none⟩ = some (.slice Ak kl ck)
theorem boxw_six (w : World) (n : Nd) (An : Option Addr) (cn : Nat) (Ak : Option Addr) (kl ck : Nat) : Six0 (boxw w n An cn Ak kl ck) w.heap.size n An cn Ak kl ck := by
  unfold boxw
  refine ⟨?_, ?_, ?_, ?_, ?_, ?_⟩ <;> (rw [World.cell?_alloc_new]; rfl)
theorem Six0.below {w w' : World} {B g : Nat} {n : Nd} {An : Option Addr} {cn : Nat} {Ak : Option Addr} {kl ck : Nat} (h : Six0 w g n An cn Ak kl ck) (hb : Below B w w') (hg : g < B) : Six0 w' g n An cn Ak kl ck := by
  obtain ⟨h1, h2, h3, h4, h5, h6⟩ := h
  have k : ∀ j, w'.cell? ⟨g, j, none⟩ = w.cell? ⟨g, j, none⟩ := fun j => hb.cell (p := ⟨g, j, none⟩) hg
  exact ⟨(k _).trans h1, (k _).trans h2, (k _).trans h3, (k _).trans h4, (k _).trans h5, (k _).trans h6⟩

end Go.Proofs.YtfcbcbpnlnkpcaaDoor
/- Blocks known whole; one block that is written, and nothing else: words. -/
namespace Go.Proofs.YtfcbcbpnlnkpcaaDoor
set_option linter.all false
open Go.RowKit
theorem gb_refl (w : World) (row : Option Nat) : w.grownBy w row := World.grownBy.refl w row
theorem gb_trans {w w1 w2 : World} {row : Option Nat} (h : w.grownBy w1 row) (k : w1.grownBy w2 row) : w.grownBy w2 row :=
  ⟨k.os.trans h.os, k.tape.trans h.tape, k.output.trans h.output, Nat.le_trans h.size k.size, fun i hi hr => (k.block i (Nat.lt_of_lt_of_le hi h.size) hr).trans (h.block i hi hr)⟩
theorem gb_below {w w' : World} (h : Below w.heap.size w w') (row : Option Nat) : w.grownBy w' row := ⟨h.os, h.tape, h.output, h.size, fun i hi _ => h.block i hi⟩
theorem gb_drew {w w' : World} {row : Option Nat} (h : w.grownBy w' row) : w.grownBy w'.drew row := ⟨h.os, h.tape, h.output, h.size, h.block⟩
theorem gb_set (w : World) (g o : Nat) (v : Value) : w.grownBy (w.setCell ⟨g, o, none⟩ v) (some g) :=
  ⟨rfl, rfl, rfl, by simp, fun i hi hr => Below.heap_setCell _ _ _ _ (fun e => hr (by rw [e]))⟩
theorem below_gb {w w0 w' : World} {g : Nat} (h : w0.grownBy w' (some g)) (hb : Below w.heap.size w w0) (hg : w.heap.size ≤ g) : Below w.heap.size w w' :=
  ⟨h.os.trans hb.os, h.tape.trans hb.tape, h.output.trans hb.output, Nat.le_trans hb.size h.size, fun i hi => (h.block i (Nat.lt_of_lt_of_le hi hb.size) (fun e => by injection e with e; omega)).trans (hb.block i hi)⟩
/-- A block known whole. -/
abbrev Blk (w : World) (g : Nat) (cs : Array Value) (T : TypeId) : Prop := w.heap[g]? = some (.cells cs T (0, 0))
theorem Blk.cell {w : World} {g : Nat} {cs : Array Value} {T : TypeId} (h : Blk w g cs T) (o : Nat) : w.cell? ⟨g, o, none⟩ = cs[o]? := cell_of_row w g o cs T (0, 0) h
theorem Blk.free {w : World} {g : Nat} {cs : Array Value} {T : TypeId} (h : Blk w g cs T) (o : Nat) : w.frozen? ⟨g, o, none⟩ = false := frozen_of_row w g o cs T h
theorem Blk.lt {w : World} {g : Nat} {cs : Array Value} {T : TypeId} (h : Blk w g cs T) : g < w.heap.size := lt_of_block h
theorem Blk.below {w w' : World} {g B : Nat} {cs : Array Value} {T : TypeId} (h : Blk w g cs T) (hb : Below B w w') (hg : g < B) : Blk w' g cs T := (hb.block g hg).trans h
theorem Blk.grown {w w' : World} {g : Nat} {row : Option Nat} {cs : Array Value} {T : TypeId} (h : Blk w g cs T) (hb : w.grownBy w' row) (hg : some g ≠ row) : Blk w' g cs T := (hb.block g h.lt hg).trans h
theorem Blk.set {w : World} {g : Nat} {cs : Array Value} {T : TypeId} (h : Blk w g cs T) (o : Nat) (v : Value) : Blk (w.setCell ⟨g, o, none⟩ v) g (cs.setIfInBounds o v) T := by
  have hlt := lt_of_block h
  have h1 : w.heap[g]? = some (.cells cs T (0, 0)) := h
  have h' : w.heap[g] = .cells cs T (0, 0) := by simpa [Array.getElem?_eq_getElem hlt] using h1
  show (w.heap.modify g _)[g]? = _
  rw [Array.getElem?_eq_getElem (by simpa using hlt), Array.getElem_modify_self, h']
  rfl
theorem Blk.set_other {w : World} {g g' : Nat} {cs : Array Value} {T : TypeId} (h : Blk w g cs T) (o : Nat) (v : Value) (hne : g ≠ g') : Blk (w.setCell ⟨g', o, none⟩ v) g cs T :=
  (Below.heap_setCell _ _ _ _ hne).trans h
theorem Blk.alloc {w : World} {g : Nat} {cs : Array Value} {T : TypeId} (h : Blk w g cs T) (o : Obj) : Blk (w.alloc o) g cs T :=
  (((Below.refl w.heap.size w).alloc (Nat.le_refl _) o).block g h.lt).trans h
theorem Blk.drew {w : World} {g : Nat} {cs : Array Value} {T : TypeId} (h : Blk w g cs T) : Blk w.drew g cs T := h
theorem Blk.new (w : World) (cs : Array Value) (T : TypeId) : Blk (w.alloc (.cells cs T)) w.heap.size cs T := heap_alloc_new w _
end Go.Proofs.YtfcbcbpnlnkpcaaDoor
/- One block of one cell that is written, and nothing else: words, for boxes of Values. -/
namespace Go.Proofs.YtfcbcbpnlnkpcaaDoor
set_option linter.all false
open Go.RowKit
theorem Six0.grown {w w' : World} {g b : Nat} {n : Nd} {An : Option Addr} {cn : Nat} {Ak : Option Addr} {kl ck : Nat} (h : Six0 w b n An cn Ak kl ck) (hg : w.grownBy w' (some g)) (hne : b ≠ g) : Six0 w' b n An cn Ak kl ck := by
  obtain ⟨h1, h2, h3, h4, h5, h6⟩ := h
  have hb : some b ≠ some g := fun e => hne (by injection e)
  exact ⟨hg.cell h1 hb, hg.cell h2 hb, hg.cell h3 hb, hg.cell h4 hb, hg.cell h5 hb, hg.cell h6 hb⟩
theorem boxw_blk (w : World) (n : Nd) (An : Option Addr) (cn : Nat) (Ak : Option Addr) (kl ck : Nat) : Blk (boxw w n An cn Ak kl ck) w.heap.size (ncells n An cn Ak kl ck).toArray 25 := heap_alloc_new w _
theorem Blk.six {w : World} {g : Nat} {n : Nd} {An : Option Addr} {cn : Nat} {Ak : Option Addr} {kl ck : Nat} {T : TypeId} (h : Blk w g (ncells n An cn Ak kl ck).toArray T) : Six0 w g n An cn Ak kl ck :=
  ⟨h.cell 0, h.cell 1, h.cell 2, h.cell 3, h.cell 4, h.cell 5⟩
end Go.Proofs.YtfcbcbpnlnkpcaaDoor
/- Values in boxes of the law's own: any number of them. -/
namespace Go.Proofs.YtfcbcbpnlnkpcaaDoor
set_option linter.all false
open Go.RowKit
/-- A box: its block, and the value in it. -/
structure BP where
  g : Nat
  n : Nd
  k : F
  An : Option Addr
  cn : Nat
  Ak : Option Addr
  ck : Nat
def BP.val (b : BP) : Value := .agg (ncells b.n b.An b.cn b.Ak b.k.len b.ck).toArray
def Bx (wr : World) (b : BP) : Prop := Blk wr b.g (ncells b.n b.An b.cn b.Ak b.k.len b.ck).toArray 25 ∧ Vo wr (· < wr.heap.size) b.n b.k b.val
theorem Bx.step {wr wr' : World} {b : BP} (h : Bx wr b) (hb : Below wr.heap.size wr wr') : Bx wr' b := ⟨h.1.below hb h.1.lt, h.2.upto hb⟩
theorem Bx.same {wr wr' : World} {b : BP} (h : Bx wr b) (hb : wr'.heap = wr.heap) : Bx wr' b :=
  ⟨by have := h.1; unfold Blk at *; rw [hb]; exact this, h.2.keep (fun _ _ => by rw [hb]) (fun i hi => by rw [hb]; exact hi)⟩
/-- What stands in a law: what was there is there; values in boxes. -/
def St (w : World) (L : List BP) (wr : World) : Prop := Below w.heap.size w wr ∧ w.heap.size ≤ wr.heap.size ∧ ∀ (i : Nat) (b : BP), L[i]? = some b → Bx wr b
theorem St.step {w wr wr' : World} {L : List BP} (h : St w L wr) (b : Below wr.heap.size wr wr') : St w L wr' :=
  ⟨h.1.trans (b.mono h.2.1), Nat.le_trans h.2.1 b.size, fun i x hx => (h.2.2 i x hx).step b⟩
theorem St.drew {w wr : World} {L : List BP} (h : St w L wr) : St w L wr.drew :=
  ⟨⟨h.1.os, h.1.tape, h.1.output, h.1.size, h.1.block⟩, h.2.1, fun i x hx => (h.2.2 i x hx).same rfl⟩
theorem St.drewN {w wr : World} {L : List BP} (h : St w L wr) (n : Nat) : St w L (wr.drewN n) :=
  ⟨below_drewN h.1 _, h.2.1, fun i x hx => (h.2.2 i x hx).same rfl⟩
theorem St.box {w wr : World} {L : List BP} (h : St w L wr) (i : Nat) {b : BP} (hb : L[i]? = some b) : Bx wr b := h.2.2 i b hb
theorem St.six {w wr : World} {L : List BP} (h : St w L wr) (i : Nat) {b : BP} (hb : L[i]? = some b) : Six0 wr b.g b.n b.An b.cn b.Ak b.k.len b.ck := (h.box i hb).1.six
theorem St.v {w wr : World} {L : List BP} (h : St w L wr) (i : Nat) {b : BP} (hb : L[i]? = some b) : Vo wr (· < wr.heap.size) b.n b.k b.val := (h.box i hb).2
theorem St.lt {w wr : World} {L : List BP} (h : St w L wr) (i : Nat) {b : BP} (hb : L[i]? = some b) : b.g < wr.heap.size := (h.box i hb).1.lt
theorem St.nil (w : World) : St w [] w := ⟨Below.refl _ _, Nat.le_refl _, fun i b h => by simp at h⟩
/-- One box more. -/
theorem St.snoc {w wr wr' : World} {L : List BP} (h : St w L wr) (hb : Below wr.heap.size wr wr') {b : BP} (hx : Bx wr' b) : St w (L ++ [b]) wr' := by
  refine ⟨(h.step hb).1, (h.step hb).2.1, fun i x hi => ?_⟩
  rcases Nat.lt_or_ge i L.length with h1 | h1
  · rw [List.getElem?_append_left h1] at hi
    exact (h.step hb).2.2 i x hi
  · rw [List.getElem?_append_right h1] at hi
    have : i - L.length = 0 := by
      rcases Nat.eq_zero_or_pos (i - L.length) with h0 | h0
      · exact h0
      · rw [List.getElem?_eq_none (by simp; omega)] at hi; cases hi
    rw [this] at hi
    injection hi with hi
    subst hi
    exact hx
/-- A parameter that the callee boxes. -/
theorem St.box_new {w wr : World} {L : List BP} (h : St w L wr) {n : Nd} {k : F} {An : Option Addr} {cn : Nat} {Ak : Option Addr} {ck : Nat} (hv : Vo w (· < w.heap.size) n k (.agg (ncells n An cn Ak k.len ck).toArray)) :
    St w (L ++ [⟨wr.heap.size, n, k, An, cn, Ak, ck⟩]) (wr.alloc (.cells (ncells n An cn Ak k.len ck).toArray 25)) := by
  have hb : Below wr.heap.size wr (wr.alloc (.cells (ncells n An cn Ak k.len ck).toArray 25)) := (Below.refl _ _).alloc (Nat.le_refl _) _
  have h2 := (h.step hb)
  refine h.snoc hb ⟨Blk.new wr _ _, hv.keep (fun b hbb => h2.1.block b hbb) (fun b hbb => Nat.lt_of_lt_of_le hbb h2.2.1)⟩
theorem Vo.kc {w : World} {S : Nat → Prop} {n : Nd} {k r : F} {An : Option Addr} {cn : Nat} {Ak : Option Addr} {ck : Nat} {cs : List Value} (h : Vo w S n k (.agg (ncells n An cn Ak k.len ck).toArray)) (hr : Kc w S r cs) :
    Kc w S (.cons n k r) (ncells n An cn Ak k.len ck ++ cs) := by
  obtain ⟨Bn, dn, Bk, dk, e, hok, h1, h2, hn, ks, hrr, hk⟩ := h
  have e' : ncells n An cn Ak k.len ck = ncells n Bn dn Bk k.len dk := by simpa using e
  exact ⟨Bn, dn, Bk, dk, cs, ks, by rw [e'], hok, h1, h2, hn, hrr, hk, hr⟩
theorem kids_new {w : World} {S : Nat → Prop} {f : F} {cs : List Value} (h : Kc w S f cs) (hS : ∀ b, S b → b < w.heap.size) (T : TypeId) :
    Kids (w.alloc (.cells cs.toArray T)) (· < (w.alloc (.cells cs.toArray T)).heap.size) (some ⟨w.heap.size, 0, none⟩) f := by
  have hbl : ∀ b, S b → (w.alloc (.cells cs.toArray T)).heap[b]? = w.heap[b]? := fun b hb => ((Below.refl w.heap.size w).alloc (Nat.le_refl _) _).block b (hS b hb)
  refine ⟨cs, ⟨Kc.len f cs h, fun _ => ⟨w.heap.size, 0, rfl, by simp, fun j u hu => by rw [World.cell?_alloc_new]; simpa using hu⟩⟩, h.keep hbl (fun b hb => by have := hS b hb; simp; omega)⟩
end Go.Proofs.YtfcbcbpnlnkpcaaDoor
/- What is wrong with a value: the plain law. No program in sight. -/
namespace Go.Proofs.YtfcbcbpnlnkpcaaDoor
set_option linter.all false
open Go.RowKit
/-- Is a node's own data as its kind wants it? -/
def okF (kind i s : Int) (bare plain te nz : Bool) : Bool :=
  if kind = 1 then bare && plain && te
  else if kind = 2 then (i / 2 == 0) && (s == 0) && plain && te
  else if kind = 3 then (s == 0) && plain && te
  else if kind = 4 then decide (1 ≤ s) && decide (s ≤ 18) && (i.tmod 10 != 0) && plain && te
  else if kind = 5 then decide (0 ≤ i) && decide (i ≤ 9007199254740992) && (s == 0) && plain && te
  else if kind = 6 then bare && plain
  else if kind = 7 then bare && plain
  else if kind = 8 then bare && nz && te
  else if kind = 9 then bare && te
  else false
/-- May a text name a field? -/
def nameOk (s : List UInt8) : Bool := decide (1 ≤ s.length) && decide (s.length ≤ 40)
/-- Are names as they should be, each above the one ahead of it? -/
def upFrom : Option (List UInt8) → List (List UInt8) → Bool
  | _, [] => true
  | none, a :: r => nameOk a && upFrom (some a) r
  | some b, a :: r => nameOk a && !(Op.bytesLess a b || a == b) && upFrom (some a) r
def prevOf (l : List (List UInt8)) : Nat → Option (List UInt8)
  | 0 => none
  | k + 1 => l[k]?
def fieldsOk (names : List (List UInt8)) (kl : Nat) : Bool := upFrom none names && decide (names.length = kl)
theorem upFrom_drop {l : List (List UInt8)} {k : Nat} {a : List UInt8} (h : l[k]? = some a) (p : Option (List UInt8)) :
    upFrom p (l.drop k) = (nameOk a && (match p with | none => true | some b => !(Op.bytesLess a b || a == b)) && upFrom (some a) (l.drop (k + 1))) := by
  obtain ⟨hk, e⟩ := List.getElem?_eq_some_iff.1 h
  rw [List.drop_eq_getElem_cons hk, e]
  cases p <;> simp [upFrom]
def okN (n : Nd) (kl : Nat) : Bool :=
  okF n.kind n.int n.scale ((n.int == 0) && (n.scale == 0)) (((n.names.length : Int) == 0) && ((kl : Int) == 0)) n.text.isEmpty ((n.names.length : Int) == 0)
/-- What is wrong with a node, but for its kids: 0, 3 or 5. -/
def nerr (n : Nd) (kl : Nat) : Nat :=
  if okN n kl = false then 3 else if 16384 < n.text.length ∨ 200 < kl then 5 else if n.kind = 9 ∧ fieldsOk n.names kl = false then 3 else 0

end Go.Proofs.YtfcbcbpnlnkpcaaDoor
/- What is wrong with a value, all below it too: the plain law. No program in sight. -/
namespace Go.Proofs.YtfcbcbpnlnkpcaaDoor
set_option linter.all false
open Go.RowKit
/-- What is wrong with a forest's nodes, at depth d: the first that is. -/
def chkF : F → Nat → Nat
  | .nil, _ => 0
  | .cons n k r, d => if (if 16 < d then 9 else if nerr n k.len ≠ 0 then nerr n k.len else chkF k (d + 1)) ≠ 0 then (if 16 < d then 9 else if nerr n k.len ≠ 0 then nerr n k.len else chkF k (d + 1)) else chkF r d
/-- What is wrong with a value at depth d. -/
def chk (n : Nd) (k : F) (d : Nat) : Nat := if 16 < d then 9 else if nerr n k.len ≠ 0 then nerr n k.len else chkF k (d + 1)
theorem chkF_drop {f : F} {i : Nat} {n : Nd} {k : F} (h : f.get i = some (n, k)) (d : Nat) : chkF (f.drop i) d = if chk n k d ≠ 0 then chk n k d else chkF (f.drop (i + 1)) d := by
  rw [F.drop_get f i h]; rfl
end Go.Proofs.YtfcbcbpnlnkpcaaDoor
/- value.isName, value.fields. -/
namespace Go.Proofs.YtfcbcbpnlnkpcaaDoor
set_option linter.all false
open Go.RowKit
theorem str_size (l : List UInt8) : (str l).size = l.length := by simp [str, ByteArray.size]
theorem ret_bool {a b : Bool} (h : a = b) : Ending.returned (.bool a) = .returned (.bool b) := by rw [h]
set_option maxHeartbeats 400000 in
theorem isName_any (s : List UInt8) (w : World) (hs : s.length ≤ 140737488351232) : Calls Tryd.prog 117 #[.string (str s)] w (RetS (.bool (nameOk s)) w) := by
  have h1 := str_size s
  by_cases h0 : 1 ≤ s.length
  · have HN : Hid (nameOk s = decide (s.length ≤ 40)) := by show _ = _; simp [nameOk, h0]
    go_enter Tryd.func117, Tryd.ntmps117
    go_wp2
    go_ret
    exact ⟨ret_bool (by rw [HN.out]; simp only [decide_eq_decide]; omega), rfl⟩
  · have HN : Hid (nameOk s = false) := by show _ = _; simp [nameOk, h0]
    have h2 : (str s).size = 0 := by omega
    go_enter Tryd.func117, Tryd.ntmps117
    go_wp2
    go_ret
    exact ⟨ret_bool (by rw [HN.out]), rfl⟩
theorem names_at {w : World} {B n k : Nat} {A : Option Addr} {l : List (List UInt8)} (h : Rd w B 1 A n (l.map sv)) (hk : k < n) :
    ∃ g off s, A = some ⟨g, off, none⟩ ∧ g < B ∧ l[k]? = some s ∧ w.cell? ⟨g, off + k, none⟩ = some (.string (str s)) := by
  obtain ⟨g, off, u, hA, hg, hu, hc⟩ := Rd.at_ h hk
  rw [List.getElem?_map] at hu
  cases hb : l[k]? with
  | none => rw [hb] at hu; cases hu
  | some b => rw [hb] at hu; injection hu with hu; subst hu; exact ⟨g, off, b, hA, hg, rfl, hc⟩
set_option maxRecDepth 100000 in
set_option maxHeartbeats 1600000 in
theorem fields_any (n : Nd) (kl : Nat) (An Ak : Option Addr) (cn ck : Nat) (w : World) (hn : okl n.names.length cn) (hkl : okl kl ck)
    (hr : Rd w w.heap.size 1 An n.names.length (n.names.map sv)) (hl : ∀ s ∈ n.names, s.length ≤ 140737488351232) :
    Calls Tryd.prog 107 #[.agg (ncells n An cn Ak kl ck).toArray] w (Ret (.bool (fieldsOk n.names kl)) w) := by
  unfold ncells
  obtain ⟨hn1, hn2⟩ := hn
  obtain ⟨hk1, hk2⟩ := hkl
  have hlen := hr.1
  rw [List.length_map] at hlen
  have HLL := Lib.hid hl
  clear hl
  generalize hN : n.names = l at *
  generalize hnl : l.length = nl at *
  have HNL := Lib.hid hnl
  clear hnl hN hlen
  generalize hB : w.alloc (.cells #[.int .i64 n.kind, .int .i64 n.int, .int .i64 n.scale, .string (str n.text), .slice An nl cn, .slice Ak kl ck] 25) = W
  have hr2 : Rd W w.heap.size 1 An nl (l.map sv) := by rw [← hB]; exact hr.alloc (Nat.le_refl _) _
  have c4 : W.cell? ⟨w.heap.size, 4, none⟩ = some (.slice An nl cn) := by rw [← hB, World.cell?_alloc_new]; rfl
  have c5 : W.cell? ⟨w.heap.size, 5, none⟩ = some (.slice Ak kl ck) := by rw [← hB, World.cell?_alloc_new]; rfl
  have hbel : Below w.heap.size w W := by rw [← hB]; exact (Below.refl _ _).alloc (Nat.le_refl _) _
  go_enter Tryd.func107, Tryd.ntmps107
  go_wp2_with fail
  clear hB
  go_loop [8, 3, 4] (fun s8 _ _ => ∃ k : Nat, k ≤ nl ∧ s8 = .int .i64 k ∧ Hid (upFrom none l = upFrom (prevOf l k) (l.drop k))) (fun s8 _ _ => nl - (intOf s8).toNat)
  case atStart => exact ⟨0, Nat.zero_le _, rfl, rfl⟩
  case round =>
    obtain ⟨k, hk, rfl, HU⟩ := hrel
    by_cases hlt : k < nl
    · obtain ⟨g, off, s, rfl, hg, hs, hc⟩ := names_at hr2 hlt
      have hsl : s.length ≤ 140737488351232 := HLL.out s (List.mem_of_getElem? hs)
      have hu := HU.out.trans (upFrom_drop hs _)
      have HS : Hid (prevOf l (k + 1) = some s) := hs
      rcases hno : nameOk s with _ | _
      · have HR : Hid (upFrom none l = false) := by show _ = _; rw [hu, hno]; simp
        clear hu HU hs
        go_wp2_with (go_at_call 117; refine (isName_any s _ hsl).mono ?_; rintro e w' ⟨rfl, rfl⟩)
        go_ret
        exact ⟨ret_bool (by unfold fieldsOk; rw [HR.out]; rfl), hbel⟩
      · by_cases h0 : k = 0
        · subst h0
          have hc : W.cell? ⟨g, off, none⟩ = some (.string (str s)) := hc
          have HR : Hid (upFrom none l = upFrom (prevOf l 1) (l.drop 1)) := by
            show _ = _; rw [hu, hno, HS.out]; simp [prevOf]
          clear hu HU hs
          go_wp2_with (go_at_call 117; refine (isName_any s _ hsl).mono ?_; rintro e w' ⟨rfl, rfl⟩)
          go_round
          case rel => exact ⟨1, by omega, rfl, HR.out⟩
          case measure => simp [intOf]; omega
        · obtain ⟨j, rfl⟩ : ∃ j, k = j + 1 := ⟨k - 1, by omega⟩
          obtain ⟨g', off', p, hA, _, hp, hc'⟩ := names_at hr2 (k := j) (by omega)
          injection hA with hA
          injection hA with hA1 hA2
          subst hA1; subst hA2
          have hprev : prevOf l (j + 1) = some p := hp
          rw [hprev, hno] at hu
          simp only [Bool.true_and] at hu
          have HP := Lib.hid hp
          rcases h1 : Op.bytesLess s p with _ | _
          · rcases h2 : (s == p) with _ | _
            · have HR : Hid (upFrom none l = upFrom (prevOf l (j + 1 + 1)) (l.drop (j + 1 + 1))) := by
                show _ = _; rw [hu, h1, h2, HS.out]; simp
              have q1 : Op.bytesLess (str s).toList (str p).toList = false := by rw [str_toList, str_toList]; exact h1
              have q2 : ((str s).toList == (str p).toList) = false := by rw [str_toList, str_toList]; exact h2
              clear hu HU hs hp hprev h1 h2
              go_wp2_with (go_at_call 117; refine (isName_any s _ hsl).mono ?_; rintro e w' ⟨rfl, rfl⟩)
              go_round
              case rel => exact ⟨j + 1 + 1, by omega, by go_num, HR.out⟩
              case measure => simp [intOf]; omega
            · have HR : Hid (upFrom none l = false) := by show _ = _; rw [hu, h1, h2]; simp
              have q1 : Op.bytesLess (str s).toList (str p).toList = false := by rw [str_toList, str_toList]; exact h1
              have q2 : ((str s).toList == (str p).toList) = true := by rw [str_toList, str_toList]; exact h2
              clear hu HU hs hp hprev h1 h2
              go_wp2_with (go_at_call 117; refine (isName_any s _ hsl).mono ?_; rintro e w' ⟨rfl, rfl⟩)
              go_ret
              exact ⟨ret_bool (by unfold fieldsOk; rw [HR.out]; rfl), hbel⟩
          · have HR : Hid (upFrom none l = false) := by show _ = _; rw [hu, h1]; simp
            have q1 : Op.bytesLess (str s).toList (str p).toList = true := by rw [str_toList, str_toList]; exact h1
            clear hu HU hs hp hprev h1
            go_wp2_with (go_at_call 117; refine (isName_any s _ hsl).mono ?_; rintro e w' ⟨rfl, rfl⟩)
            go_ret
            exact ⟨ret_bool (by unfold fieldsOk; rw [HR.out]; rfl), hbel⟩
    · have HR : Hid (upFrom none l = true) := by
        show _ = _
        rw [HU.out, List.drop_of_length_le (by rw [HNL.out]; omega)]
        cases prevOf l k <;> rfl
      clear HU
      go_wp2_with fail
      go_ret
      refine ⟨ret_bool ?_, hbel⟩
      unfold fieldsOk
      rw [HR.out, HNL.out, Bool.true_and, Bool.eq_iff_iff]
      simp
      try omega
end Go.Proofs.YtfcbcbpnlnkpcaaDoor
/- Numbers with a scale: the least form. The plain law; no program in sight. -/
namespace Go.Proofs.YtfcbcbpnlnkpcaaDoor
set_option linter.all false
open Go.RowKit
/-- As many noughts struck as there are, no more than the scale. -/
def red : Nat → Int → Int × Nat
  | 0, M => (M, 0)
  | s + 1, M => if M % 10 = 0 then red s (M / 10) else (M, s + 1)
theorem red_eq : ∀ (s : Nat) (M : Int), (red s M).2 ≤ s ∧ M = (red s M).1 * 10 ^ (s - (red s M).2)
  | 0, M => by simp [red]
  | s + 1, M => by
    unfold red
    split
    · have ⟨h1, h2⟩ := red_eq s (M / 10)
      refine ⟨by omega, ?_⟩
      have : s + 1 - (red s (M / 10)).2 = s - (red s (M / 10)).2 + 1 := by omega
      rw [this, Int.pow_succ, ← Int.mul_assoc, ← h2]
      omega
    · simp
theorem red_mod : ∀ (s : Nat) (M : Int), (red s M).2 = 0 ∨ (red s M).1 % 10 ≠ 0
  | 0, M => by simp [red]
  | s + 1, M => by
    unfold red
    split
    · exact red_mod s (M / 10)
    · right; assumption
theorem red_ten (s : Nat) (M : Int) : red (s + 1) (M * 10) = red s M := by
  conv => lhs; unfold red
  rw [if_pos (by omega), Int.mul_ediv_cancel _ (by decide)]
theorem red_pow (s k : Nat) (M : Int) : red (s + k) (M * 10 ^ k) = red s M := by
  induction k with
  | zero => simp
  | succ k ih =>
    rw [Int.pow_succ, ← Int.mul_assoc, ← Nat.add_assoc, red_ten, ih]
theorem red_self {s : Nat} {M : Int} (h : s = 0 ∨ M % 10 ≠ 0) : red s M = (M, s) := by
  cases s with
  | zero => rfl
  | succ s =>
    unfold red
    rw [if_neg (by simpa using h)]
theorem red_zero : ∀ s : Nat, red s 0 = (0, 0)
  | 0 => rfl
  | s + 1 => by unfold red; exact red_zero s
/-- A number's node. -/
def nodeOf (m : Int) (t : Nat) : Nd := if t = 0 then ⟨3, m, 0, [], []⟩ else ⟨4, m, t, [], []⟩
def fits (m : Int) (t : Nat) : Bool := decide (t ≤ 18) && decide (-9223372036854775808 ≤ m) && decide (m ≤ 9223372036854775807)
/-- The least form of M divided by ten s times. -/
def leastP (M : Int) (s : Nat) : Option Nd := if fits (red s M).1 (red s M).2 then some (nodeOf (red s M).1 (red s M).2) else none
theorem leastP_red {s s' : Nat} {M M' : Int} (h : red s M = red s' M') : leastP M s = leastP M' s' := by unfold leastP; rw [h]
theorem leastP_pow (M : Int) (s k : Nat) : leastP (M * 10 ^ k) (s + k) = leastP M s := leastP_red (red_pow s k M)
/-- A number, as it should be. -/
def isNum (n : Nd) : Prop := n.names = [] ∧ n.text = [] ∧ I64 n.int ∧ (n.kind = 3 ∧ n.scale = 0 ∨ n.kind = 4 ∧ 1 ≤ n.scale ∧ n.scale ≤ 18 ∧ n.int % 10 ≠ 0)
theorem leastP_self {n : Nd} (h : isNum n) : leastP n.int n.scale.toNat = some n := by
  obtain ⟨kind, int, scale, text, names⟩ := n
  obtain ⟨h1, h2, h3, h4⟩ := h
  simp only at h1 h2 h3 h4
  subst h1 h2
  unfold leastP
  rcases h4 with ⟨rfl, rfl⟩ | ⟨rfl, a, b, c⟩
  · simp only [red, Int.toNat_zero]
    rw [if_pos (by unfold I64 at h3; simp [fits, h3])]
    simp [nodeOf]
  · obtain ⟨s, rfl⟩ : ∃ s : Nat, scale = s := ⟨scale.toNat, by omega⟩
    rw [Int.toNat_natCast, red_self (.inr c)]
    rw [if_pos (by unfold I64 at h3; simp [fits, h3]; omega)]
    simp only [nodeOf]
    rw [if_neg (by omega)]
/-- The value of a number, in units of ten to the -18th. -/
def vN (n : Nd) : Int := n.int * 10 ^ (18 - n.scale.toNat)
theorem isNum.scale_le {n : Nd} (h : isNum n) : 0 ≤ n.scale ∧ n.scale ≤ 18 ∧ n.scale.toNat ≤ 18 := by
  rcases h.2.2.2 with ⟨_, e⟩ | ⟨_, a, b, _⟩
  · rw [e]; decide
  · omega
theorem leastP_up {M : Int} {s k : Nat} (h : s ≤ k) : leastP M s = leastP (M * 10 ^ (k - s)) k := by
  rw [show leastP (M * 10 ^ (k - s)) k = leastP (M * 10 ^ (k - s)) (s + (k - s)) from by rw [Nat.add_sub_of_le h], leastP_pow]
theorem leastP_vN {n : Nd} (h : isNum n) : leastP (vN n) 18 = some n := by
  rw [← leastP_self h, leastP_up (h.scale_le).2.2]
  rfl
theorem leastP_some {M : Int} {s : Nat} {n : Nd} (hs : s ≤ 36) (h : leastP M s = some n) : isNum n ∧ n.scale.toNat ≤ s ∧ M = n.int * 10 ^ (s - n.scale.toNat) := by
  unfold leastP at h
  split at h
  · rename_i hf
    have ⟨h1, h2⟩ := red_eq s M
    have h3 := red_mod s M
    generalize red s M = p at *
    obtain ⟨m, t⟩ := p
    simp only [fits, Bool.and_eq_true, decide_eq_true_eq] at hf
    simp only [Option.some.injEq] at h
    simp only at h1 h2 h3
    subst h
    unfold nodeOf
    split
    · rename_i ht
      subst ht
      exact ⟨⟨rfl, rfl, ⟨hf.1.2, hf.2⟩, .inl ⟨rfl, rfl⟩⟩, by simp, by simpa using h2⟩
    · refine ⟨⟨rfl, rfl, ⟨hf.1.2, hf.2⟩, .inr ⟨rfl, ?_, ?_, ?_⟩⟩, ?_, ?_⟩
      · simp only; omega
      · simp only; omega
      · rcases h3 with h3 | h3
        · omega
        · exact h3
      · simpa using h1
      · simpa using h2
  · cases h
theorem leastP_val {M : Int} {n : Nd} (h : leastP M 18 = some n) : isNum n ∧ M = vN n := ⟨(leastP_some (by decide) h).1, (leastP_some (by decide) h).2.2⟩
theorem leastP_val36 {M : Int} {n : Nd} (h : leastP M 36 = some n) : isNum n ∧ M = vN n * 10 ^ 18 := by
  have ⟨h1, h2, h3⟩ := leastP_some (by decide) h
  refine ⟨h1, ?_⟩
  rw [h3, vN, Int.mul_assoc, ← Int.pow_add]
  have := h1.scale_le
  congr 2
  omega
/-- Two numbers' greater scale does. -/
theorem leastP_two {a b : Nd} (ha : isNum a) (hb : isNum b) (c d : Int) (s : Nat) (h1 : a.scale.toNat ≤ s) (h2 : b.scale.toNat ≤ s) (hs : s ≤ 18) :
    leastP (c * (a.int * 10 ^ (s - a.scale.toNat)) + d * (b.int * 10 ^ (s - b.scale.toNat))) s = leastP (c * vN a + d * vN b) 18 := by
  rw [leastP_up hs, Int.add_mul]
  have e : ∀ (x y : Int) (t : Nat), t ≤ s → x * (y * 10 ^ (s - t)) * 10 ^ (18 - s) = x * (y * 10 ^ (18 - t)) := fun x y t ht => by
    rw [Int.mul_assoc, Int.mul_assoc, ← Int.pow_add]
    congr 3
    omega
  rw [e _ _ _ h1, e _ _ _ h2]
  rfl
theorem leastP_mul {a b : Nd} (ha : isNum a) (hb : isNum b) : leastP (a.int * b.int) (a.scale.toNat + b.scale.toNat) = leastP (vN a * vN b) 36 := by
  have h1 := ha.scale_le; have h2 := hb.scale_le
  rw [leastP_up (k := 36) (by omega)]
  congr 1
  unfold vN
  rw [Int.mul_assoc, Int.mul_assoc]
  congr 1
  rw [← Int.mul_assoc, Int.mul_comm (10 ^ (18 - a.scale.toNat)) b.int, Int.mul_assoc, ← Int.pow_add]
  congr 2
  omega
end Go.Proofs.YtfcbcbpnlnkpcaaDoor
/- Small words: strings' lengths; what is returned. -/
namespace Go.Proofs.YtfcbcbpnlnkpcaaDoor
set_option linter.all false
open Go.RowKit
theorem str_sz (l : List UInt8) : (str l).size = l.length := by simp [str, ByteArray.size]
theorem ret_bo {a b : Bool} (h : a = b) : Ending.returned (.bool a) = .returned (.bool b) := by rw [h]
end Go.Proofs.YtfcbcbpnlnkpcaaDoor
/- A number as text. The plain law; no program in sight. -/
namespace Go.Proofs.YtfcbcbpnlnkpcaaDoor
set_option linter.all false
open Go.RowKit
def padTo (k : Nat) (s : List UInt8) : List UInt8 := List.replicate (k - s.length) 48 ++ s
theorem padTo_step {k : Nat} {s : List UInt8} (h : s.length < k) : padTo k (48 :: s) = padTo k s := by
  unfold padTo
  rw [List.length_cons, show k - s.length = (k - (s.length + 1)) + 1 from by omega, List.replicate_succ', List.append_assoc]
  rfl
theorem padTo_stop {k : Nat} {s : List UInt8} (h : ¬ s.length < k) : padTo k s = s := by
  unfold padTo
  rw [show k - s.length = 0 from by omega]
  rfl
theorem padTo_length (k : Nat) (s : List UInt8) : k ≤ (padTo k s).length := by
  unfold padTo
  simp
  omega
def pointAt (t : Nat) (s : List UInt8) : List UInt8 := s.take (s.length - t) ++ 46 :: s.drop (s.length - t)
def bodyN (u t : Nat) : List UInt8 := if t = 0 then Lib.decDigits u else pointAt t (padTo (t + 1) (Lib.decDigits u))
/-- A number as text. -/
def textN (n : Nd) : List UInt8 := if n.int < 0 then 45 :: bodyN n.int.natAbs n.scale.toNat else bodyN n.int.natAbs n.scale.toNat
theorem dec_pos (u : Nat) : 1 ≤ (Lib.decDigits u).length := by rw [Lib.decDigits_length]; exact Lib.nDigits_pos u
theorem dg_ne (u j : Nat) : Lib.dg u j ≠ 45 := by
  unfold Lib.dg
  have : u / 10 ^ j % 10 < 10 := Nat.mod_lt _ (by decide)
  generalize u / 10 ^ j % 10 = d at *
  intro e
  have := congrArg UInt8.toNat e
  simp at this
  omega
theorem dec_minus (u : Nat) : ∀ b ∈ Lib.decDigits u, b ≠ 45 := by
  rw [Lib.decDigits_eq]
  intro b hb
  obtain ⟨t, _, rfl⟩ := List.mem_map.1 hb
  exact dg_ne _ _
theorem itoa_cut (n : Int) : Lib.trimPrefix (Lib.itoa n) [45] = Lib.decDigits n.natAbs ∧ Lib.hasPrefix (Lib.itoa n) [45] = decide (n < 0) := by
  unfold Lib.itoa
  by_cases h : n < 0
  · rw [if_pos h]
    simp [Lib.trimPrefix, Lib.hasPrefix, h]
  · rw [if_neg h, show n.toNat = n.natAbs from by omega]
    have e : Lib.hasPrefix (Lib.decDigits n.natAbs) [45] = false := by
      have h1 := dec_minus n.natAbs
      generalize Lib.decDigits n.natAbs = l at *
      cases l with
      | nil => rfl
      | cons a l =>
        have := h1 a (by simp)
        have h2 : ((45 : UInt8) == a) = false := by simpa using Ne.symm this
        show ((45 : UInt8) == a && List.isPrefixOf [] l) = false
        rw [h2]
        rfl
    simp [Lib.trimPrefix, e, h]
theorem bodyN_eq (u t : Nat) : bodyN u t = if t = 0 then padTo (t + 1) (Lib.decDigits u) else pointAt t (padTo (t + 1) (Lib.decDigits u)) := by
  unfold bodyN
  split
  · rename_i h
    subst h
    rw [padTo_stop (by have := dec_pos u; omega)]
  · rfl
theorem str_cons (b : UInt8) (l : List UInt8) : (⟨#[b]⟩ : ByteArray) ++ str l = str (b :: l) := by
  apply ByteArray.ext
  simp [str]
theorem str_app (a l : List UInt8) : str a ++ str l = str (a ++ l) := by
  apply ByteArray.ext
  simp [str]
theorem str_point (l : List UInt8) (T : Nat) : (str l).extract 0 (l.length - T) ++ (⟨#[46]⟩ : ByteArray) ++ (str l).extract (l.length - T) l.length = str (pointAt T l) := by
  apply ByteArray.ext
  simp [str, pointAt, ByteArray.data_extract, List.take_of_length_le]
theorem pointAt_length (l : List UInt8) (T : Nat) : (pointAt T l).length = l.length + 1 := by
  unfold pointAt
  simp
  omega
end Go.Proofs.YtfcbcbpnlnkpcaaDoor
/- How many nodes, how deep: the plain law. -/
namespace Go.Proofs.YtfcbcbpnlnkpcaaDoor
set_option linter.all false
open Go.RowKit
/-- How many nodes a forest has; how deep it is. -/
def szF : F → Nat
  | .nil => 0
  | .cons _ k r => szF k + 1 + szF r
def dpF : F → Nat
  | .nil => 0
  | .cons _ k r => max (dpF k + 1) (dpF r)
theorem szF_drop {f : F} {i : Nat} {n : Nd} {k : F} (h : f.get i = some (n, k)) : szF (f.drop i) = szF k + 1 + szF (f.drop (i + 1)) := by rw [F.drop_get f i h]; rfl
theorem dpF_drop {f : F} {i : Nat} {n : Nd} {k : F} (h : f.get i = some (n, k)) : dpF (f.drop i) = max (dpF k + 1) (dpF (f.drop (i + 1))) := by rw [F.drop_get f i h]; rfl
theorem F.drop0 (f : F) : f.drop 0 = f := by cases f <;> rfl
theorem szF_get : ∀ {f : F} {i : Nat} {n : Nd} {k : F}, f.get i = some (n, k) → szF k + 1 ≤ szF f
  | .nil, i, n, k, h => by simp [F.get] at h
  | .cons n' k' r, 0, n, k, h => by
    simp only [F.get, Option.some.injEq, Prod.mk.injEq] at h
    obtain ⟨rfl, rfl⟩ := h
    simp only [szF]; omega
  | .cons n' k' r, i + 1, n, k, h => by
    have := szF_get (f := r) (i := i) h
    simp only [szF]; omega
theorem dpF_le : ∀ f : F, dpF f ≤ szF f
  | .nil => by simp [dpF]
  | .cons _ k r => by
    have := dpF_le k
    have := dpF_le r
    simp only [dpF, szF]; omega
end Go.Proofs.YtfcbcbpnlnkpcaaDoor
