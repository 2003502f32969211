/- ref disk: one file's cells turned, twice; append of bytes at an operation. -/
import Derived.Test.YtcoimlenejffpaaRdiskB
namespace Go.Proofs.Ytcoimlenejffpaa
set_option linter.all false
open Go.RowKit
theorem wpB_append_op {o : Oper} {a : Act} {K : Act → World → Prop} {Q : Exit → Act → World → Prop} {w : World} (s x : Operand)
    (ho : o.op = .call { callee := .builtin .append, args := #[s, x], argTypes := #[23, 23] })
    (base : Nat) (v : Value) (n : Nat) (l : List UInt8) (hs : a.eval s = v) (hown : w.ownsRow base 5 1 v n (l.map bv))
    (B : Nat) (A : Option Addr) (m c : Nat) (l' : List UInt8) (hx : a.eval x = .slice A m c) (hr : Bs w B A m l')
    (N : Nat) (L : List UInt8) (hN : N = n + m) (hL : L = l ++ l') (hsm : N ≤ 140737488355328) (hbase : base ≤ w.heap.size)
    (h : ∀ A' c' w', w'.ownsRow base 5 1 (.slice A' N c') N (L.map bv) → Below base w w' → N ≤ c' → c' ≤ 9223372036854775807 → K (a.put o.dst (.slice A' N c')) w') : o.wp Try.prog a w K Q := by
  subst hN
  subst hL
  obtain ⟨i0, hi, hz0, hz1, hz2⟩ := info_parts infoU8
  refine wp_append_rd w s x _ ho base 5 i0 _ 1 1 Try.underlying23 hi hz0 hz1 hz2 rfl (by omega) v n _ hs hown B A m c _ hx hr (bv_one _) (by simp only [maxLen]; omega) (by omega) hbase ?_
  rw [List.map_append] at h
  intro A' c' w' h1 h2
  exact h A' c' w' h1 h2 (own_cap h1).1 (own_cap h1).2
/-- A cell of the row of files. -/
theorem row_store {w : World} {base g i j n : Nat} {v : Value} {L : List RFE} {f f' : RFE} {u : Value} (hrow : w.ownsRow base 78 3 v n (L.flatMap rcells)) (hg : v.ownBlock = some g) (hf : L[i]? = some f) (hj : j < 3) (hu : (rcells f).set j u = rcells f') :
    (w.setCell ⟨g, i * 3 + j, none⟩ u).ownsRow base 78 3 v n ((L.set i f').flatMap rcells) := by
  rcases hrow.2 with ⟨h1, _⟩ | ⟨g', cap, cur, h1, _⟩
  · rw [h1] at hg; simp [Value.ownBlock] at hg
  · have hgg : g' = g := by rw [h1] at hg; simpa [Value.ownBlock] using hg
    subst hgg
    rw [h1] at hrow ⊢
    have := (World.ownsRow.stored hrow (i * 3 + j) u).1
    rw [rc_set hf hj hu] at this
    exact this
/-- One file has turned, in its place. -/
theorem RW.set_row {w W : World} {base r g i : Nat} {X : RDS} {f f' : RFE} (h : RW w base r X) (hg : X.v.ownBlock = some g) (hf : X.L[i]? = some f) (ht : Turn [g] w W)
    (hst : W.ownsRow base 78 3 X.v X.L.length ((X.L.set i f').flatMap rcells)) (hfw : RFW W f') (hb : ∀ k, f'.v.ownBlock = some k → base ≤ k) (hus : X.used + f'.b.length ≤ X.room + f.b.length) :
    RW W base r { X with L := X.L.set i f' } := by
  have hlen : (X.L.set i f').length = X.L.length := List.length_set
  have hv : ({ X with L := X.L.set i f' } : RDS).v = X.v := by unfold RDS.v; simp only [hlen]
  have hk : ∀ k, k < w.heap.size → k ≠ g → W.heap[k]? = w.heap[k]? := fun k hk hne => ht.block k hk (by simpa using hne)
  refine ⟨?_, ?_, ?_, ?_, ?_, ?_, h.left⟩
  · have : rdcells { X with L := X.L.set i f' } = rdcells X := by unfold rdcells; rw [hv]
    rw [this]
    exact (hk r (h.ge r (rbl_r r X)).2 (fun e => h.ne_rv hg e.symm)).trans h.cell
  · rw [hv]
    simp only [hlen]
    exact hst
  · intro x hx
    rcases List.mem_or_eq_of_mem_set hx with h1 | h1
    · exact ⟨(h.file x h1).1.keep fun k hk' => hk k ((h.file x h1).1.lt hk') (h.ne_vf h1 hk' hg), (h.file x h1).2⟩
    · subst h1
      exact hfw
  · intro k hk'
    simp only [RDS.bl, List.mem_cons, List.mem_append, List.mem_flatMap] at hk'
    rw [hv] at hk'
    rcases hk' with h1 | h1 | ⟨x, h1, h2⟩
    · subst h1; exact ⟨(h.ge k (rbl_r k X)).1, Nat.lt_of_lt_of_le (h.ge k (rbl_r k X)).2 ht.size⟩
    · have := h.ge k (rbl_v (by simpa using h1)); exact ⟨this.1, Nat.lt_of_lt_of_le this.2 ht.size⟩
    · rcases List.mem_or_eq_of_mem_set h1 with h3 | h3
      · have := h.ge k (rbl_f h3 (by simpa [RFE.bl] using h2)); exact ⟨this.1, Nat.lt_of_lt_of_le this.2 ht.size⟩
      · subst h3
        have h4 : x.v.ownBlock = some k := by simpa [RFE.bl] using h2
        exact ⟨hb k h4, hfw.1.lt h4⟩
  · have h1 := h.room
    have h2 : (X.L.set i f').map (fun f => f.b.length) = (X.L.map fun f => f.b.length).set i f'.b.length := by rw [List.map_set]
    have h3 : ∀ (l : List Nat) (i a b : Nat), l[i]? = some a → (l.set i b).sum + a = l.sum + b := by
      intro l
      induction l with
      | nil => intro i a b h; simp at h
      | cons x r ih =>
        intro i a b h
        rcases i with _ | i
        · simp at h; subst h; simp; omega
        · simp at h; simp; have := ih i a b h; omega
    have h4 := h3 (X.L.map fun f => f.b.length) i f.b.length f'.b.length (by rw [List.getElem?_map, hf]; rfl)
    have h5 : ({ X with L := X.L.set i f' } : RDS).used = ((X.L.map fun f => f.b.length).set i f'.b.length).sum := by unfold RDS.used; rw [h2]
    have h6 : X.used = (X.L.map fun f => f.b.length).sum := rfl
    rw [h5]
    show _ ≤ X.room ∧ X.room ≤ 1073741824
    omega
  · show (X.L.set i f').length ≤ 4096
    rw [hlen]; exact h.few
/-- Append of files, in a walk. -/
theorem wpListF_append {ops : Array Oper} {rest : List Oper} {o : Oper} {a : Act} {Q : Exit → Act → World → Prop} {w : World} (hgd : o.guard = none) (s x : Operand)
    (ho : o.op = .call { callee := .builtin .append, args := #[s, x], argTypes := #[74, 74] })
    (base : Nat) (v : Value) (n : Nat) (l : List RFE) (hs : a.eval s = v) (hown : w.ownsRow base 78 3 v n (l.flatMap rcells))
    (B : Nat) (A : Option Addr) (m c : Nat) (l' : List RFE) (hx : a.eval x = .slice A m c) (hr : Rd w B 3 A m (l'.flatMap rcells))
    (N : Nat) (L : List RFE) (hN : N = n + m) (hL : L = l ++ l') (hsm : N ≤ 1000000) (hbase : base ≤ w.heap.size)
    (h : ∀ A' c' w', w'.ownsRow base 78 3 (.slice A' N c') N (L.flatMap rcells) → Below base w w' → N ≤ c' → c' ≤ 9223372036854775807 → wpList Try.prog ops Q rest (a.put o.dst (.slice A' N c')) w') : wpList Try.prog ops Q (o :: rest) a w := by
  subst hN
  subst hL
  obtain ⟨i0, hi, hz0, hz1, hz2⟩ := info_parts infoF
  refine wpList_append_rd w hgd s x _ ho base 78 i0 _ 3 48 Try.underlying74 hi hz0 hz1 hz2 rfl (by omega) v n _ hs hown B A m c _ hx hr (rc_one l') (by simp only [maxLen]; omega) (by omega) hbase ?_
  rw [List.flatMap_append] at h
  intro A' c' w' h1 h2
  exact h A' c' w' h1 h2 (own_cap h1).1 (own_cap h1).2
theorem Rd.lit_file (w : World) (f : RFE) (T : TypeId) : Rd (w.alloc (.cells (rcells f).toArray T)) (w.heap.size + 1) 3 (some ⟨w.heap.size, 0, none⟩) 1 ([f].flatMap rcells) :=
  ⟨by simp [rcells], fun _ => ⟨w.heap.size, 0, rfl, by omega, fun j u hu => by rw [World.cell?_alloc_new]; simpa using hu⟩⟩
theorem RW.rd {w : World} {base r : Nat} {X : RDS} (h : RW w base r X) : Rd w w.heap.size 3 X.A X.L.length (X.L.flatMap rcells) := Rd.of_own h.row
theorem RW.rd_take {w : World} {base r i : Nat} {X : RDS} (h : RW w base r X) (hi : i ≤ X.L.length) : Rd w w.heap.size 3 X.A i ((X.L.take i).flatMap rcells) := by
  have := h.rd.take hi
  rwa [rc_take] at this
theorem RW.rd_cut {w : World} {base r i : Nat} {X : RDS} (h : RW w base r X) (hi : i ≤ X.L.length) : Rd w w.heap.size 3 (if X.c = i then X.A else X.A.map (·.add (i * 3))) (X.L.length - i) ((X.L.drop i).flatMap rcells) := by
  have := Rd.cut h.rd hi h.cap.1
  rwa [rc_drop] at this
/-- The list has turned: its row is another one. -/
theorem RW.relist {w W : World} {base r c' : Nat} {X : RDS} {A' : Option Addr} {L' : List RFE} (h : RW w base r X) (hrow : W.ownsRow base 78 3 (.slice A' L'.length c') L'.length (L'.flatMap rcells))
    (hnew : ∀ k, (Value.slice A' L'.length c').ownBlock = some k → w.heap.size ≤ k)
    (hcell : Blk W r (rdcells { X with A := A', c := c', L := L' }) 76) (ht : Turn [r] w W)
    (hL : ∀ f ∈ L', (∃ f0 ∈ X.L, f.A = f0.A ∧ f.c = f0.c ∧ f.b = f0.b ∧ f.l = f0.l ∧ f.s.length ≤ 64) ∨ (f.A = none ∧ f.c = 0 ∧ f.b = [] ∧ f.l = 0 ∧ f.s.length ≤ 64)) (hus : (L'.map fun f => f.b.length).sum ≤ X.used) (hfew : L'.length ≤ 4096) :
    RW W base r { X with A := A', c := c', L := L' } ∧ ∀ k ∈ ({ X with A := A', c := c', L := L' } : RDS).bl r, k ∈ X.bl r ∨ w.heap.size ≤ k := by
  have hk : ∀ k, k < w.heap.size → k ≠ r → W.heap[k]? = w.heap[k]? := fun k hk hne => ht.block k hk (by simpa using hne)
  have hbl : ∀ k ∈ ({ X with A := A', c := c', L := L' } : RDS).bl r, k ∈ X.bl r ∨ (w.heap.size ≤ k ∧ k < W.heap.size) := by
    intro k hk'
    simp only [RDS.bl, List.mem_cons, List.mem_append, List.mem_flatMap] at hk'
    rcases hk' with h1 | h1 | ⟨x, h1, h2⟩
    · subst h1; exact .inl (rbl_r k X)
    · have h3 : (Value.slice A' L'.length c').ownBlock = some k := by simpa [RDS.v] using h1
      exact .inr ⟨hnew k h3, (hrow.lt k h3).2⟩
    · have h4 : x.v.ownBlock = some k := by simpa [RFE.bl] using h2
      rcases hL x h1 with ⟨f0, h5, e1, e2, e3, e4, _⟩ | ⟨e1, _⟩
      · have : x.v = f0.v := by unfold RFE.v; rw [e1, e2, e3]
        rw [this] at h4
        exact .inl (rbl_f h5 h4)
      · unfold RFE.v at h4; rw [e1] at h4; simp [Value.ownBlock] at h4
  refine ⟨⟨hcell, hrow, ?_, ?_, ?_, hfew, h.left⟩, fun k hk' => (hbl k hk').imp id (·.1)⟩
  · intro x hx
    rcases hL x hx with ⟨f0, h5, e1, e2, e3, e4, e5⟩ | ⟨e1, e2, e3, e4, e5⟩
    · have hv : x.v = f0.v := by unfold RFE.v; rw [e1, e2, e3]
      obtain ⟨r1, r2, r3⟩ := h.file f0 h5
      refine ⟨?_, by rw [e3, e4]; exact r2, e5⟩
      rw [hv, e3]
      exact r1.keep fun k hk' => hk k (r1.lt hk') (h.ne_rf h5 hk')
    · refine ⟨?_, by rw [e4]; omega, e5⟩
      unfold RFE.v
      rw [e1, e2, e3]
      exact Row.nil _
  · intro k hk'
    rcases hbl k hk' with h1 | h1
    · exact ⟨(h.ge k h1).1, Nat.lt_of_lt_of_le (h.ge k h1).2 ht.size⟩
    · exact ⟨Nat.le_trans h.base_le h1.1, h1.2⟩
  · have := h.room
    show (L'.map fun f => f.b.length).sum ≤ X.room ∧ X.room ≤ 1073741824
    omega
end Go.Proofs.Ytcoimlenejffpaa
