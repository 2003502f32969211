/- ref disk: what it is that memory holds one. -/
import Derived.Test.YtcoimlenejffpaaDiskH
namespace Go.Proofs.Ytcoimlenejffpaa
set_option linter.all false
open Go.RowKit
/-- A file of the document's disk. -/
structure RFE where
  s : List UInt8
  A : Option Addr
  c : Nat
  b : List UInt8
  l : Nat
def RFE.v (f : RFE) : Value := .slice f.A f.b.length f.c
def rcells (f : RFE) : List Value := [.string (str f.s), f.v, .int .i64 (f.l : Int)]
structure RDS where
  room : Nat
  left : Int
  A : Option Addr
  c : Nat
  L : List RFE
def RDS.v (X : RDS) : Value := .slice X.A X.L.length X.c
def RFE.bl (f : RFE) : List Nat := f.v.ownBlock.toList
def RDS.bl (r : Nat) (X : RDS) : List Nat := r :: (X.v.ownBlock.toList ++ X.L.flatMap RFE.bl)
def rdcells (X : RDS) : Array Value := #[.int .i64 (X.room : Int), X.v, .int .i64 X.left]
def RDS.used (X : RDS) : Nat := (X.L.map fun f => f.b.length).sum
def RFW (w : World) (f : RFE) : Prop := Row w f.v f.b ∧ f.l ≤ f.b.length ∧ f.s.length ≤ 64
structure RW (w : World) (base r : Nat) (X : RDS) : Prop where
  cell : Blk w r (rdcells X) 76
  row : w.ownsRow base 78 3 X.v X.L.length (X.L.flatMap rcells)
  file : ∀ f ∈ X.L, RFW w f
  ge : ∀ i ∈ X.bl r, base ≤ i ∧ i < w.heap.size
  room : X.used ≤ X.room ∧ X.room ≤ 1073741824
  few : X.L.length ≤ 4096
  left : -1 ≤ X.left ∧ X.left ≤ 9223372036854775807
theorem own_block {w w' : World} {base sz n : Nat} {e : TypeId} {v : Value} {xs : List Value} (h : w.ownsRow base e sz v n xs) (hk : ∀ i, v.ownBlock = some i → w'.heap[i]? = w.heap[i]?) : w'.ownsRow base e sz v n xs := by
  refine ⟨h.1, ?_⟩
  rcases h.2 with h0 | ⟨g, cap, cur, hv, hbg, hh, r⟩
  · exact .inl h0
  · exact .inr ⟨g, cap, cur, hv, hbg, (hk g (by rw [hv]; rfl)).trans hh, r⟩
theorem rbl_r (r : Nat) (X : RDS) : r ∈ X.bl r := by simp [RDS.bl]
theorem rbl_v {r i : Nat} {X : RDS} (h : X.v.ownBlock = some i) : i ∈ X.bl r := by simp [RDS.bl, h]
theorem rbl_f {r i : Nat} {X : RDS} {f : RFE} (hf : f ∈ X.L) (h : f.v.ownBlock = some i) : i ∈ X.bl r := by
  simp only [RDS.bl, List.mem_cons, List.mem_append, List.mem_flatMap]
  exact .inr (.inr ⟨f, hf, by simp [RFE.bl, h]⟩)
theorem RW.keep {w w' : World} {base r : Nat} {X : RDS} (h : RW w base r X) (hk : ∀ i ∈ X.bl r, w'.heap[i]? = w.heap[i]?) (hs : w.heap.size ≤ w'.heap.size) : RW w' base r X where
  cell := (hk r (rbl_r r X)).trans h.cell
  row := own_block h.row fun i hi => hk i (rbl_v hi)
  file := fun f hf => ⟨(h.file f hf).1.keep fun i hi => hk i (rbl_f hf hi), (h.file f hf).2⟩
  ge := fun i hi => ⟨(h.ge i hi).1, Nat.lt_of_lt_of_le (h.ge i hi).2 hs⟩
  room := h.room
  few := h.few
  left := h.left
theorem RW.below {w w' : World} {base r : Nat} {X : RDS} (h : RW w base r X) (hb : Below w.heap.size w w') : RW w' base r X := h.keep (fun i hi => hb.block i (h.ge i hi).2) hb.size
theorem RW.base_le {w : World} {base r : Nat} {X : RDS} (h : RW w base r X) : base ≤ w.heap.size := by have := h.ge r (rbl_r r X); omega
/-- The row of files lies in no file's block, and not in the disk's own: by the blocks' types. -/
theorem RW.row_blk {w : World} {base r : Nat} {X : RDS} (h : RW w base r X) {i : Nat} (hi : X.v.ownBlock = some i) : ∃ cs, Blk w i cs 78 := by
  rcases h.row.2 with ⟨hv, _⟩ | ⟨g, cap, cur, hv, _, hh, _⟩
  · rw [hv] at hi; simp [Value.ownBlock] at hi
  · rw [hv] at hi
    simp [Value.ownBlock] at hi
    subst hi
    exact ⟨cur, hh⟩
theorem row_blk8 {w : World} {v : Value} {b : List UInt8} (h : Row w v b) {i : Nat} (hi : v.ownBlock = some i) : ∃ cs, Blk w i cs 5 := by
  rcases h with ⟨rfl, _⟩ | ⟨g, cap, cur, rfl, hh, _⟩
  · simp [Value.ownBlock] at hi
  · simp [Value.ownBlock] at hi
    subst hi
    exact ⟨cur, hh⟩
theorem blk_ne {w : World} {i j : Nat} {cs cs' : Array Value} {T T' : TypeId} (h : Blk w i cs T) (h' : Blk w j cs' T') (hT : T ≠ T') : i ≠ j := by
  intro e
  subst e
  have h2 := h.symm.trans h'
  injection h2 with h2
  injection h2 with _ h3
  exact hT h3
theorem RW.ne_rv {w : World} {base r : Nat} {X : RDS} (h : RW w base r X) {i : Nat} (hi : X.v.ownBlock = some i) : i ≠ r := by
  obtain ⟨cs, hb⟩ := h.row_blk hi
  exact blk_ne hb h.cell (by decide)
theorem RW.ne_rf {w : World} {base r : Nat} {X : RDS} (h : RW w base r X) {f : RFE} (hf : f ∈ X.L) {i : Nat} (hi : f.v.ownBlock = some i) : i ≠ r := by
  obtain ⟨cs, hb⟩ := row_blk8 (h.file f hf).1 hi
  exact blk_ne hb h.cell (by decide)
theorem RW.ne_vf {w : World} {base r : Nat} {X : RDS} (h : RW w base r X) {f : RFE} (hf : f ∈ X.L) {i j : Nat} (hi : f.v.ownBlock = some i) (hj : X.v.ownBlock = some j) : i ≠ j := by
  obtain ⟨cs, hb⟩ := row_blk8 (h.file f hf).1 hi
  obtain ⟨cs', hb'⟩ := h.row_blk hj
  exact blk_ne hb hb' (by decide)
/-- The cells of files. -/
theorem rc_len (L : List RFE) : (L.flatMap rcells).length = L.length * 3 := by
  induction L with
  | nil => rfl
  | cons f r ih => simp [rcells, ih]; omega
theorem rc_get {L : List RFE} {i j : Nat} {f : RFE} (h : L[i]? = some f) (hj : j < 3) : (L.flatMap rcells)[i * 3 + j]? = (rcells f)[j]? := by
  induction L generalizing i with
  | nil => simp at h
  | cons x r ih =>
    rw [List.flatMap_cons]
    rcases i with _ | i
    · simp only [List.getElem?_cons_zero, Option.some.injEq] at h
      subst h
      rw [List.getElem?_append_left (by simp [rcells]; omega)]
      simp
    · simp only [List.getElem?_cons_succ] at h
      rw [List.getElem?_append_right (by simp [rcells]; omega)]
      have : (i + 1) * 3 + j - (rcells x).length = i * 3 + j := by simp [rcells]; omega
      rw [this]
      exact ih h
theorem rc_set {L : List RFE} {i j : Nat} {f f' : RFE} {u : Value} (h : L[i]? = some f) (hj : j < 3) (hs : (rcells f).set j u = rcells f') : (L.flatMap rcells).set (i * 3 + j) u = (L.set i f').flatMap rcells := by
  induction L generalizing i with
  | nil => simp at h
  | cons x r ih =>
    rcases i with _ | i
    · simp only [List.getElem?_cons_zero, Option.some.injEq] at h
      subst h
      rw [List.flatMap_cons, List.set_append_left _ _ (by simp [rcells]; omega)]
      simp only [Nat.zero_mul, Nat.zero_add, List.set_cons_zero, List.flatMap_cons, hs]
    · simp only [List.getElem?_cons_succ] at h
      rw [List.flatMap_cons, List.set_append_right _ _ (by simp [rcells]; omega)]
      have : (i + 1) * 3 + j - (rcells x).length = i * 3 + j := by simp [rcells]; omega
      rw [this, ih h]
      simp
theorem rc_take (L : List RFE) (k : Nat) : (L.flatMap rcells).take (k * 3) = (L.take k).flatMap rcells := by
  induction L generalizing k with
  | nil => simp
  | cons x r ih =>
    rcases k with _ | k
    · simp
    · rw [List.flatMap_cons, List.take_append, List.take_succ_cons, List.flatMap_cons, ← ih]
      have h1 : (rcells x).take ((k + 1) * 3) = rcells x := List.take_of_length_le (by simp [rcells]; omega)
      have h2 : (k + 1) * 3 - (rcells x).length = k * 3 := by simp [rcells]; omega
      rw [h1, h2]
theorem rc_drop (L : List RFE) (k : Nat) : (L.flatMap rcells).drop (k * 3) = (L.drop k).flatMap rcells := by
  induction L generalizing k with
  | nil => simp
  | cons x r ih =>
    rcases k with _ | k
    · simp
    · rw [List.flatMap_cons, List.drop_append, List.drop_succ_cons, ← ih]
      have h1 : (rcells x).drop ((k + 1) * 3) = [] := List.drop_of_length_le (by simp [rcells]; omega)
      have h2 : (k + 1) * 3 - (rcells x).length = k * 3 := by simp [rcells]; omega
      rw [h1, h2]; rfl
theorem rc_one (L : List RFE) : ∀ u ∈ L.flatMap rcells, u.oneCell' = true := by
  intro u hu
  obtain ⟨f, _, h⟩ := List.mem_flatMap.1 hu
  simp only [rcells, List.mem_cons, List.not_mem_nil, or_false] at h
  rcases h with rfl | rfl | rfl <;> rfl
theorem infoF : (Try.prog.info? 78).map (fun i => (i.zero, i.size, i.bytes)) = some (some (.agg #[.string ⟨#[]⟩, .slice none 0 0, .int .i64 0]), 3, 48) := by kernel_rfl
/-- Append of files, at the operation. -/
theorem wpF_append {o : Oper} {a : Act} {K : Act → World → Prop} {Q : Exit → Act → World → Prop} {w : World} (s x : Operand)
    (ho : o.op = .call { callee := .builtin .append, args := #[s, x], argTypes := #[74, 74] })
    (base : Nat) (v : Value) (n : Nat) (l : List RFE) (hs : a.eval s = v) (hown : w.ownsRow base 78 3 v n (l.flatMap rcells))
    (B : Nat) (A : Option Addr) (m c : Nat) (l' : List RFE) (hx : a.eval x = .slice A m c) (hr : Rd w B 3 A m (l'.flatMap rcells))
    (N : Nat) (L : List RFE) (hN : N = n + m) (hL : L = l ++ l') (hsm : N ≤ 1000000) (hbase : base ≤ w.heap.size)
    (h : ∀ A' c' w', w'.ownsRow base 78 3 (.slice A' N c') N (L.flatMap rcells) → Below base w w' → N ≤ c' → c' ≤ 9223372036854775807 → K (a.put o.dst (.slice A' N c')) w') : o.wp Try.prog a w K Q := by
  subst hN
  subst hL
  obtain ⟨i0, hi, hz0, hz1, hz2⟩ := info_parts infoF
  refine wp_append_rd w s x _ ho base 78 i0 _ 3 48 Try.underlying74 hi hz0 hz1 hz2 rfl (by omega) v n _ hs hown B A m c _ hx hr (rc_one l') (by simp only [maxLen]; omega) (by omega) hbase ?_
  rw [List.flatMap_append] at h
  intro A' c' w' h1 h2
  exact h A' c' w' h1 h2 (own_cap h1).1 (own_cap h1).2
/-- Behind a method of the document's disk. -/
def RetX (base r : Nat) (X : RDS) (R : Nat → RDS → Prop) (w : World) (e : Ending) (w' : World) : Prop :=
  ∃ (code : Nat) (X' : RDS), e = .returned (.int .i64 (code : Int)) ∧ R code X' ∧ RW w' base r X' ∧ Turn (X.bl r) w w' ∧ ∀ i ∈ X'.bl r, i ∈ X.bl r ∨ w.heap.size ≤ i
/-- The struct's own cell has turned: how much is left. -/
theorem RW.set_left {w : World} {base r : Nat} {X : RDS} (h : RW w base r X) (n : Int) (h1 : -1 ≤ n) (h2 : n ≤ 9223372036854775807) :
    RW (w.setCell ⟨r, 2, none⟩ (.int .i64 n)) base r { X with left := n } ∧ Turn (X.bl r) w (w.setCell ⟨r, 2, none⟩ (.int .i64 n)) := by
  have hk : ∀ i, i ≠ r → (w.setCell ⟨r, 2, none⟩ (.int .i64 n)).heap[i]? = w.heap[i]? := fun i hi => Below.heap_setCell _ _ _ _ hi
  refine ⟨⟨Blk.set h.cell 2 _, own_block h.row fun i hi => hk i (h.ne_rv hi), fun f hf => ⟨(h.file f hf).1.keep fun i hi => hk i (h.ne_rf hf hi), (h.file f hf).2⟩, fun i hi => ?_, h.room, h.few, h1, h2⟩, Turn.set (.inl (rbl_r r X))⟩
  have := h.ge i hi
  simpa using this
/-- One file's cell has turned, in its place. -/
theorem RW.set_file {w W : World} {base r g i j : Nat} {X : RDS} {f f' : RFE} {u : Value} (h : RW w base r X) (hg : X.v.ownBlock = some g) (hf : X.L[i]? = some f) (hj : j < 3) (hu : (rcells f).set j u = rcells f')
    (hW : w.setCell ⟨g, i * 3 + j, none⟩ u = W) (hfw : RFW w f') (hb : ∀ k, f'.v.ownBlock = some k → base ≤ k) (hus : X.used + f'.b.length ≤ X.room + f.b.length) :
    RW W base r { X with L := X.L.set i f' } ∧ Turn [g] w W := by
  have hk : ∀ k, k ≠ g → W.heap[k]? = w.heap[k]? := fun k hk => by rw [← hW]; exact Below.heap_setCell _ _ _ _ hk
  have hsz : W.heap.size = w.heap.size := by rw [← hW]; simp
  have hlen : (X.L.set i f').length = X.L.length := List.length_set
  have hv : ({ X with L := X.L.set i f' } : RDS).v = X.v := by unfold RDS.v; simp only [hlen]
  have hlt : i < X.L.length := (List.getElem?_eq_some_iff.1 hf).1
  have hfv : ∀ k, f'.v.ownBlock = some k → k ≠ g := fun k hk => by
    obtain ⟨cs, hb1⟩ := row_blk8 hfw.1 hk
    obtain ⟨cs', hb2⟩ := h.row_blk hg
    exact blk_ne hb1 hb2 (by decide)
  have hrow := h.row
  obtain ⟨ad, hA⟩ : ∃ ad, X.A = some ad := by
    rcases hx : X.A with _ | ad
    · unfold RDS.v at hg; rw [hx] at hg; simp [Value.ownBlock] at hg
    · exact ⟨ad, rfl⟩
  have hst : W.ownsRow base 78 3 X.v X.L.length ((X.L.set i f').flatMap rcells) := by
    rcases hrow.2 with ⟨h1, _⟩ | ⟨g', cap, cur, h1, _⟩
    · rw [h1] at hg; simp [Value.ownBlock] at hg
    · have hgg : g' = g := by rw [h1] at hg; simpa [Value.ownBlock] using hg
      subst hgg
      rw [h1] at hrow ⊢
      have := (World.ownsRow.stored hrow (i * 3 + j) u).1
      rw [rc_set hf hj hu, hW] at this
      exact this
  refine ⟨⟨?_, ?_, ?_, ?_, ?_, ?_, h.left⟩, ?_⟩
  · have : rdcells { X with L := X.L.set i f' } = rdcells X := by unfold rdcells; rw [hv]
    rw [this]
    exact (hk r (fun e => h.ne_rv hg e.symm)).trans h.cell
  · rw [hv]
    simp only [hlen]
    exact hst
  · intro x hx
    rcases List.mem_or_eq_of_mem_set hx with h1 | h1
    · exact ⟨(h.file x h1).1.keep fun k hk' => hk k (h.ne_vf h1 hk' hg), (h.file x h1).2⟩
    · subst h1
      exact ⟨hfw.1.keep fun k hk' => hk k (hfv k hk'), hfw.2⟩
  · intro k hk'
    rw [hsz]
    simp only [RDS.bl, List.mem_cons, List.mem_append, List.mem_flatMap] at hk'
    rw [hv] at hk'
    rcases hk' with h1 | h1 | ⟨x, h1, h2⟩
    · subst h1; exact h.ge k (rbl_r k X)
    · exact h.ge k (rbl_v (by simpa using h1))
    · rcases List.mem_or_eq_of_mem_set h1 with h3 | h3
      · exact h.ge k (rbl_f h3 (by simpa [RFE.bl] using h2))
      · subst h3
        have h4 : x.v.ownBlock = some k := by simpa [RFE.bl] using h2
        exact ⟨hb k h4, hfw.1.lt h4⟩
  · have h1 := h.room
    have h2 : (X.L.set i f').map (fun f => f.b.length) = (X.L.map fun f => f.b.length).set i f'.b.length := by rw [List.map_set]
    have h3 : ∀ (l : List Nat) (i a b : Nat), l[i]? = some a → (l.set i b).sum + a = l.sum + b := by
      intro l
      induction l with
      | nil => intro i a b h; simp at h
      | cons x r ih =>
        intro i a b h
        rcases i with _ | i
        · simp at h; subst h; simp; omega
        · simp at h; simp; have := ih i a b h; omega
    have h4 := h3 (X.L.map fun f => f.b.length) i f.b.length f'.b.length (by rw [List.getElem?_map, hf]; rfl)
    have h5 : ({ X with L := X.L.set i f' } : RDS).used = ((X.L.map fun f => f.b.length).set i f'.b.length).sum := by unfold RDS.used; rw [h2]
    have h6 : X.used = (X.L.map fun f => f.b.length).sum := rfl
    rw [h5]
    show _ ≤ X.room ∧ X.room ≤ 1073741824
    omega
  · show (X.L.set i f').length ≤ 4096
    rw [hlen]; exact h.few
  · rw [← hW]; exact Turn.set (.inl (by simp))
end Go.Proofs.Ytcoimlenejffpaa
