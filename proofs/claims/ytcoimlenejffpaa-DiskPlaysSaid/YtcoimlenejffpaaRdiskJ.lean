/- ref disk: Copy. -/
import Derived.Test.YtcoimlenejffpaaRdiskI
namespace Go.Proofs.Ytcoimlenejffpaa
set_option linter.all false
open Go.RowKit
theorem wpF_append_g {o : Oper} {a : Act} {K : Act → World → Prop} {Q : Exit → Act → World → Prop} {w : World} (s x : Operand)
    (ho : o.op = .call { callee := .builtin .append, args := #[s, x], argTypes := #[74, 74] })
    (base : Nat) (v : Value) (n : Nat) (l : List RFE) (hs : a.eval s = v) (hown : w.ownsRow base 78 3 v n (l.flatMap rcells))
    (B : Nat) (A : Option Addr) (m c : Nat) (l' : List RFE) (hx : a.eval x = .slice A m c) (hr : Rd w B 3 A m (l'.flatMap rcells))
    (N : Nat) (L : List RFE) (hN : N = n + m) (hL : L = l ++ l') (hsm : N ≤ 1000000) (hbase : base ≤ w.heap.size)
    (h : ∀ A' c' w', w'.ownsRow base 78 3 (.slice A' N c') N (L.flatMap rcells) → w.grownBy w' v.ownBlock → N ≤ c' → c' ≤ 9223372036854775807 → K (a.put o.dst (.slice A' N c')) w') : o.wp Try.prog a w K Q := by
  subst hN
  subst hL
  obtain ⟨i0, hi, hz0, hz1, hz2⟩ := info_parts infoF
  refine wp_append_rg w s x _ ho base 78 i0 _ 3 48 Try.underlying74 hi hz0 hz1 hz2 rfl (by omega) v n _ hs hown B A m c _ hx hr (rc_one l') (by simp only [maxLen]; omega) (by omega) hbase ?_
  rw [List.flatMap_append] at h
  intro A' c' w' h1 _ h3
  exact h A' c' w' h1 h3 (own_cap h1).1 (own_cap h1).2
theorem RW.snoc {w w1 W : World} {base r c' N : Nat} {X : RDS} {A' : Option Addr} {f : RFE} (h : RW w base r X) (hg : w.grownBy w1 X.v.ownBlock)
    (hrow : w1.ownsRow base 78 3 (.slice A' (X.L.length + 1) c') (X.L.length + 1) ((X.L ++ [f]).flatMap rcells)) (hf : RFW w f) (hfo : ∀ k, f.v.ownBlock = some k → base ≤ k)
    (hW : w1.setCell ⟨r, 1, none⟩ (.slice A' N c') = W) (hN : N = X.L.length + 1) (hus : X.used + f.b.length ≤ X.room) (hfew : X.L.length + 1 ≤ 4096) : RW W base r { X with A := A', c := c', L := X.L ++ [f] } := by
  subst hN
  have hr1 : some r ≠ X.v.ownBlock := fun e => h.ne_rv e.symm rfl
  have hcell1 : Blk w1 r (rdcells X) 76 := (hg.block r (h.ge r (rbl_r r X)).2 hr1).trans h.cell
  have hk : ∀ k, k ≠ r → W.heap[k]? = w1.heap[k]? := fun k hne => by rw [← hW]; exact Below.heap_setCell _ _ _ _ hne
  have hsz : W.heap.size = w1.heap.size := by rw [← hW]; simp
  have hlen : (X.L ++ [f]).length = X.L.length + 1 := by simp
  have hfile : ∀ x ∈ X.L ++ [f], RFW W x := by
    intro x hx
    have key : ∀ x : RFE, RFW w x → RFW W x := fun x hx => by
      refine ⟨hx.1.keep fun k hk' => ?_, hx.2⟩
      obtain ⟨cs, hb⟩ := row_blk8 hx.1 hk'
      have h1 : some k ≠ X.v.ownBlock := fun e => by
        obtain ⟨cs', hb'⟩ := h.row_blk e.symm
        exact blk_ne hb hb' (by decide) rfl
      have h2 : k ≠ r := blk_ne hb h.cell (by decide)
      exact (hk k h2).trans (hg.block k (hx.1.lt hk') h1)
    rcases List.mem_append.1 hx with h1 | h1
    · exact key x (h.file x h1)
    · simp at h1; subst h1; exact key x hf
  refine ⟨?_, ?_, hfile, ?_, ?_, by rw [hlen]; exact hfew, h.left⟩
  · have h1 := hcell1.set 1 (.slice A' (X.L.length + 1) c')
    rw [hW] at h1
    have h2 : rdcells { X with A := A', c := c', L := X.L ++ [f] } = (rdcells X).setIfInBounds 1 (.slice A' (X.L.length + 1) c') := by
      unfold rdcells RDS.v; simp only [hlen]; rfl
    rw [h2]; exact h1
  · show W.ownsRow base _ 3 (.slice A' (X.L ++ [f]).length c') (X.L ++ [f]).length _
    rw [hlen]
    exact own_block hrow fun k hk' => hk k (fun e => by
      subst e
      rcases hrow.2 with ⟨hv, _⟩ | ⟨g, cap, cur, hv, _, hh, _⟩
      · rw [hv] at hk'; simp [Value.ownBlock] at hk'
      · rw [hv] at hk'
        simp [Value.ownBlock] at hk'
        subst hk'
        exact blk_ne (show Blk w1 _ cur _ from hh) hcell1 (by decide) rfl)
  · intro k hk'
    rw [hsz]
    simp only [RDS.bl, List.mem_cons, List.mem_append, List.mem_flatMap] at hk'
    rcases hk' with h1 | h1 | ⟨x, h1, h2⟩
    · subst h1; exact ⟨(h.ge k (rbl_r k X)).1, hcell1.lt⟩
    · have h3 : (Value.slice A' (X.L ++ [f]).length c').ownBlock = some k := by simpa [RDS.v] using h1
      rw [hlen] at h3
      exact hrow.lt k h3
    · have h4 : x.v.ownBlock = some k := by simpa [RFE.bl] using h2
      have h5 : x ∈ X.L ++ [f] := by simpa using h1
      refine ⟨?_, by rw [← hsz]; exact (hfile x h5).1.lt h4⟩
      rcases List.mem_append.1 h5 with h6 | h6
      · exact (h.ge k (rbl_f h6 h4)).1
      · simp at h6; subst h6; exact hfo k h4
  · have := h.room
    show ((X.L ++ [f]).map fun f => f.b.length).sum ≤ X.room ∧ X.room ≤ 1073741824
    have h1 : ((X.L ++ [f]).map fun f => f.b.length).sum = X.used + f.b.length := by unfold RDS.used; simp
    rw [h1]; omega
theorem used_take {L : List RFE} {i : Nat} {f : RFE} (hf : L[i]? = some f) : ((L.take i).map fun f => f.b.length).sum + f.b.length ≤ (L.map fun f => f.b.length).sum := by
  conv => rhs; rw [← List.take_append_drop i L]
  obtain ⟨h1, e⟩ := List.getElem?_eq_some_iff.1 hf
  rw [List.drop_eq_getElem_cons h1, e]
  simp only [List.map_append, List.sum_append, List.map_cons, List.sum_cons]
  omega
set_option maxRecDepth 100000 in
set_option maxHeartbeats 3200000 in
theorem rcopy_any (base r : Nat) (X : RDS) (w : World) (h : RW w base r X) (hfw : X.L.length < 4096) :
    Calls Try.prog 25 #[.pointer (some ⟨r, 0, none⟩)] w (fun e w' => ∃ ro Y, e = .returned (.pointer (some ⟨ro, 0, none⟩)) ∧ Y.room = X.room ∧ Y.left = -1 ∧ Y.L.map absF = X.L.map absF ∧ RW w' w.heap.size ro Y ∧ Below w.heap.size w w') := by
  have H := Lib.hid h
  have hfew := h.few
  have hro := h.room
  obtain ⟨n, hn⟩ : ∃ n, n = X.L.length := ⟨_, rfl⟩
  rw [← hn] at hfew hfw
  have HN := Lib.hid hn
  have c0 : w.cell? ⟨r, 0, none⟩ = some (.int .i64 (X.room : Int)) := by have h9 := h.cell; unfold rdcells at h9; exact h9.cell 0
  clear h hn
  go_enter Try.func25, Try.ntmps25
  go_wp2_with fail
  obtain ⟨w0, hw0⟩ : ∃ w0, w.alloc (.cells #[.int .i64 (X.room : Int), .slice none 0 0, .int .i64 (-1)] 76) = w0 := ⟨_, rfl⟩
  rw [hw0]
  obtain ⟨ro, hro9⟩ : ∃ ro, ro = w.heap.size := ⟨_, rfl⟩
  have hY0 : RW w0 w.heap.size ro (rnewX X.room) := by
    rw [← hw0, hro9]
    refine ⟨Blk.new w _ _, World.ownsRow_nil _ _ _ _, fun f hf => by simp [rnewX] at hf, fun i hi => ?_, ⟨by simp [rnewX, RDS.used], hro.2⟩, by simp [rnewX], by simp [rnewX]⟩
    have : i = w.heap.size := by simpa [RDS.bl, rnewX, RDS.v, Value.ownBlock] using hi
    simp; omega
  have hb0 : Below w.heap.size w w0 := by rw [← hw0]; exact below_refl_alloc _ _
  have H0 := Lib.hid (And.intro hY0 hb0)
  rw [← hro9]
  have HRO := Lib.hid hro9
  clear hY0 hb0 hw0 hro9 c0
  go_loopw [4] (fun s4 wr => ∃ (i : Nat) (Y : RDS), i ≤ n ∧ s4 = .int .i64 (i : Int) ∧ Hid (RW wr w.heap.size ro Y) ∧ Hid (Below w.heap.size w wr) ∧ Hid (Y.L.map absF = (X.L.take i).map absF) ∧ Hid (Y.room = X.room) ∧ Hid (Y.left = -1)) (fun s4 _ => n - (intOf s4).toNat)
  case atStart => exact ⟨0, rnewX X.room, Nat.zero_le _, rfl, H0.out.1, H0.out.2, rfl, rfl, rfl⟩
  case round =>
    obtain ⟨i, Y, hi, rfl, HY, HB, HAY, HRY, HLF⟩ := hrel
    clear H0
    have hd := H.out.below HB.out
    have hcap := hd.cap
    rw [← HN.out] at hcap
    have HLY : Hid (Y.L.length = i) := by
      have h1 := congrArg List.length HAY.out
      simp only [List.length_map, List.length_take] at h1
      show _ = _
      rw [h1, ← HN.out]; omega
    by_cases hlt : i < n
    · obtain ⟨g, f, hA, hg, hf, hm, k0, k1, k2, hfr, hc1, hc2⟩ := hd.at_ (show i < X.L.length by rw [← HN.out]; exact hlt)
      have c1 : wr.cell? ⟨r, 1, none⟩ = some (.slice (some ⟨g, 0, none⟩) n X.c) := by have h9 := hd.cell; unfold rdcells RDS.v at h9; have h8 := h9.cell 1; rw [hA, ← HN.out] at h8; exact h8
      have HFL := Lib.hid (hd.file f hm)
      have hus := used_take hf
      have HF := Lib.hid hf
      obtain ⟨m, hmm⟩ : ∃ m, m = f.b.length := ⟨_, rfl⟩
      rw [← hmm] at k1
      have hm9 : m ≤ 1073741824 := by have h1 := hro; have h2 : (X.L.map fun f => f.b.length).sum = X.used := rfl; omega
      have HM := Lib.hid hmm
      obtain ⟨w1, hw1⟩ : ∃ w1, wr.alloc (.cells #[.string (str f.s), .slice f.A m f.c, .int .i64 (f.l : Int)] 78) = w1 := ⟨_, rfl⟩
      have b01 : Below wr.heap.size wr w1 := by rw [← hw1]; exact below_refl_alloc _ _
      have pb1 : Blk w1 wr.heap.size #[.string (str f.s), .slice f.A m f.c, .int .i64 (f.l : Int)] 78 := by rw [← hw1]; exact Blk.new _ _ _
      have hbs1 : Hid (Bs w1 w1.heap.size f.A m f.b) := by show Bs _ _ _ _ _; rw [hmm]; exact ((HFL.out.1.bs).below b01).more b01.size
      obtain ⟨wB, hwB⟩ : ∃ wB, w1.alloc (.cells #[] 5) = wB := ⟨_, rfl⟩
      have b1B : Below w1.heap.size w1 wB := by rw [← hwB]; exact below_refl_alloc _ _
      have pbB : Blk wB wr.heap.size #[.string (str f.s), .slice f.A m f.c, .int .i64 (f.l : Int)] 78 := pb1.below b1B pb1.lt
      have p1B : wB.cell? ⟨wr.heap.size, 1, none⟩ = some (.slice f.A m f.c) := pbB.cell 1
      have hownB : Hid (wB.ownsRow w1.heap.size 5 1 (.slice (some ⟨w1.heap.size, 0, none⟩) 0 0) 0 (([] : List UInt8).map bv)) := by show World.ownsRow _ _ _ _ _ _ _; rw [← hwB]; exact own_empty w1 _ _
      have HPL : Hid (wr.heap.size < w1.heap.size) := pb1.lt
      have H1 := Lib.hid (And.intro b01 (And.intro b1B pbB))
      have HDY := Lib.hid HY.out
      have HUS0 : Hid (Y.used + f.b.length ≤ Y.room) := by
        have h1 : Y.used = ((X.L.take i).map fun f => f.b.length).sum := by
          have h2 := congrArg (fun l => (l.map fun q : List UInt8 × List UInt8 × Nat => q.2.1.length).sum) HAY.out
          simp only [List.map_map] at h2
          exact h2
        show _ ≤ _
        rw [h1, HRY.out]
        have h3 : (X.L.map fun f => f.b.length).sum = X.used := rfl
        omega
      clear hd hA hg hf hm hfr b01 pb1 b1B pbB hus hmm
      go_wp2_with (first
        | (at_builtin
           refine wpB_append rfl (.tmp 28) (.tmp 30) rfl w1.heap.size _ 0 [] rfl hownB.out w1.heap.size f.A m f.c f.b rfl (hbs1.out.below H1.out.2.1) m f.b (by omega) rfl (by omega) H1.out.2.1.size ?_
           intro A4 c4 w4 o4 b4 hc4 hm4
           have b14 : Below w1.heap.size w1 w4 := H1.out.2.1.trans b4
           have pb4 : Blk w4 wr.heap.size #[.string (str f.s), .slice f.A m f.c, .int .i64 (f.l : Int)] 78 := H1.out.2.2.below b4 HPL.out
           have p14 : w4.cell? ⟨wr.heap.size, 1, none⟩ = some (.slice f.A m f.c) := pb4.cell 1
           have pf4 : w4.frozen? ⟨wr.heap.size, 1, none⟩ = false := pb4.free 1)
        | fail)
      obtain ⟨w5, hw5⟩ : ∃ w5, w4.setCell ⟨wr.heap.size, 1, none⟩ (.slice A4 m c4) = w5 := ⟨_, rfl⟩
      rw [hw5]
      obtain ⟨p, hp⟩ : ∃ p, p = wr.heap.size := ⟨_, rfl⟩
      have hpl4 : p < w1.heap.size := by rw [hp]; exact HPL.out
      have pb5 : Blk w5 p #[.string (str f.s), .slice A4 m c4, .int .i64 (f.l : Int)] 78 := by
        rw [← hw5, hp]; exact pb4.set 1 _
      have b05 : Below wr.heap.size wr w5 := by
        have h1 : Below wr.heap.size wr w4 := H1.out.1.trans (b14.mono H1.out.1.size)
        rw [← hw5]
        exact ⟨h1.os, h1.tape, h1.output, by simpa using h1.size, fun q hq => (Below.heap_setCell _ _ _ _ (show q ≠ wr.heap.size by omega)).trans (h1.block q hq)⟩
      have hY5 := HDY.out.below b05
      have hr4 : Row w4 (.slice A4 m c4) f.b := by have h1 := row_of_own o4; exact h1
      have hne4 : ∀ q, (Value.slice A4 m c4).ownBlock = some q → w1.heap.size ≤ q := fun q hq => (o4.lt q hq).1
      have hr5 : Row w5 (.slice A4 m c4) f.b := hr4.keep fun q hq => by
        rw [← hw5]; exact Below.heap_setCell _ _ _ _ (show q ≠ wr.heap.size from fun e => by have h8 := hne4 q hq; have h9 := HPL.out; omega)
      obtain ⟨f4, hf4⟩ : ∃ f4 : RFE, f4 = ⟨f.s, A4, c4, f.b, f.l⟩ := ⟨_, rfl⟩
      have hv4 : f4.v = .slice A4 m c4 := by rw [hf4, HM.out]; rfl
      have hpY9 : some p ≠ Y.v.ownBlock := fun e => by have := (HDY.out.ge p (rbl_v e.symm)).2; omega
      have hpro9 : ¬ ro = p := fun e => by have := (HDY.out.ge ro (rbl_r ro Y)).2; omega
      have H5 := Lib.hid (And.intro hY5 (And.intro pb5 (And.intro hr5 (HB.out.trans (b05.mono HB.out.size)))))
      have HBY : Hid (∀ k, f4.v.ownBlock = some k → w.heap.size ≤ k) := fun k hk => by rw [hv4] at hk; have h1 := hne4 k hk; have h2 := HB.out.size; have h3 := H1.out.1.size; omega
      have HR40 : Hid (f4.v = .slice A4 m c4 ∧ f4.b = f.b ∧ f4.l ≤ f4.b.length ∧ f4.s.length ≤ 64) := ⟨hv4, by rw [hf4], by rw [hf4]; exact HFL.out.2.1, by rw [hf4]; exact HFL.out.2.2⟩
      have HUS : Hid (Y.used + f4.b.length ≤ Y.room) := by show _ ≤ _; rw [hf4]; exact HUS0.out
      have HAB : Hid ((∀ A7 c7, ({ Y with A := A7, c := c7, L := Y.L ++ [f4] } : RDS).L.map absF = (X.L.take (i + 1)).map absF) ∧ Y.room = X.room ∧ Y.left = -1) := by
        refine ⟨fun A7 c7 => ?_, HRY.out, HLF.out⟩
        show (Y.L ++ [f4]).map absF = _
        rw [List.map_append, HAY.out, List.take_add_one, HF.out, hf4]
        simp [absF]
      have hlitf : ∀ (u : World), u.alloc (.cells #[.string (str f.s), .slice A4 m c4, .int .i64 (f.l : Int)] 78) = u.alloc (.cells (rcells f4).toArray 78) := fun u => by
        have : (rcells f4).toArray = #[.string (str f.s), .slice A4 m c4, .int .i64 (f.l : Int)] := by unfold rcells; rw [hv4, hf4]
        rw [this]
      have HLITF := Lib.hid hlitf
      rw [← hp]
      have hpro := hpro9
      have hpY := Lib.hid hpY9
      have HF4 := Lib.hid hf4
      have hi9 : i < n := hlt
      clear hw5 hpl4 pb5 b05 hY5 hr4 hne4 hr5 hv4 hpY9 hpro9 hlitf hf4 o4 b4 b14 pb4 p14 pf4 hownB hbs1 p1B hwB hw1 k0 k1 k2 c1 hp
      refine wp_region_held_drew (S := fun w' => w'.cell? ⟨p, 0, none⟩ = some (.string (str f.s)) ∧ w'.cell? ⟨p, 1, none⟩ = some (.slice A4 m c4) ∧ w'.cell? ⟨p, 2, none⟩ = some (.int .i64 (f.l : Int))) (by kernel_rfl) (⟨H5.out.2.1.cell 0, H5.out.2.1.cell 1, H5.out.2.1.cell 2⟩) (fun hHeld => ?_)
      obtain ⟨w2, hw2⟩ : ∃ w2, w5.drew = w2 := ⟨_, rfl⟩
      rw [hw2] at hHeld ⊢
      have hd2 : RW w2 w.heap.size ro Y := by rw [← hw2]; exact H5.out.1.keep (fun _ _ => rfl) (Nat.le_refl _)
      have p02 : w2.cell? ⟨p, 0, none⟩ = some (.string (str f.s)) := hHeld.1
      have p12 : w2.cell? ⟨p, 1, none⟩ = some (.slice A4 m c4) := hHeld.2.1
      have p22 : w2.cell? ⟨p, 2, none⟩ = some (.int .i64 (f.l : Int)) := hHeld.2.2
      have hpl : p < w2.heap.size := World.block_lt_of_cell? w2 _ p02
      have hrol : ro < w2.heap.size := (hd2.ge ro (rbl_r ro Y)).2
      have c12 : w2.cell? ⟨ro, 1, none⟩ = some (.slice Y.A i Y.c) := by have h9 := hd2.cell; unfold rdcells RDS.v at h9; have h8 := h9.cell 1; rw [HLY.out] at h8; exact h8
      have HR4 : Hid (RFW w2 f4) := by
        refine ⟨?_, HR40.out.2.2.1, HR40.out.2.2.2⟩
        rw [HR40.out.1, HR40.out.2.1, ← hw2]
        exact H5.out.2.2.1.keep fun _ _ => rfl
      have HB2 : Hid (Below w.heap.size w w2) := by rw [← hw2]; exact ⟨H5.out.2.2.2.os, H5.out.2.2.2.tape, H5.out.2.2.2.output, H5.out.2.2.2.size, H5.out.2.2.2.block⟩
      have HY2 := Lib.hid hd2
      clear hw2 hd2
      refine wpAnyH_take (i := 0) (oi := { dst := some 33, op := Go.Op.move (Go.Operand.tmp 3), type := 45, pos := "disk.go:203", after := #[], guard := none }) (v := ?_) rfl (by kernel_rfl) (by kernel_rfl) (by kernel_rfl) (fun _ _ _ h => h) (Or.inl ⟨by rfl, ?_⟩) (by assumption) ?_
      rotate_left
      · (intro w hSw; (try dsimp only at hSw); go_simp; try with_reducible rfl)
      try simp only [Act.put, List.setIfInBounds_toArray, List.set_cons_zero, List.set_cons_succ]
      refine wpAnyH_take (i := 1) (oi := { dst := some 34, op := Go.Op.move (Go.Operand.tmp 3), type := 45, pos := "disk.go:203", after := #[], guard := none }) (v := ?_) rfl (by kernel_rfl) (by kernel_rfl) (by kernel_rfl) (fun _ _ _ h => h) (Or.inl ⟨by rfl, ?_⟩) (by assumption) ?_
      rotate_left
      · (intro w hSw; (try dsimp only at hSw); go_simp; try with_reducible rfl)
      try simp only [Act.put, List.setIfInBounds_toArray, List.set_cons_zero, List.set_cons_succ]
      refine wpAnyH_take (i := 2) (oi := { dst := some 35, op := Go.Op.nilCheck (Go.Operand.tmp 34), type := 0, pos := "disk.go:203", after := #[{ on := 1, ground := Go.Ground.data }], guard := none }) (v := ?_) rfl (by kernel_rfl) (by kernel_rfl) (by kernel_rfl) (fun _ _ _ h => h) (Or.inl ⟨by rfl, ?_⟩) (by assumption) ?_
      rotate_left
      · (intro w hSw; (try dsimp only at hSw); go_simp; try with_reducible rfl)
      try simp only [Act.put, List.setIfInBounds_toArray, List.set_cons_zero, List.set_cons_succ]
      refine wpAnyH_take (i := 3) (oi := { dst := some 36, op := Go.Op.fieldAddr 76 (Go.Operand.tmp 35) 1, type := 0, pos := "disk.go:203", after := #[{ on := 2, ground := Go.Ground.data }], guard := none }) (v := ?_) rfl (by kernel_rfl) (by kernel_rfl) (by kernel_rfl) (fun _ _ _ h => h) (Or.inl ⟨by rfl, ?_⟩) (by assumption) ?_
      rotate_left
      · (intro w hSw; (try dsimp only at hSw); go_simp; try with_reducible rfl)
      try simp only [Act.put, List.setIfInBounds_toArray, List.set_cons_zero, List.set_cons_succ]
      refine wpAnyH_take (i := 5) (oi := { dst := some 38, op := Go.Op.load 78 (Go.Operand.tmp 5), type := 78, pos := "disk.go:203", after := #[], guard := none }) (v := ?_) rfl (by kernel_rfl) (by kernel_rfl) (by kernel_rfl) (fun _ _ _ h => h) (Or.inl ⟨by rfl, ?_⟩) (by assumption) ?_
      rotate_left
      · (intro w hSw; (try dsimp only at hSw); go_simp; try with_reducible rfl)
      try simp only [Act.put, List.setIfInBounds_toArray, List.set_cons_zero, List.set_cons_succ]
      refine wpAnyH_ready (rs := [4, 6]) (by kernel_rfl) (by simp) ?_
      refine AllReadyH.cons (o := { dst := some 37, op := Go.Op.load 74 (Go.Operand.tmp 36), type := 74, pos := "disk.go:203", after := #[{ on := 3, ground := Go.Ground.data }], guard := none }) rfl (fun K hK => ?_) ?_
      go_simp
      refine hK.out _ _ (⟨p02, p12, p22⟩) (fun hHeld => ?_)
      clear hK K
      try simp only [Act.put, List.setIfInBounds_toArray, List.set_cons_zero, List.set_cons_succ]
      refine wpAnyH_ready (rs := [6]) (by kernel_rfl) (by simp) ?_
      refine AllReadyH.cons (o := { dst := some 39, op := Go.Op.buildSlice 74 1 #[(0, Go.Operand.tmp 38)], type := 74, pos := "disk.go:203", after := #[{ on := 5, ground := Go.Ground.data }], guard := none }) rfl (fun K hK => ?_) AllReadyH.nil
      go_simp
      obtain ⟨wA, hwA⟩ : ∃ wA, w2.alloc (.cells #[.string (str f.s), .slice A4 m c4, .int .i64 (f.l : Int)] 78) = wA := ⟨_, rfl⟩
      rw [hwA]
      have bA : Below w2.heap.size w2 wA := by rw [← hwA]; exact below_refl_alloc _ _
      have p0A : wA.cell? ⟨p, 0, none⟩ = some (.string (str f.s)) := (bA.cell (p := ⟨p, 0, none⟩) hpl).trans p02
      have p1A : wA.cell? ⟨p, 1, none⟩ = some (.slice A4 m c4) := (bA.cell (p := ⟨p, 1, none⟩) hpl).trans p12
      have p2A : wA.cell? ⟨p, 2, none⟩ = some (.int .i64 (f.l : Int)) := (bA.cell (p := ⟨p, 2, none⟩) hpl).trans p22
      have c1A : wA.cell? ⟨ro, 1, none⟩ = some (.slice Y.A i Y.c) := (bA.cell (p := ⟨ro, 1, none⟩) hrol).trans c12
      refine hK.out _ _ (⟨p0A, p1A, p2A⟩) (fun hHeld => ?_)
      clear hK K
      try simp only [Act.put, List.setIfInBounds_toArray, List.set_cons_zero, List.set_cons_succ]
      refine wpAnyH_ready (rs := [7]) (by kernel_rfl) (by simp) ?_
      refine AllReadyH.cons (o := { dst := some 40, op := Go.Op.call { callee := Go.Callee.builtin Go.Builtin.append, args := #[Go.Operand.tmp 37, Go.Operand.tmp 39], argTypes := #[74, 74] }, type := 74, pos := "disk.go:203", after := #[{ on := 4, ground := Go.Ground.data }, { on := 6, ground := Go.Ground.data }], guard := none }) rfl (fun K hK => ?_) AllReadyH.nil
      rw [if_pos (by rfl)]
      refine wpF_append_g (.tmp 37) (.tmp 39) rfl w.heap.size (.slice Y.A i Y.c) i Y.L rfl (by have h9 := (HY2.out.below bA).row; unfold RDS.v at h9; rw [HLY.out] at h9; exact h9) (w2.heap.size + 1) (some ⟨w2.heap.size, 0, none⟩) 1 1 [f4] rfl (by rw [← hwA, HLITF.out w2]; exact Rd.lit_file w2 f4 78) (i + 1) (Y.L ++ [f4]) rfl rfl (by omega) (by have h8 := bA.size; have h9 := HY2.out.base_le; omega) ?_
      intro A7 c7 w7 o7 g7 hc7 hm7
      have e7 : (Value.slice Y.A i Y.c).ownBlock = Y.v.ownBlock := by unfold RDS.v; rw [HLY.out]
      rw [e7] at g7
      have p07 : w7.cell? ⟨p, 0, none⟩ = some (.string (str f.s)) := (World.cell?_of_block (g7.block p (Nat.lt_of_lt_of_le hpl bA.size) hpY.out)).trans p0A
      have p17 : w7.cell? ⟨p, 1, none⟩ = some (.slice A4 m c4) := (World.cell?_of_block (g7.block p (Nat.lt_of_lt_of_le hpl bA.size) hpY.out)).trans p1A
      have p27 : w7.cell? ⟨p, 2, none⟩ = some (.int .i64 (f.l : Int)) := (World.cell?_of_block (g7.block p (Nat.lt_of_lt_of_le hpl bA.size) hpY.out)).trans p2A
      have hroY : some ro ≠ Y.v.ownBlock := fun e => HY2.out.ne_rv e.symm rfl
      have b7ro : Blk w7 ro (rdcells Y) 76 := (g7.block ro (Nat.lt_of_lt_of_le hrol bA.size) hroY).trans ((HY2.out.below bA).cell)
      have c17 : w7.cell? ⟨ro, 1, none⟩ = some Y.v := b7ro.cell 1
      have fz7 : w7.frozen? ⟨ro, 1, none⟩ = false := b7ro.free 1
      refine hK.out _ _ (⟨p07, p17, p27⟩) (fun hHeld => ?_)
      clear hK K
      try simp only [Act.put, List.setIfInBounds_toArray, List.set_cons_zero, List.set_cons_succ]
      refine wpAnyH_take (i := 8) (oi := { dst := some 41, op := Go.Op.nilCheck (Go.Operand.tmp 33), type := 0, pos := "disk.go:203", after := #[{ on := 0, ground := Go.Ground.data }, { on := 0, ground := Go.Ground.phase }, { on := 1, ground := Go.Ground.phase }, { on := 2, ground := Go.Ground.phase }, { on := 3, ground := Go.Ground.phase }, { on := 4, ground := Go.Ground.phase }, { on := 5, ground := Go.Ground.phase }, { on := 6, ground := Go.Ground.phase }, { on := 7, ground := Go.Ground.phase }], guard := none }) (v := ?_) rfl (by kernel_rfl) (by kernel_rfl) (by kernel_rfl) (fun _ _ _ h => h) (Or.inl ⟨by rfl, ?_⟩) (by assumption) ?_
      rotate_left
      · (intro w hSw; (try dsimp only at hSw); go_simp; try with_reducible rfl)
      try simp only [Act.put, List.setIfInBounds_toArray, List.set_cons_zero, List.set_cons_succ]
      refine wpAnyH_take (i := 9) (oi := { dst := some 42, op := Go.Op.fieldAddr 76 (Go.Operand.tmp 41) 1, type := 0, pos := "disk.go:203", after := #[{ on := 8, ground := Go.Ground.data }, { on := 0, ground := Go.Ground.phase }, { on := 1, ground := Go.Ground.phase }, { on := 2, ground := Go.Ground.phase }, { on := 3, ground := Go.Ground.phase }, { on := 4, ground := Go.Ground.phase }, { on := 5, ground := Go.Ground.phase }, { on := 6, ground := Go.Ground.phase }, { on := 7, ground := Go.Ground.phase }], guard := none }) (v := ?_) rfl (by kernel_rfl) (by kernel_rfl) (by kernel_rfl) (fun _ _ _ h => h) (Or.inl ⟨by rfl, ?_⟩) (by assumption) ?_
      rotate_left
      · (intro w hSw; (try dsimp only at hSw); go_simp; try with_reducible rfl)
      try simp only [Act.put, List.setIfInBounds_toArray, List.set_cons_zero, List.set_cons_succ]
      refine wpAnyH_ready (rs := [10]) (by kernel_rfl) (by simp) ?_
      refine AllReadyH.cons (o := { dst := none, op := Go.Op.store 74 (Go.Operand.tmp 42) (Go.Operand.tmp 40), type := 0, pos := "disk.go:203", after := #[{ on := 9, ground := Go.Ground.data }, { on := 7, ground := Go.Ground.data }, { on := 7, ground := Go.Ground.chain }, { on := 0, ground := Go.Ground.phase }, { on := 1, ground := Go.Ground.phase }, { on := 2, ground := Go.Ground.phase }, { on := 3, ground := Go.Ground.phase }, { on := 4, ground := Go.Ground.phase }, { on := 5, ground := Go.Ground.phase }, { on := 6, ground := Go.Ground.phase }, { on := 7, ground := Go.Ground.phase }], guard := none }) rfl (fun K hK => ?_) AllReadyH.nil
      go_simp
      obtain ⟨wS, hwS⟩ : ∃ wS, w7.setCell ⟨ro, 1, none⟩ (.slice A7 (i + 1) c7) = wS := ⟨_, rfl⟩
      rw [hwS]
      have p0S : wS.cell? ⟨p, 0, none⟩ = some (.string (str f.s)) := by rw [← hwS]; exact (World.cell?_setCell_other _ _ _ _ (by simp [hpro])).trans p07
      have p1S : wS.cell? ⟨p, 1, none⟩ = some (.slice A4 m c4) := by rw [← hwS]; exact (World.cell?_setCell_other _ _ _ _ (by simp [hpro])).trans p17
      have p2S : wS.cell? ⟨p, 2, none⟩ = some (.int .i64 (f.l : Int)) := by rw [← hwS]; exact (World.cell?_setCell_other _ _ _ _ (by simp [hpro])).trans p27
      refine hK.out _ _ (⟨p0S, p1S, p2S⟩) (fun hHeld => ?_)
      clear hK K
      try simp only [Act.put, List.setIfInBounds_toArray, List.set_cons_zero, List.set_cons_succ]
      refine wpAnyH_done (by kernel_rfl) ?_ _
      rotate_left 1
      refine AllReadyH.cons (o := { dst := some 39, op := Go.Op.buildSlice 74 1 #[(0, Go.Operand.tmp 38)], type := 74, pos := "disk.go:203", after := #[{ on := 5, ground := Go.Ground.data }], guard := none }) rfl (fun K hK => ?_) AllReadyH.nil
      go_simp
      obtain ⟨wA, hwA⟩ : ∃ wA, w2.alloc (.cells #[.string (str f.s), .slice A4 m c4, .int .i64 (f.l : Int)] 78) = wA := ⟨_, rfl⟩
      rw [hwA]
      have bA : Below w2.heap.size w2 wA := by rw [← hwA]; exact below_refl_alloc _ _
      have p0A : wA.cell? ⟨p, 0, none⟩ = some (.string (str f.s)) := (bA.cell (p := ⟨p, 0, none⟩) hpl).trans p02
      have p1A : wA.cell? ⟨p, 1, none⟩ = some (.slice A4 m c4) := (bA.cell (p := ⟨p, 1, none⟩) hpl).trans p12
      have p2A : wA.cell? ⟨p, 2, none⟩ = some (.int .i64 (f.l : Int)) := (bA.cell (p := ⟨p, 2, none⟩) hpl).trans p22
      have c1A : wA.cell? ⟨ro, 1, none⟩ = some (.slice Y.A i Y.c) := (bA.cell (p := ⟨ro, 1, none⟩) hrol).trans c12
      refine hK.out _ _ (⟨p0A, p1A, p2A⟩) (fun hHeld => ?_)
      clear hK K
      try simp only [Act.put, List.setIfInBounds_toArray, List.set_cons_zero, List.set_cons_succ]
      refine wpAnyH_ready (rs := [4]) (by kernel_rfl) (by simp) ?_
      refine AllReadyH.cons (o := { dst := some 37, op := Go.Op.load 74 (Go.Operand.tmp 36), type := 74, pos := "disk.go:203", after := #[{ on := 3, ground := Go.Ground.data }], guard := none }) rfl (fun K hK => ?_) AllReadyH.nil
      go_simp
      refine hK.out _ _ (⟨p0A, p1A, p2A⟩) (fun hHeld => ?_)
      clear hK K
      try simp only [Act.put, List.setIfInBounds_toArray, List.set_cons_zero, List.set_cons_succ]
      refine wpAnyH_ready (rs := [7]) (by kernel_rfl) (by simp) ?_
      refine AllReadyH.cons (o := { dst := some 40, op := Go.Op.call { callee := Go.Callee.builtin Go.Builtin.append, args := #[Go.Operand.tmp 37, Go.Operand.tmp 39], argTypes := #[74, 74] }, type := 74, pos := "disk.go:203", after := #[{ on := 4, ground := Go.Ground.data }, { on := 6, ground := Go.Ground.data }], guard := none }) rfl (fun K hK => ?_) AllReadyH.nil
      rw [if_pos (by rfl)]
      refine wpF_append_g (.tmp 37) (.tmp 39) rfl w.heap.size (.slice Y.A i Y.c) i Y.L rfl (by have h9 := (HY2.out.below bA).row; unfold RDS.v at h9; rw [HLY.out] at h9; exact h9) (w2.heap.size + 1) (some ⟨w2.heap.size, 0, none⟩) 1 1 [f4] rfl (by rw [← hwA, HLITF.out w2]; exact Rd.lit_file w2 f4 78) (i + 1) (Y.L ++ [f4]) rfl rfl (by omega) (by have h8 := bA.size; have h9 := HY2.out.base_le; omega) ?_
      intro A7 c7 w7 o7 g7 hc7 hm7
      have e7 : (Value.slice Y.A i Y.c).ownBlock = Y.v.ownBlock := by unfold RDS.v; rw [HLY.out]
      rw [e7] at g7
      have p07 : w7.cell? ⟨p, 0, none⟩ = some (.string (str f.s)) := (World.cell?_of_block (g7.block p (Nat.lt_of_lt_of_le hpl bA.size) hpY.out)).trans p0A
      have p17 : w7.cell? ⟨p, 1, none⟩ = some (.slice A4 m c4) := (World.cell?_of_block (g7.block p (Nat.lt_of_lt_of_le hpl bA.size) hpY.out)).trans p1A
      have p27 : w7.cell? ⟨p, 2, none⟩ = some (.int .i64 (f.l : Int)) := (World.cell?_of_block (g7.block p (Nat.lt_of_lt_of_le hpl bA.size) hpY.out)).trans p2A
      have hroY : some ro ≠ Y.v.ownBlock := fun e => HY2.out.ne_rv e.symm rfl
      have b7ro : Blk w7 ro (rdcells Y) 76 := (g7.block ro (Nat.lt_of_lt_of_le hrol bA.size) hroY).trans ((HY2.out.below bA).cell)
      have c17 : w7.cell? ⟨ro, 1, none⟩ = some Y.v := b7ro.cell 1
      have fz7 : w7.frozen? ⟨ro, 1, none⟩ = false := b7ro.free 1
      refine hK.out _ _ (⟨p07, p17, p27⟩) (fun hHeld => ?_)
      clear hK K
      try simp only [Act.put, List.setIfInBounds_toArray, List.set_cons_zero, List.set_cons_succ]
      refine wpAnyH_take (i := 8) (oi := { dst := some 41, op := Go.Op.nilCheck (Go.Operand.tmp 33), type := 0, pos := "disk.go:203", after := #[{ on := 0, ground := Go.Ground.data }, { on := 0, ground := Go.Ground.phase }, { on := 1, ground := Go.Ground.phase }, { on := 2, ground := Go.Ground.phase }, { on := 3, ground := Go.Ground.phase }, { on := 4, ground := Go.Ground.phase }, { on := 5, ground := Go.Ground.phase }, { on := 6, ground := Go.Ground.phase }, { on := 7, ground := Go.Ground.phase }], guard := none }) (v := ?_) rfl (by kernel_rfl) (by kernel_rfl) (by kernel_rfl) (fun _ _ _ h => h) (Or.inl ⟨by rfl, ?_⟩) (by assumption) ?_
      rotate_left
      · (intro w hSw; (try dsimp only at hSw); go_simp; try with_reducible rfl)
      try simp only [Act.put, List.setIfInBounds_toArray, List.set_cons_zero, List.set_cons_succ]
      refine wpAnyH_take (i := 9) (oi := { dst := some 42, op := Go.Op.fieldAddr 76 (Go.Operand.tmp 41) 1, type := 0, pos := "disk.go:203", after := #[{ on := 8, ground := Go.Ground.data }, { on := 0, ground := Go.Ground.phase }, { on := 1, ground := Go.Ground.phase }, { on := 2, ground := Go.Ground.phase }, { on := 3, ground := Go.Ground.phase }, { on := 4, ground := Go.Ground.phase }, { on := 5, ground := Go.Ground.phase }, { on := 6, ground := Go.Ground.phase }, { on := 7, ground := Go.Ground.phase }], guard := none }) (v := ?_) rfl (by kernel_rfl) (by kernel_rfl) (by kernel_rfl) (fun _ _ _ h => h) (Or.inl ⟨by rfl, ?_⟩) (by assumption) ?_
      rotate_left
      · (intro w hSw; (try dsimp only at hSw); go_simp; try with_reducible rfl)
      try simp only [Act.put, List.setIfInBounds_toArray, List.set_cons_zero, List.set_cons_succ]
      refine wpAnyH_ready (rs := [10]) (by kernel_rfl) (by simp) ?_
      refine AllReadyH.cons (o := { dst := none, op := Go.Op.store 74 (Go.Operand.tmp 42) (Go.Operand.tmp 40), type := 0, pos := "disk.go:203", after := #[{ on := 9, ground := Go.Ground.data }, { on := 7, ground := Go.Ground.data }, { on := 7, ground := Go.Ground.chain }, { on := 0, ground := Go.Ground.phase }, { on := 1, ground := Go.Ground.phase }, { on := 2, ground := Go.Ground.phase }, { on := 3, ground := Go.Ground.phase }, { on := 4, ground := Go.Ground.phase }, { on := 5, ground := Go.Ground.phase }, { on := 6, ground := Go.Ground.phase }, { on := 7, ground := Go.Ground.phase }], guard := none }) rfl (fun K hK => ?_) AllReadyH.nil
      go_simp
      obtain ⟨wS, hwS⟩ : ∃ wS, w7.setCell ⟨ro, 1, none⟩ (.slice A7 (i + 1) c7) = wS := ⟨_, rfl⟩
      rw [hwS]
      have p0S : wS.cell? ⟨p, 0, none⟩ = some (.string (str f.s)) := by rw [← hwS]; exact (World.cell?_setCell_other _ _ _ _ (by simp [hpro])).trans p07
      have p1S : wS.cell? ⟨p, 1, none⟩ = some (.slice A4 m c4) := by rw [← hwS]; exact (World.cell?_setCell_other _ _ _ _ (by simp [hpro])).trans p17
      have p2S : wS.cell? ⟨p, 2, none⟩ = some (.int .i64 (f.l : Int)) := by rw [← hwS]; exact (World.cell?_setCell_other _ _ _ _ (by simp [hpro])).trans p27
      refine hK.out _ _ (⟨p0S, p1S, p2S⟩) (fun hHeld => ?_)
      clear hK K
      try simp only [Act.put, List.setIfInBounds_toArray, List.set_cons_zero, List.set_cons_succ]
      refine wpAnyH_done (by kernel_rfl) ?_ _
      all_goals (
        clear hHeld
        have hYn := (HY2.out.below bA).snoc g7 (f := f4) (by rw [HLY.out]; exact o7) ⟨HR4.out.1.keep fun q hq => bA.block q (HR4.out.1.lt hq), HR4.out.2⟩ HBY.out hwS (by rw [HLY.out]) (by have h9 := HUS.out; exact h9) (by rw [HLY.out]; omega)
        have hbS : Below w.heap.size w wS := by
          have h1 : Below w.heap.size wA w7 := ⟨g7.os, g7.tape, g7.output, g7.size, fun q hq => g7.block q (by have := HB2.out.size; have := bA.size; omega) (fun e => by have := (HY2.out.ge q (rbl_v e.symm)).1; omega)⟩
          have h2 : Below w.heap.size w w7 := (HB2.out.trans (bA.mono HB2.out.size)).trans h1
          rw [← hwS]
          exact ⟨h2.os, h2.tape, h2.output, by simpa using h2.size, fun q hq => (Below.heap_setCell _ _ _ _ (show q ≠ ro from fun e => by have := (HY2.out.ge ro (rbl_r ro Y)).1; omega)).trans (h2.block q hq)⟩
        have HYN := Lib.hid (And.intro hYn hbS)
        clear hYn hbS hwS fz7 c17 b7ro hroY p07 p17 p27 p0S p1S p2S g7 o7 bA p0A p1A p2A c1A hwA e7
        go_wp2_with fail
        go_roundw
        case rel => exact ⟨i + 1, { Y with A := A7, c := c7, L := Y.L ++ [f4] }, by omega, by go_num, HYN.out.1, HYN.out.2, HAB.out.1 A7 c7, HAB.out.2.1, HAB.out.2.2⟩
        case measure => simp [intOf]; omega)
    · have hin : i = n := by omega
      have c1 : wr.cell? ⟨r, 1, none⟩ = some (.slice X.A n X.c) := by have h9 := hd.cell; unfold rdcells RDS.v at h9; have h8 := h9.cell 1; rw [← HN.out] at h8; exact h8
      have q3 : decide ((i : Int) < (n : Int)) = false := decide_eq_false (by omega)
      clear hd
      go_wp2_with fail
      go_ret
      refine ⟨ro, Y, rfl, HRY.out, HLF.out, ?_, HY.out, HB.out⟩
      rw [HAY.out, List.take_of_length_le (by rw [← HN.out]; omega)]
end Go.Proofs.Ytcoimlenejffpaa
