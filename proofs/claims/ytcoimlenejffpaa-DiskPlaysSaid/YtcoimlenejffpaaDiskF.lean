/- disk: New, Read, Fuse, Sync. -/
import Derived.Test.YtcoimlenejffpaaDiskE
import Derived.Test.YtcoimlenejffpaaClone
namespace Go.Proofs.Ytcoimlenejffpaa
set_option linter.all false
open Go.RowKit
def newS (room m : Nat) : DS := ⟨room, m, false, 0, []⟩
theorem below_refl_alloc (w : World) (o : Obj) : Below w.heap.size w (w.alloc o) := (Below.refl _ _).alloc (Nat.le_refl _) o
theorem dw_new (w : World) (room : Nat) (hr : room ≤ 1073741824) : DW ((w.alloc (.map #[] 0)).alloc (.cells #[.int .i64 (room : Int), .map (some w.heap.size), .bool false, .int .i64 0] 59)) w.heap.size (w.heap.size + 1) (newS room w.heap.size) where
  cell := by
    have h := Blk.new (w.alloc (.map #[] 0)) #[.int .i64 (room : Int), .map (some w.heap.size), .bool false, .int .i64 0] 59
    rw [show (w.alloc (.map #[] 0)).heap.size = w.heap.size + 1 by simp] at h
    exact h
  map := owns_block (World.ownsMap_made w Try.prog 9 ptrR) (heap_alloc_old _ _ (by simp [newS]))
  file := fun e he => by simp [newS] at he
  nodup := by simp [DS.bl, newS]
  ge := fun i hi => by
    have : i = w.heap.size + 1 ∨ i = w.heap.size := by simpa [DS.bl, newS] using hi
    simp
    omega
  room := ⟨by simp [DS.used, newS], hr⟩
  few := by simp [newS]
  left := by simp [newS]
set_option maxRecDepth 100000 in
set_option maxHeartbeats 1600000 in
theorem new_any (room : Nat) (hr : room ≤ 1073741824) (w : World) :
    Calls Try.prog 10 #[.int .i64 (room : Int)] w (fun e w' => ∃ d m, e = .returned (.tuple #[.pointer (some ⟨d, 0, none⟩), .int .i64 0]) ∧ DW w' w.heap.size d (newS room m) ∧ Below w.heap.size w w') := by
  have hmm := @run_makeMap Try.prog
  have q1 : decide ((room : Int) < 0) = false := decide_eq_false (by omega)
  have q2 : decide (1073741824 < (room : Int)) = false := decide_eq_false (by omega)
  go_enter Try.func10, Try.ntmps10
  go_wp2_with fail
  go_ret2
  exact ⟨_, _, rfl, dw_new w room hr, (below_refl_alloc w _).trans ((Below.refl _ _).alloc (by simp) _)⟩
/-- Behind Read of a file that is there. -/
def RetRead (b : List UInt8) (w : World) (en : Ending) (w' : World) : Prop :=
  ∃ A c, en = .returned (.tuple #[.slice A b.length c, .int .i64 0]) ∧ w'.ownsRow w.heap.size 5 1 (.slice A b.length c) b.length (b.map bv) ∧ Below w.heap.size w w' ∧ b.length ≤ c ∧ c ≤ 9223372036854775807
set_option maxRecDepth 100000 in
set_option maxHeartbeats 1600000 in
theorem read_none (base d : Nat) (S : DS) (w : World) (h : DW w base d S) (s : List UInt8) (hs : s.length ≤ 140737488351232) (he : getE s S.E = none) :
    Calls Try.prog 14 #[.pointer (some ⟨d, 0, none⟩), .string (str s)] w (RetS (.tuple #[.slice none 0 0, .int .i64 7]) w) := by
  have hlk := look_run h s hs
  rw [he] at hlk
  have hlk2 : (Instr.lookup 57 (.map (some S.m)) (.string (str s)) false).run Try.prog w = .ok (.pointer none) w := hlk
  have hc := h.cell
  unfold dcells at hc
  have c1 : w.cell? ⟨d, 1, none⟩ = some (.map (some S.m)) := hc.cell 1
  clear hc h he hlk
  go_enter Try.func14, Try.ntmps14
  go_wp2_with fail
  go_ret2
  exact ⟨rfl, rfl⟩
set_option maxRecDepth 100000 in
set_option maxHeartbeats 1600000 in
theorem read_some (base d : Nat) (S : DS) (w : World) (h : DW w base d S) (s : List UInt8) (hs : s.length ≤ 140737488351232) (e : FE) (he : getE s S.E = some e) :
    Calls Try.prog 14 #[.pointer (some ⟨d, 0, none⟩), .string (str s)] w (RetRead e.b w) := by
  have hlk := look_run h s hs
  rw [he] at hlk
  have hlk2 : (Instr.lookup 57 (.map (some S.m)) (.string (str s)) false).run Try.prog w = .ok (.pointer (some ⟨e.g, 0, none⟩)) w := hlk
  have hc := h.cell
  unfold dcells at hc
  have c1 : w.cell? ⟨d, 1, none⟩ = some (.map (some S.m)) := hc.cell 1
  obtain ⟨f1, f2, f3⟩ := h.file e (getE_mem he).1
  have hle := mem_le_sum (getE_mem he).1
  have hro := h.room
  obtain ⟨A, c, hv, _, _⟩ := f2.form
  rw [hv] at f1 f2
  have g0 : w.cell? ⟨e.g, 0, none⟩ = some (.slice A e.b.length c) := f1.cell 0
  have HC := Lib.hid (clone_any A e.b.length c e.b w f2.bs (by unfold DS.used at hro; omega))
  generalize hn : e.b.length = n at *
  have HN := Lib.hid hn
  clear hc h he hlk f1 f2 f3 hn
  go_enter Try.func14, Try.ntmps14
  go_wp2_with fail
  refine (unhide3 HC).mono ?_
  rintro en w1 ⟨A1, c1', rfl, o1, b1, h1, h2⟩
  go_wp2_with fail
  go_ret2
  unfold RetRead
  rw [HN.out]
  exact ⟨A1, c1', rfl, o1, b1, h1, h2⟩
def fuseS (S : DS) (n : Int) : DS := { S with fused := decide (0 ≤ n), left := n.toNat }
theorem Blk.set2 {w : World} {g : Nat} {cs : Array Value} {T : TypeId} (h : Blk w g cs T) (o o2 : Nat) (v v2 : Value) : Blk ((w.setCell ⟨g, o, none⟩ v).setCell ⟨g, o2, none⟩ v2) g ((cs.setIfInBounds o v).setIfInBounds o2 v2) T := (h.set o v).set o2 v2
set_option maxRecDepth 100000 in
set_option maxHeartbeats 1600000 in
theorem fuse_any (base d : Nat) (S : DS) (w : World) (h : DW w base d S) (n : Int) (h1 : -9223372036854775808 ≤ n) (h2 : n ≤ 9223372036854775807) :
    Calls Try.prog 17 #[.pointer (some ⟨d, 0, none⟩), .int .i64 n] w (fun e w' => e = .returned (.tuple #[]) ∧ DW w' base d (fuseS S n) ∧ Turn [d] w w') := by
  have hc := h.cell
  have HC := Lib.hid hc
  unfold dcells at hc
  have c2 : w.cell? ⟨d, 2, none⟩ = some (.bool S.fused) := hc.cell 2
  have c3 : w.cell? ⟨d, 3, none⟩ = some (.int .i64 (S.left : Int)) := hc.cell 3
  have f2 := hc.free 2
  have f3 := hc.free 3
  have H := Lib.hid h
  clear hc h
  have key : ∀ (b1 : Bool) (l1 : Nat), fuseS S n = { S with fused := b1, left := l1 } → l1 ≤ 9223372036854775807 → DW ((w.setCell ⟨d, 2, none⟩ (.bool b1)).setCell ⟨d, 3, none⟩ (.int .i64 (l1 : Int))) base d (fuseS S n) ∧ Turn [d] w ((w.setCell ⟨d, 2, none⟩ (.bool b1)).setCell ⟨d, 3, none⟩ (.int .i64 (l1 : Int))) := by
    intro b1 l1 e hl
    have ht : Turn [d] w ((w.setCell ⟨d, 2, none⟩ (.bool b1)).setCell ⟨d, 3, none⟩ (.int .i64 (l1 : Int))) := (Turn.set (.inl (by simp))).trans (Turn.set (B := [d]) (.inl (by simp))) (fun i hi => .inl hi)
    refine ⟨?_, ht⟩
    rw [e]
    exact H.out.set_d rfl rfl rfl hl (Blk.set2 HC.out 2 3 _ _) ht
  rcases Int.lt_or_le n 0 with hn | hn
  · have d1 : decide (n ≥ 0) = false := decide_eq_false (by omega)
    have K1 : Hid (DW ((w.setCell ⟨d, 2, none⟩ (.bool false)).setCell ⟨d, 3, none⟩ (.int .i64 0)) base d (fuseS S n) ∧ Turn [d] w ((w.setCell ⟨d, 2, none⟩ (.bool false)).setCell ⟨d, 3, none⟩ (.int .i64 0))) := key false 0 (by unfold fuseS; rw [decide_eq_false (by omega), show n.toNat = 0 by omega]) (by omega)
    clear key
    go_enter Try.func17, Try.ntmps17
    go_wp2_with fail
    go_end0
    exact ⟨rfl, K1.out⟩
  · have d1 : decide (n ≥ 0) = true := decide_eq_true (by omega)
    obtain ⟨k, rfl⟩ : ∃ k : Nat, n = (k : Int) := ⟨n.toNat, by omega⟩
    have K1 := Lib.hid (key true k (by unfold fuseS; rw [decide_eq_true (by omega), Int.toNat_natCast]) (by omega))
    clear key
    go_enter Try.func17, Try.ntmps17
    go_wp2_with fail
    · go_end0
      exact ⟨rfl, K1.out⟩
    · have : k = 0 := by omega
      subst this
      go_end0
      exact ⟨rfl, K1.out⟩
def syncS (S : DS) (s : List UInt8) (e : FE) : DS := burnS (setF S s ⟨e.s, e.g, e.v, e.b, e.b.length⟩)
def SyncR (S : DS) (s : List UInt8) (code : Nat) (S' : DS) : Prop :=
  (mayE S [s] ≠ 0 ∧ code = mayE S [s] ∧ S' = S) ∨ (mayE S [s] = 0 ∧ getE s S.E = none ∧ code = 7 ∧ S' = S) ∨ (mayE S [s] = 0 ∧ ∃ e, getE s S.E = some e ∧ code = 0 ∧ S' = syncS S s e)
set_option maxRecDepth 100000 in
set_option maxHeartbeats 3200000 in
theorem sync_bad (base d : Nat) (S : DS) (w : World) (h : DW w base d S) (s : List UInt8) (hs : s.length ≤ 140737488351232) (e0 : Nat) (h0 : mayE S [s] = e0) (he0 : ((e0 : Int) != 0) = true) :
    Calls Try.prog 12 #[.pointer (some ⟨d, 0, none⟩), .string (str s)] w (RetD base d S (SyncR S s) w) := by
  generalize hW : w.alloc (.cells #[.string (str s)] 9) = W
  have hb0 : Below w.heap.size w W := by rw [← hW]; exact (Below.refl _ _).alloc (Nat.le_refl _) _
  have hW1 : DW W base d S := h.below hb0
  have hrd : Rd W W.heap.size 1 (some ⟨w.heap.size, 0, none⟩) 1 ([s].map sv) := by rw [← hW]; simpa [sv] using Rd.one_new w (.string (str s)) 9
  have hmay := may_any base d S W hW1 (some ⟨w.heap.size, 0, none⟩) 1 1 [s] hrd (by omega) (by intro x hx; simp at hx; subst hx; exact hs)
  rw [h0] at hmay
  have HMAY := Lib.hid hmay
  have H1 := Lib.hid hW1
  have HB0 := Lib.hid hb0
  have hz : e0 ≠ 0 := by intro e; subst e; simp at he0
  have H0 := Lib.hid h0
  have HZ := Lib.hid hz
  clear h hW1 hmay hb0 h0 hrd hz
  go_enter Try.func12, Try.ntmps12
  go_wp2_with fail
  refine (unhide3 HMAY).mono ?_
  rintro en w1 ⟨rfl, rfl⟩
  go_wp2_with fail
  go_ret
  refine ⟨e0, S, rfl, .inl ⟨by rw [H0.out]; exact HZ.out, H0.out.symm, rfl⟩, H1.out, Turn.of_below HB0.out, fun i hi => .inl hi⟩
set_option maxRecDepth 100000 in
set_option maxHeartbeats 3200000 in
theorem sync_none (base d : Nat) (S : DS) (w : World) (h : DW w base d S) (s : List UInt8) (hs : s.length ≤ 140737488351232) (h0 : mayE S [s] = 0) (he : getE s S.E = none) :
    Calls Try.prog 12 #[.pointer (some ⟨d, 0, none⟩), .string (str s)] w (RetD base d S (SyncR S s) w) := by
  generalize hW : w.alloc (.cells #[.string (str s)] 9) = W
  have hb0 : Below w.heap.size w W := by rw [← hW]; exact (Below.refl _ _).alloc (Nat.le_refl _) _
  have hW1 : DW W base d S := h.below hb0
  have hrd : Rd W W.heap.size 1 (some ⟨w.heap.size, 0, none⟩) 1 ([s].map sv) := by rw [← hW]; simpa [sv] using Rd.one_new w (.string (str s)) 9
  have hmay := may_any base d S W hW1 (some ⟨w.heap.size, 0, none⟩) 1 1 [s] hrd (by omega) (by intro x hx; simp at hx; subst hx; exact hs)
  rw [h0] at hmay
  have HMAY := Lib.hid hmay
  have H1 := Lib.hid hW1
  have HB0 := Lib.hid hb0
  have hlook := look_run hW1 s hs
  rw [he] at hlook
  have hlk : (Instr.lookup 57 (.map (some S.m)) (.string (str s)) false).run Try.prog W = .ok (.pointer none) W := hlook
  have hcc := hW1.cell
  unfold dcells at hcc
  have c1 : W.cell? ⟨d, 1, none⟩ = some (.map (some S.m)) := hcc.cell 1
  have H0 := Lib.hid h0
  have HE := Lib.hid he
  clear h hW1 hcc hmay hlook hb0 h0 he hrd
  go_enter Try.func12, Try.ntmps12
  go_wp2_with fail
  refine (unhide3 HMAY).mono ?_
  rintro en w1 ⟨rfl, rfl⟩
  go_wp2_with fail
  go_ret
  refine ⟨7, S, rfl, .inr (.inl ⟨H0.out, HE.out, rfl, rfl⟩), H1.out, Turn.of_below HB0.out, fun i hi => .inl hi⟩
set_option maxRecDepth 100000 in
set_option maxHeartbeats 3200000 in
theorem sync_old (base d : Nat) (S : DS) (w : World) (h : DW w base d S) (s : List UInt8) (hs : s.length ≤ 140737488351232) (h0 : mayE S [s] = 0) (e : FE) (he : getE s S.E = some e) :
    Calls Try.prog 12 #[.pointer (some ⟨d, 0, none⟩), .string (str s)] w (RetD base d S (SyncR S s) w) := by
  generalize hW : w.alloc (.cells #[.string (str s)] 9) = W
  have hb0 : Below w.heap.size w W := by rw [← hW]; exact (Below.refl _ _).alloc (Nat.le_refl _) _
  have hW1 : DW W base d S := h.below hb0
  have hrd : Rd W W.heap.size 1 (some ⟨w.heap.size, 0, none⟩) 1 ([s].map sv) := by rw [← hW]; simpa [sv] using Rd.one_new w (.string (str s)) 9
  have hmay := may_any base d S W hW1 (some ⟨w.heap.size, 0, none⟩) 1 1 [s] hrd (by omega) (by intro x hx; simp at hx; subst hx; exact hs)
  rw [h0] at hmay
  have HMAY := Lib.hid hmay
  have H1 := Lib.hid hW1
  have HB0 := Lib.hid hb0
  have hlook := look_run hW1 s hs
  rw [he] at hlook
  have hlk : (Instr.lookup 57 (.map (some S.m)) (.string (str s)) false).run Try.prog W = .ok (.pointer (some ⟨e.g, 0, none⟩)) W := hlook
  have hcc := hW1.cell
  unfold dcells at hcc
  have c1 : W.cell? ⟨d, 1, none⟩ = some (.map (some S.m)) := hcc.cell 1
  obtain ⟨hem, hes⟩ := getE_mem he
  obtain ⟨f1, f2, f3⟩ := hW1.file e hem
  have hle : e.b.length ≤ S.used := mem_le_sum hem
  have hro := h.room
  obtain ⟨A, c, hv, _, _⟩ := f2.form
  have g0 : W.cell? ⟨e.g, 0, none⟩ = some (.slice A e.b.length c) := by rw [← hv]; exact f1.cell 0
  have g1 : W.cell? ⟨e.g, 1, none⟩ = some (.int .u32 (e.l : Int)) := f1.cell 1
  have gf : W.frozen? ⟨e.g, 1, none⟩ = false := f1.free 1
  have hwr : IntKind.u32.wrap (e.b.length : Int) = (e.b.length : Int) := by rw [IntKind.wrap_u32']; omega
  have HF := Lib.hid (And.intro f1 (And.intro f2 f3))
  have H0 := Lib.hid h0
  have HE := Lib.hid he
  have hs1 : ∀ W4, W.setCell ⟨e.g, 1, none⟩ (.int .u32 (e.b.length : Int)) = W4 → (DW W4 base d (setF S s ⟨e.s, e.g, e.v, e.b, e.b.length⟩) ∧ ∀ i ∈ (setF S s ⟨e.s, e.g, e.v, e.b, e.b.length⟩).bl d, i ∈ S.bl d ∨ W.heap.size ≤ i) ∧ Turn e.bl W W4 := by
    intro W4 hW4
    subst hW4
    have ht : Turn e.bl W (W.setCell ⟨e.g, 1, none⟩ (.int .u32 (e.b.length : Int))) := Turn.set (.inl (by simp [FE.bl]))
    refine ⟨H1.out.set_file (e' := ⟨e.s, e.g, e.v, e.b, e.b.length⟩) HE.out rfl rfl ht ⟨Blk.set f1 1 _, f2.keep fun i hi => Below.heap_setCell _ _ _ _ (fun h2 => hne_v H1.out hem (by rw [hi, h2])), Nat.le_refl _⟩ (.inl rfl) (by simp only; omega), ht⟩
  have HS1 := Lib.hid hs1
  have HEM := Lib.hid hem
  generalize hnn : e.b.length = n at g0 hwr hle
  have HNN := Lib.hid hnn
  clear h hW1 hcc hmay hlook hb0 h0 he hrd f1 f2 f3 hv hs1 hem hes hnn
  go_enter Try.func12, Try.ntmps12
  go_wp2_with fail
  refine (unhide3 HMAY).mono ?_
  rintro en w1 ⟨rfl, rfl⟩
  go_wp2_with fail
  obtain ⟨W4, hW4⟩ : ∃ W4, W.setCell ⟨e.g, 1, none⟩ (.int .u32 (n : Int)) = W4 := ⟨_, rfl⟩
  rw [hW4]
  have hx := HS1.out W4 (by rw [HNN.out]; exact hW4)
  have hbn := burns_any base d _ W4 hx.1.1 (may_zero H0.out)
  have HBN := Lib.hid hbn
  have HX := Lib.hid hx
  clear hbn hx hW4
  refine (unhide3 HBN).mono ?_
  rintro en w5 ⟨rfl, d5, t5⟩
  go_wp2_with fail
  go_ret
  have hbl : ∀ i ∈ e.bl, i ∈ S.bl d := fun i hi => by
    unfold FE.bl at hi
    rcases List.mem_cons.1 hi with rfl | h1
    · exact bl_g HEM.out
    · exact bl_v HEM.out (by simpa using h1)
  refine ⟨0, _, rfl, .inr (.inr ⟨H0.out, e, HE.out, rfl, rfl⟩), d5, ?_, ?_⟩
  · have t1 : Turn (S.bl d) w W4 := (Turn.of_below HB0.out).trans HX.out.2 (fun i hi => .inl (hbl i hi))
    exact t1.trans t5 (fun i hi => .inl (by simp at hi; subst hi; exact bl_d _ _))
  · intro i hi
    unfold syncS at hi
    rw [burnS_bl] at hi
    rcases HX.out.1.2 i hi with h | h
    · exact .inl h
    · exact .inr (by have := HB0.out.size; omega)
theorem sync_any (base d : Nat) (S : DS) (w : World) (h : DW w base d S) (s : List UInt8) (hs : s.length ≤ 140737488351232) :
    Calls Try.prog 12 #[.pointer (some ⟨d, 0, none⟩), .string (str s)] w (RetD base d S (SyncR S s) w) := by
  rcases Nat.eq_zero_or_pos (mayE S [s]) with h0 | h0
  · rcases he : getE s S.E with _ | e
    · exact sync_none base d S w h s hs h0 he
    · exact sync_old base d S w h s hs h0 e he
  · exact sync_bad base d S w h s hs _ rfl (by simp; omega)
/-- Remove, of a file that is not there. -/
def RemN (S : DS) (s : List UInt8) (code : Nat) (S' : DS) : Prop :=
  (mayE S [s] ≠ 0 ∧ code = mayE S [s] ∧ S' = S) ∨ (mayE S [s] = 0 ∧ getE s S.E = none ∧ code = 7 ∧ S' = S)
set_option maxRecDepth 100000 in
set_option maxHeartbeats 3200000 in
theorem rem_bad (base d : Nat) (S : DS) (w : World) (h : DW w base d S) (s : List UInt8) (hs : s.length ≤ 140737488351232) (e0 : Nat) (h0 : mayE S [s] = e0) (he0 : ((e0 : Int) != 0) = true) :
    Calls Try.prog 18 #[.pointer (some ⟨d, 0, none⟩), .string (str s)] w (RetD base d S (RemN S s) w) := by
  generalize hW : w.alloc (.cells #[.string (str s)] 9) = W
  have hb0 : Below w.heap.size w W := by rw [← hW]; exact (Below.refl _ _).alloc (Nat.le_refl _) _
  have hW1 : DW W base d S := h.below hb0
  have hrd : Rd W W.heap.size 1 (some ⟨w.heap.size, 0, none⟩) 1 ([s].map sv) := by rw [← hW]; simpa [sv] using Rd.one_new w (.string (str s)) 9
  have hmay := may_any base d S W hW1 (some ⟨w.heap.size, 0, none⟩) 1 1 [s] hrd (by omega) (by intro x hx; simp at hx; subst hx; exact hs)
  rw [h0] at hmay
  have HMAY := Lib.hid hmay
  have H1 := Lib.hid hW1
  have HB0 := Lib.hid hb0
  have hz : e0 ≠ 0 := by intro e; subst e; simp at he0
  have H0 := Lib.hid h0
  have HZ := Lib.hid hz
  clear h hW1 hmay hb0 h0 hrd hz
  go_enter Try.func18, Try.ntmps18
  go_wp2_with fail
  refine (unhide3 HMAY).mono ?_
  rintro en w1 ⟨rfl, rfl⟩
  go_wp2_with fail
  go_ret
  refine ⟨e0, S, rfl, .inl ⟨by rw [H0.out]; exact HZ.out, H0.out.symm, rfl⟩, H1.out, Turn.of_below HB0.out, fun i hi => .inl hi⟩
set_option maxRecDepth 100000 in
set_option maxHeartbeats 3200000 in
theorem rem_none (base d : Nat) (S : DS) (w : World) (h : DW w base d S) (s : List UInt8) (hs : s.length ≤ 140737488351232) (h0 : mayE S [s] = 0) (he : getE s S.E = none) :
    Calls Try.prog 18 #[.pointer (some ⟨d, 0, none⟩), .string (str s)] w (RetD base d S (RemN S s) w) := by
  generalize hW : w.alloc (.cells #[.string (str s)] 9) = W
  have hb0 : Below w.heap.size w W := by rw [← hW]; exact (Below.refl _ _).alloc (Nat.le_refl _) _
  have hW1 : DW W base d S := h.below hb0
  have hrd : Rd W W.heap.size 1 (some ⟨w.heap.size, 0, none⟩) 1 ([s].map sv) := by rw [← hW]; simpa [sv] using Rd.one_new w (.string (str s)) 9
  have hmay := may_any base d S W hW1 (some ⟨w.heap.size, 0, none⟩) 1 1 [s] hrd (by omega) (by intro x hx; simp at hx; subst hx; exact hs)
  rw [h0] at hmay
  have HMAY := Lib.hid hmay
  have H1 := Lib.hid hW1
  have HB0 := Lib.hid hb0
  have hlook := look_run hW1 s hs
  rw [he] at hlook
  have hlk : (Instr.lookup 57 (.map (some S.m)) (.string (str s)) false).run Try.prog W = .ok (.pointer none) W := hlook
  have hcc := hW1.cell
  unfold dcells at hcc
  have c1 : W.cell? ⟨d, 1, none⟩ = some (.map (some S.m)) := hcc.cell 1
  have H0 := Lib.hid h0
  have HE := Lib.hid he
  clear h hW1 hcc hmay hlook hb0 h0 he hrd
  go_enter Try.func18, Try.ntmps18
  go_wp2_with fail
  refine (unhide3 HMAY).mono ?_
  rintro en w1 ⟨rfl, rfl⟩
  go_wp2_with fail
  go_ret
  refine ⟨7, S, rfl, .inr ⟨H0.out, HE.out, rfl, rfl⟩, H1.out, Turn.of_below HB0.out, fun i hi => .inl hi⟩
end Go.Proofs.Ytcoimlenejffpaa
