/- disk: Truncate. -/
import Derived.Test.YtcoimlenejffpaaDiskG
import Derived.Test.YtcoimlenejffpaaDiskH
namespace Go.Proofs.Ytcoimlenejffpaa
set_option linter.all false
open Go.RowKit
def truncE (e : FE) (k : Nat) : FE := ⟨e.s, e.g, cutV e.v k, e.b.take k, Nat.min e.l k⟩
def TruncR (S : DS) (s : List UInt8) (m : Int) (code : Nat) (S' : DS) : Prop :=
  (mayE S [s] ≠ 0 ∧ code = mayE S [s] ∧ S' = S) ∨ (mayE S [s] = 0 ∧ getE s S.E = none ∧ code = 7 ∧ S' = S) ∨
    (mayE S [s] = 0 ∧ ∃ e, getE s S.E = some e ∧ (((m < 0 ∨ (e.b.length : Int) < m) ∧ code = 1 ∧ S' = S) ∨ (0 ≤ m ∧ m ≤ (e.b.length : Int) ∧ code = 0 ∧ S' = burnS (setF S s (truncE e m.toNat)))))
set_option maxRecDepth 100000 in
set_option maxHeartbeats 3200000 in
theorem trunc_bad (base d : Nat) (S : DS) (w : World) (h : DW w base d S) (s : List UInt8) (hs : s.length ≤ 140737488351232) (m : Int) (m1 : -9223372036854775808 ≤ m) (m2 : m ≤ 9223372036854775807) (e0 : Nat) (h0 : mayE S [s] = e0) (he0 : ((e0 : Int) != 0) = true) :
    Calls Try.prog 28 #[.pointer (some ⟨d, 0, none⟩), .string (str s), .int .i64 m] w (RetD base d S (TruncR S s m) w) := by
  generalize hW : w.alloc (.cells #[.string (str s)] 9) = W
  have hb0 : Below w.heap.size w W := by rw [← hW]; exact (Below.refl _ _).alloc (Nat.le_refl _) _
  have hW1 : DW W base d S := h.below hb0
  have hrd : Rd W W.heap.size 1 (some ⟨w.heap.size, 0, none⟩) 1 ([s].map sv) := by rw [← hW]; simpa [sv] using Rd.lit_new w ([s].map sv) 9
  have hmay := may_any base d S W hW1 (some ⟨w.heap.size, 0, none⟩) 1 1 [s] hrd (by omega) (by intro x hx; simp at hx; subst hx; exact hs)
  rw [h0] at hmay
  have HMAY := Lib.hid hmay
  have H1 := Lib.hid hW1
  have HB0 := Lib.hid hb0
  have hz : e0 ≠ 0 := by intro e; subst e; simp at he0
  have H0 := Lib.hid h0
  have HZ := Lib.hid hz
  clear h hW1 hmay hb0 h0 hrd hz
  go_enter Try.func28, Try.ntmps28
  go_wp2_with fail
  refine (unhide3 HMAY).mono ?_
  rintro en w1 ⟨rfl, rfl⟩
  go_wp2_with fail
  go_ret
  refine ⟨e0, S, rfl, .inl ⟨by rw [H0.out]; exact HZ.out, H0.out.symm, rfl⟩, H1.out, Turn.of_below HB0.out, fun i hi => .inl hi⟩
set_option maxRecDepth 100000 in
set_option maxHeartbeats 3200000 in
theorem trunc_none (base d : Nat) (S : DS) (w : World) (h : DW w base d S) (s : List UInt8) (hs : s.length ≤ 140737488351232) (m : Int) (m1 : -9223372036854775808 ≤ m) (m2 : m ≤ 9223372036854775807) (h0 : mayE S [s] = 0) (he : getE s S.E = none) :
    Calls Try.prog 28 #[.pointer (some ⟨d, 0, none⟩), .string (str s), .int .i64 m] w (RetD base d S (TruncR S s m) w) := by
  generalize hW : w.alloc (.cells #[.string (str s)] 9) = W
  have hb0 : Below w.heap.size w W := by rw [← hW]; exact (Below.refl _ _).alloc (Nat.le_refl _) _
  have hW1 : DW W base d S := h.below hb0
  have hrd : Rd W W.heap.size 1 (some ⟨w.heap.size, 0, none⟩) 1 ([s].map sv) := by rw [← hW]; simpa [sv] using Rd.lit_new w ([s].map sv) 9
  have hmay := may_any base d S W hW1 (some ⟨w.heap.size, 0, none⟩) 1 1 [s] hrd (by omega) (by intro x hx; simp at hx; subst hx; exact hs)
  rw [h0] at hmay
  have HMAY := Lib.hid hmay
  have H1 := Lib.hid hW1
  have HB0 := Lib.hid hb0
  have hlook := look_run hW1 s (by assumption)
  rw [he] at hlook
  have hlk : (Instr.lookup 57 (.map (some S.m)) (.string (str s)) false).run Try.prog W = .ok (.pointer none) W := hlook
  have hcc := hW1.cell
  unfold dcells at hcc
  have c1 : W.cell? ⟨d, 1, none⟩ = some (.map (some S.m)) := hcc.cell 1
  have H0 := Lib.hid h0
  have HE := Lib.hid he
  clear h hW1 hcc hmay hlook hb0 h0 he hrd
  go_enter Try.func28, Try.ntmps28
  go_wp2_with fail
  refine (unhide3 HMAY).mono ?_
  rintro en w1 ⟨rfl, rfl⟩
  go_wp2_with fail
  go_ret
  refine ⟨7, S, rfl, .inr (.inl ⟨H0.out, HE.out, rfl, rfl⟩), H1.out, Turn.of_below HB0.out, fun i hi => .inl hi⟩
set_option maxRecDepth 100000 in
set_option maxHeartbeats 3200000 in
theorem trunc_neg (base d : Nat) (S : DS) (w : World) (h : DW w base d S) (s : List UInt8) (hs : s.length ≤ 140737488351232) (m : Int) (m1 : -9223372036854775808 ≤ m) (m2 : m ≤ 9223372036854775807) (h0 : mayE S [s] = 0) (e : FE) (he : getE s S.E = some e) (hm0 : m < 0) :
    Calls Try.prog 28 #[.pointer (some ⟨d, 0, none⟩), .string (str s), .int .i64 m] w (RetD base d S (TruncR S s m) w) := by
  generalize hW : w.alloc (.cells #[.string (str s)] 9) = W
  have hb0 : Below w.heap.size w W := by rw [← hW]; exact (Below.refl _ _).alloc (Nat.le_refl _) _
  have hW1 : DW W base d S := h.below hb0
  have hrd : Rd W W.heap.size 1 (some ⟨w.heap.size, 0, none⟩) 1 ([s].map sv) := by rw [← hW]; simpa [sv] using Rd.lit_new w ([s].map sv) 9
  have hmay := may_any base d S W hW1 (some ⟨w.heap.size, 0, none⟩) 1 1 [s] hrd (by omega) (by intro x hx; simp at hx; subst hx; exact hs)
  rw [h0] at hmay
  have HMAY := Lib.hid hmay
  have H1 := Lib.hid hW1
  have HB0 := Lib.hid hb0
  have hlook := look_run hW1 s (by assumption)
  rw [he] at hlook
  have hlk : (Instr.lookup 57 (.map (some S.m)) (.string (str s)) false).run Try.prog W = .ok (.pointer (some ⟨e.g, 0, none⟩)) W := hlook
  have hcc := hW1.cell
  unfold dcells at hcc
  have c1 : W.cell? ⟨d, 1, none⟩ = some (.map (some S.m)) := hcc.cell 1
  obtain ⟨hem, hes⟩ := getE_mem he
  obtain ⟨f1, f2, f3⟩ := hW1.file e hem
  have hle : e.b.length ≤ S.used := mem_le_sum hem
  have hro := h.room
  obtain ⟨A, c, hv, hcb, hcm⟩ := f2.form
  have g0 : W.cell? ⟨e.g, 0, none⟩ = some (.slice A e.b.length c) := by rw [← hv]; exact f1.cell 0
  have g1 : W.cell? ⟨e.g, 1, none⟩ = some (.int .u32 (e.l : Int)) := f1.cell 1
  have gf0 : W.frozen? ⟨e.g, 0, none⟩ = false := f1.free 0
  have gf1 : W.frozen? ⟨e.g, 1, none⟩ = false := f1.free 1
  have HF := Lib.hid (And.intro f1 (And.intro f2 f3))
  have H0 := Lib.hid h0
  have HE := Lib.hid he
  have HEM := Lib.hid hem
  have HV := Lib.hid hv
  clear h hW1 hcc hmay hlook hb0 h0 he hrd f1 f2 f3 hv hem hes
  have q5 : decide (m < 0) = true := decide_eq_true hm0
  go_enter Try.func28, Try.ntmps28
  go_wp2_with fail
  refine (unhide3 HMAY).mono ?_
  rintro en w1 ⟨rfl, rfl⟩
  go_wp2_with fail
  go_ret
  exact ⟨1, S, rfl, .inr (.inr ⟨H0.out, e, HE.out, .inl ⟨by omega, rfl, rfl⟩⟩), H1.out, Turn.of_below HB0.out, fun i hi => .inl hi⟩
set_option maxRecDepth 100000 in
set_option maxHeartbeats 3200000 in
theorem trunc_big (base d : Nat) (S : DS) (w : World) (h : DW w base d S) (s : List UInt8) (hs : s.length ≤ 140737488351232) (m : Int) (m1 : -9223372036854775808 ≤ m) (m2 : m ≤ 9223372036854775807) (h0 : mayE S [s] = 0) (e : FE) (he : getE s S.E = some e) (hm0 : 0 ≤ m) (hb9 : (e.b.length : Int) < m) :
    Calls Try.prog 28 #[.pointer (some ⟨d, 0, none⟩), .string (str s), .int .i64 m] w (RetD base d S (TruncR S s m) w) := by
  generalize hW : w.alloc (.cells #[.string (str s)] 9) = W
  have hb0 : Below w.heap.size w W := by rw [← hW]; exact (Below.refl _ _).alloc (Nat.le_refl _) _
  have hW1 : DW W base d S := h.below hb0
  have hrd : Rd W W.heap.size 1 (some ⟨w.heap.size, 0, none⟩) 1 ([s].map sv) := by rw [← hW]; simpa [sv] using Rd.lit_new w ([s].map sv) 9
  have hmay := may_any base d S W hW1 (some ⟨w.heap.size, 0, none⟩) 1 1 [s] hrd (by omega) (by intro x hx; simp at hx; subst hx; exact hs)
  rw [h0] at hmay
  have HMAY := Lib.hid hmay
  have H1 := Lib.hid hW1
  have HB0 := Lib.hid hb0
  have hlook := look_run hW1 s (by assumption)
  rw [he] at hlook
  have hlk : (Instr.lookup 57 (.map (some S.m)) (.string (str s)) false).run Try.prog W = .ok (.pointer (some ⟨e.g, 0, none⟩)) W := hlook
  have hcc := hW1.cell
  unfold dcells at hcc
  have c1 : W.cell? ⟨d, 1, none⟩ = some (.map (some S.m)) := hcc.cell 1
  obtain ⟨hem, hes⟩ := getE_mem he
  obtain ⟨f1, f2, f3⟩ := hW1.file e hem
  have hle : e.b.length ≤ S.used := mem_le_sum hem
  have hro := h.room
  obtain ⟨A, c, hv, hcb, hcm⟩ := f2.form
  have g0 : W.cell? ⟨e.g, 0, none⟩ = some (.slice A e.b.length c) := by rw [← hv]; exact f1.cell 0
  have g1 : W.cell? ⟨e.g, 1, none⟩ = some (.int .u32 (e.l : Int)) := f1.cell 1
  have gf0 : W.frozen? ⟨e.g, 0, none⟩ = false := f1.free 0
  have gf1 : W.frozen? ⟨e.g, 1, none⟩ = false := f1.free 1
  have HF := Lib.hid (And.intro f1 (And.intro f2 f3))
  have H0 := Lib.hid h0
  have HE := Lib.hid he
  have HEM := Lib.hid hem
  have HV := Lib.hid hv
  clear h hW1 hcc hmay hlook hb0 h0 he hrd f1 f2 f3 hv hem hes
  have q5 : decide (m < 0) = false := decide_eq_false (by omega)
  have q6 : decide (m > (e.b.length : Int)) = true := decide_eq_true (by omega)
  go_enter Try.func28, Try.ntmps28
  go_wp2_with fail
  refine (unhide3 HMAY).mono ?_
  rintro en w1 ⟨rfl, rfl⟩
  go_wp2_with fail
  go_ret
  exact ⟨1, S, rfl, .inr (.inr ⟨H0.out, e, HE.out, .inl ⟨by omega, rfl, rfl⟩⟩), H1.out, Turn.of_below HB0.out, fun i hi => .inl hi⟩
set_option maxRecDepth 100000 in
set_option maxHeartbeats 3200000 in
theorem trunc_old (base d : Nat) (S : DS) (w : World) (h : DW w base d S) (s : List UInt8) (hs : s.length ≤ 140737488351232) (m : Int) (m1 : -9223372036854775808 ≤ m) (m2 : m ≤ 9223372036854775807) (h0 : mayE S [s] = 0) (e : FE) (he : getE s S.E = some e) (k : Nat) (hmk : m = (k : Int)) (hk : k ≤ e.b.length) :
    Calls Try.prog 28 #[.pointer (some ⟨d, 0, none⟩), .string (str s), .int .i64 m] w (RetD base d S (TruncR S s m) w) := by
  generalize hW : w.alloc (.cells #[.string (str s)] 9) = W
  have hb0 : Below w.heap.size w W := by rw [← hW]; exact (Below.refl _ _).alloc (Nat.le_refl _) _
  have hW1 : DW W base d S := h.below hb0
  have hrd : Rd W W.heap.size 1 (some ⟨w.heap.size, 0, none⟩) 1 ([s].map sv) := by rw [← hW]; simpa [sv] using Rd.lit_new w ([s].map sv) 9
  have hmay := may_any base d S W hW1 (some ⟨w.heap.size, 0, none⟩) 1 1 [s] hrd (by omega) (by intro x hx; simp at hx; subst hx; exact hs)
  rw [h0] at hmay
  have HMAY := Lib.hid hmay
  have H1 := Lib.hid hW1
  have HB0 := Lib.hid hb0
  subst hmk
  have hlook := look_run hW1 s (by assumption)
  rw [he] at hlook
  have hlk : (Instr.lookup 57 (.map (some S.m)) (.string (str s)) false).run Try.prog W = .ok (.pointer (some ⟨e.g, 0, none⟩)) W := hlook
  have hcc := hW1.cell
  unfold dcells at hcc
  have c1 : W.cell? ⟨d, 1, none⟩ = some (.map (some S.m)) := hcc.cell 1
  obtain ⟨hem, hes⟩ := getE_mem he
  obtain ⟨f1, f2, f3⟩ := hW1.file e hem
  have hle : e.b.length ≤ S.used := mem_le_sum hem
  have hro := h.room
  obtain ⟨A, c, hv, hcb, hcm⟩ := f2.form
  have g0 : W.cell? ⟨e.g, 0, none⟩ = some (.slice A e.b.length c) := by rw [← hv]; exact f1.cell 0
  have g1 : W.cell? ⟨e.g, 1, none⟩ = some (.int .u32 (e.l : Int)) := f1.cell 1
  have gf0 : W.frozen? ⟨e.g, 0, none⟩ = false := f1.free 0
  have gf1 : W.frozen? ⟨e.g, 1, none⟩ = false := f1.free 1
  have HF := Lib.hid (And.intro f1 (And.intro f2 f3))
  have H0 := Lib.hid h0
  have HE := Lib.hid he
  have HEM := Lib.hid hem
  have HV := Lib.hid hv
  have q5 : decide ((k : Int) < 0) = false := decide_eq_false (by omega)
  have q6 : decide ((k : Int) > (e.b.length : Int)) = false := decide_eq_false (by omega)
  have q7 : (k : Int) ≤ (c : Int) := by omega
  have q8 : (0 : Int) ≤ (k : Int) := by omega
  have hwr : IntKind.u32.wrap (k : Int) = (k : Int) := by rw [IntKind.wrap_u32']; omega
  have hmn : (if k < e.l then (k : Int) else (e.l : Int)) = ((Nat.min e.l k : Nat) : Int) := by
    split
    · rw [show Nat.min e.l k = k from Nat.min_eq_right (by omega)]
    · rw [show Nat.min e.l k = e.l from Nat.min_eq_left (by omega)]
  have hs1 : ∀ W4, (W.setCell ⟨e.g, 0, none⟩ (.slice A k k)).setCell ⟨e.g, 1, none⟩ (.int .u32 (if k < e.l then (k : Int) else (e.l : Int))) = W4 → (DW W4 base d (setF S s (truncE e k)) ∧ ∀ i ∈ (setF S s (truncE e k)).bl d, i ∈ S.bl d ∨ W.heap.size ≤ i) ∧ Turn e.bl W W4 := by
    intro W4 hW4
    have hgb : W.grownBy W4 (some e.g) := by rw [← hW4]; exact gb_trans (gb_set _ _ _ _) (gb_set _ _ _ _)
    have ht : Turn e.bl W W4 := Turn.of_grown hgb (fun i hi => by injection hi with hi; subst hi; exact .inl (by simp [FE.bl]))
    have hne := hne_v H1.out hem
    have hcv : cutV e.v k = .slice A k k := by rw [hv]; rfl
    have hb4 : Blk W4 e.g #[.slice A k k, .int .u32 ((Nat.min e.l k : Nat) : Int)] 64 := by
      rw [← hW4, hmn]
      exact Blk.set2 f1 0 1 _ _
    have hl4 : (e.b.take k).length = k := by rw [List.length_take, Nat.min_eq_left hk]
    have hfw : FW W4 (truncE e k) := by
      unfold FW truncE
      simp only
      refine ⟨by rw [hcv]; exact hb4, (Row.cutv f2 hk).keep fun i hi => hgb.block i ?_ ?_, by rw [hl4]; exact Nat.min_le_right _ _⟩
      · rw [cutV_own] at hi; exact f2.lt hi
      · rw [cutV_own] at hi; rw [← hi]; exact fun h9 => hne h9.symm
    exact ⟨H1.out.set_file (e' := truncE e k) HE.out rfl rfl ht hfw (.inl (cutV_own _ _)) (by unfold truncE; simp only [hl4]; omega), ht⟩
  have HS1 := Lib.hid hs1
  clear h hW1 hcc hmay hlook hb0 h0 he hrd f1 f2 f3 hv hem hes hs1 hmn
  go_enter Try.func28, Try.ntmps28
  go_wp2_with fail
  refine (unhide3 HMAY).mono ?_
  rintro en w1 ⟨rfl, rfl⟩
  go_wp2_with fail
  · obtain ⟨W4, hW4⟩ : ∃ W4, (W.setCell ⟨e.g, 0, none⟩ (.slice A k k)).setCell ⟨e.g, 1, none⟩ (.int .u32 (k : Int)) = W4 := ⟨_, rfl⟩
    rw [hW4]
    have hx := HS1.out W4 (by rw [if_pos (by omega)]; exact hW4)
    have hbn := burns_any base d _ W4 hx.1.1 (may_zero H0.out)
    have HBN := Lib.hid hbn
    have HX := Lib.hid hx
    clear hbn hx hW4
    refine (unhide3 HBN).mono ?_
    rintro en w5 ⟨rfl, d5, t5⟩
    go_wp2_with fail
    go_ret
    have hbl : ∀ i ∈ e.bl, i ∈ S.bl d := fun i hi => by
      unfold FE.bl at hi
      rcases List.mem_cons.1 hi with rfl | h1
      · exact bl_g HEM.out
      · exact bl_v HEM.out (by simpa using h1)
    refine ⟨0, _, rfl, .inr (.inr ⟨H0.out, e, HE.out, .inr ⟨by omega, by omega, rfl, by rw [Int.toNat_natCast]⟩⟩), d5, ?_, ?_⟩
    · have t1 : Turn (S.bl d) w W4 := (Turn.of_below HB0.out).trans HX.out.2 (fun i hi => .inl (hbl i hi))
      exact t1.trans t5 (fun i hi => .inl (by simp at hi; subst hi; exact bl_d _ _))
    · intro i hi
      rw [burnS_bl] at hi
      rcases HX.out.1.2 i hi with h | h
      · exact .inl h
      · exact .inr (by have := HB0.out.size; omega)
  · obtain ⟨W4, hW4⟩ : ∃ W4, (W.setCell ⟨e.g, 0, none⟩ (.slice A k k)).setCell ⟨e.g, 1, none⟩ (.int .u32 (e.l : Int)) = W4 := ⟨_, rfl⟩
    rw [hW4]
    have hx := HS1.out W4 (by rw [if_neg (by omega)]; exact hW4)
    have hbn := burns_any base d _ W4 hx.1.1 (may_zero H0.out)
    have HBN := Lib.hid hbn
    have HX := Lib.hid hx
    clear hbn hx hW4
    refine (unhide3 HBN).mono ?_
    rintro en w5 ⟨rfl, d5, t5⟩
    go_wp2_with fail
    go_ret
    have hbl : ∀ i ∈ e.bl, i ∈ S.bl d := fun i hi => by
      unfold FE.bl at hi
      rcases List.mem_cons.1 hi with rfl | h1
      · exact bl_g HEM.out
      · exact bl_v HEM.out (by simpa using h1)
    refine ⟨0, _, rfl, .inr (.inr ⟨H0.out, e, HE.out, .inr ⟨by omega, by omega, rfl, by rw [Int.toNat_natCast]⟩⟩), d5, ?_, ?_⟩
    · have t1 : Turn (S.bl d) w W4 := (Turn.of_below HB0.out).trans HX.out.2 (fun i hi => .inl (hbl i hi))
      exact t1.trans t5 (fun i hi => .inl (by simp at hi; subst hi; exact bl_d _ _))
    · intro i hi
      rw [burnS_bl] at hi
      rcases HX.out.1.2 i hi with h | h
      · exact .inl h
      · exact .inr (by have := HB0.out.size; omega)
theorem trunc_any (base d : Nat) (S : DS) (w : World) (h : DW w base d S) (s : List UInt8) (hs : s.length ≤ 140737488351232) (m : Int) (m1 : -9223372036854775808 ≤ m) (m2 : m ≤ 9223372036854775807) :
    Calls Try.prog 28 #[.pointer (some ⟨d, 0, none⟩), .string (str s), .int .i64 m] w (RetD base d S (TruncR S s m) w) := by
  rcases Nat.eq_zero_or_pos (mayE S [s]) with h0 | h0
  · rcases he : getE s S.E with _ | e
    · exact trunc_none base d S w h s hs m m1 m2 h0 he
    · rcases Int.lt_or_le m 0 with hm | hm
      · exact trunc_neg base d S w h s hs m m1 m2 h0 e he hm
      · rcases Int.lt_or_le (e.b.length : Int) m with hb | hb
        · exact trunc_big base d S w h s hs m m1 m2 h0 e he hm hb
        · exact trunc_old base d S w h s hs m m1 m2 h0 e he m.toNat (by omega) (by omega)
  · exact trunc_bad base d S w h s hs m m1 m2 _ rfl (by simp; omega)
end Go.Proofs.Ytcoimlenejffpaa
