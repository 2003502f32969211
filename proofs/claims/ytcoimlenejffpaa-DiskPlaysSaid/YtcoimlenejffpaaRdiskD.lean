/- ref disk: Truncate. -/
import Derived.Test.YtcoimlenejffpaaRdiskC
import Derived.Test.YtcoimlenejffpaaRdiskM
namespace Go.Proofs.Ytcoimlenejffpaa
set_option linter.all false
open Go.RowKit
def truncX (f : RFE) (A : Option Addr) (c k : Nat) : RFE := ⟨f.s, A, c, f.b.take k, Nat.min f.l k⟩
def RTruncR (X : RDS) (s : List UInt8) (m : Int) (code : Nat) (X' : RDS) : Prop :=
  (rmayE X.left [s] ≠ 0 ∧ code = rmayE X.left [s] ∧ X' = X) ∨ (rmayE X.left [s] = 0 ∧ spotB s X.L = false ∧ code = 7 ∧ X' = X) ∨
    (rmayE X.left [s] = 0 ∧ spotB s X.L = true ∧ ∃ i f, spotI s X.L = i ∧ X.L[i]? = some f ∧
      (((m < 0 ∨ (f.b.length : Int) < m) ∧ code = 1 ∧ X' = X) ∨ (0 ≤ m ∧ m ≤ (f.b.length : Int) ∧ code = 0 ∧ ∃ A c, X' = didX { X with L := X.L.set i (truncX f A c m.toNat) })))
set_option maxRecDepth 100000 in
set_option maxHeartbeats 3200000 in
theorem rtrunc_bad (base r : Nat) (X : RDS) (w : World) (h : RW w base r X) (s : List UInt8) (hs : s.length ≤ 140737488351232) (m : Int) (m1 : -9223372036854775808 ≤ m) (m2 : m ≤ 9223372036854775807) (e0 : Nat) (h0 : rmayE X.left [s] = e0) (he0 : ((e0 : Int) != 0) = true) :
    Calls Try.prog 40 #[.pointer (some ⟨r, 0, none⟩), .string (str s), .int .i64 m] w (RetX base r X (RTruncR X s m) w) := by
  generalize hW : w.alloc (.cells #[.string (str s)] 9) = W
  have hb0 : Below w.heap.size w W := by rw [← hW]; exact (Below.refl _ _).alloc (Nat.le_refl _) _
  have hW1 : RW W base r X := h.below hb0
  have hrd : Rd W W.heap.size 1 (some ⟨w.heap.size, 0, none⟩) 1 ([s].map sv) := by rw [← hW]; simpa [sv] using Rd.lit_new w ([s].map sv) 9
  have hmay := rmay_any base r X W hW1 (some ⟨w.heap.size, 0, none⟩) 1 1 [s] hrd (by omega) (by intro x hx; simp at hx; subst hx; exact hs)
  rw [h0] at hmay
  have HMAY := Lib.hid hmay
  have H1 := Lib.hid hW1
  have HB0 := Lib.hid hb0
  have hz : e0 ≠ 0 := by intro e; subst e; simp at he0
  have H0 := Lib.hid h0
  have HZ := Lib.hid hz
  clear h hW1 hmay hb0 h0 hrd hz
  go_enter Try.func40, Try.ntmps40
  go_wp2_with fail
  refine (unhide3 HMAY).mono ?_
  rintro en w1 ⟨rfl, rfl⟩
  go_wp2_with fail
  go_ret
  refine ⟨e0, X, rfl, .inl ⟨by rw [H0.out]; exact HZ.out, H0.out.symm, rfl⟩, H1.out, Turn.of_below HB0.out, fun i hi => .inl hi⟩
set_option maxRecDepth 100000 in
set_option maxHeartbeats 3200000 in
theorem rtrunc_none (base r : Nat) (X : RDS) (w : World) (h : RW w base r X) (s : List UInt8) (hs : s.length ≤ 140737488351232) (m : Int) (m1 : -9223372036854775808 ≤ m) (m2 : m ≤ 9223372036854775807) (h0 : rmayE X.left [s] = 0) (he : spotB s X.L = false) :
    Calls Try.prog 40 #[.pointer (some ⟨r, 0, none⟩), .string (str s), .int .i64 m] w (RetX base r X (RTruncR X s m) w) := by
  generalize hW : w.alloc (.cells #[.string (str s)] 9) = W
  have hb0 : Below w.heap.size w W := by rw [← hW]; exact (Below.refl _ _).alloc (Nat.le_refl _) _
  have hW1 : RW W base r X := h.below hb0
  have hrd : Rd W W.heap.size 1 (some ⟨w.heap.size, 0, none⟩) 1 ([s].map sv) := by rw [← hW]; simpa [sv] using Rd.lit_new w ([s].map sv) 9
  have hmay := rmay_any base r X W hW1 (some ⟨w.heap.size, 0, none⟩) 1 1 [s] hrd (by omega) (by intro x hx; simp at hx; subst hx; exact hs)
  rw [h0] at hmay
  have HMAY := Lib.hid hmay
  have H1 := Lib.hid hW1
  have HB0 := Lib.hid hb0
  have hsp := rspot_any base r X W H1.out s
  rw [he] at hsp
  have HSP := Lib.hid hsp
  have H0 := Lib.hid h0
  have HE := Lib.hid he
  clear h hW1 hmay hb0 h0 hrd he hsp
  go_enter Try.func40, Try.ntmps40
  go_wp2_with fail
  refine (unhide3 HMAY).mono ?_
  rintro en w1 ⟨rfl, rfl⟩
  go_wp2_with fail
  refine (unhide3 HSP).mono ?_
  rintro en w1 ⟨rfl, nq, rfl⟩
  go_wp2_with fail
  go_ret
  refine ⟨7, X, rfl, .inr (.inl ⟨H0.out, HE.out, rfl, rfl⟩), H1.out.keep (fun _ _ => rfl) (Nat.le_refl _), (Turn.of_below HB0.out).drewN nq, fun i hi => .inl hi⟩
set_option maxRecDepth 100000 in
set_option maxHeartbeats 3200000 in
theorem rtrunc_neg (base r : Nat) (X : RDS) (w : World) (h : RW w base r X) (s : List UInt8) (hs : s.length ≤ 140737488351232) (m : Int) (m1 : -9223372036854775808 ≤ m) (m2 : m ≤ 9223372036854775807) (h0 : rmayE X.left [s] = 0) (he : spotB s X.L = true) (hm0 : m < 0) :
    Calls Try.prog 40 #[.pointer (some ⟨r, 0, none⟩), .string (str s), .int .i64 m] w (RetX base r X (RTruncR X s m) w) := by
  generalize hW : w.alloc (.cells #[.string (str s)] 9) = W
  have hb0 : Below w.heap.size w W := by rw [← hW]; exact (Below.refl _ _).alloc (Nat.le_refl _) _
  have hW1 : RW W base r X := h.below hb0
  have hrd : Rd W W.heap.size 1 (some ⟨w.heap.size, 0, none⟩) 1 ([s].map sv) := by rw [← hW]; simpa [sv] using Rd.lit_new w ([s].map sv) 9
  have hmay := rmay_any base r X W hW1 (some ⟨w.heap.size, 0, none⟩) 1 1 [s] hrd (by omega) (by intro x hx; simp at hx; subst hx; exact hs)
  rw [h0] at hmay
  have HMAY := Lib.hid hmay
  have H1 := Lib.hid hW1
  have HB0 := Lib.hid hb0
  have hsp := rspot_any base r X W H1.out s
  rw [he] at hsp
  have HSP := Lib.hid hsp
  obtain ⟨i, hi⟩ : ∃ i, spotI s X.L = i := ⟨_, rfl⟩
  obtain ⟨f, hf⟩ : ∃ f, X.L[i]? = some f := by
    have : spotB s X.L = true := he
    unfold spotB at this
    rw [hi] at this
    rcases hx : X.L[i]? with _ | f
    · rw [hx] at this; cases this
    · exact ⟨f, rfl⟩
  rw [hi] at hsp
  have HSP := Lib.hid hsp
  have HF := Lib.hid hf
  have HI := Lib.hid hi
  have H0 := Lib.hid h0
  have HE := Lib.hid he
  have hlt : i < X.L.length := (List.getElem?_eq_some_iff.1 hf).1
  have hfew := hW1.few
  have hcap := hW1.cap
  clear h hW1 hmay hb0 h0 hrd he hsp hf hi
  go_enter Try.func40, Try.ntmps40
  go_wp2_with fail
  refine (unhide3 HMAY).mono ?_
  rintro en w1 ⟨rfl, rfl⟩
  go_wp2_with fail
  refine (unhide3 HSP).mono ?_
  rintro en w1 ⟨rfl, nq, hw1⟩
  have hd1 : RW w1 base r X := by rw [hw1]; exact H1.out.keep (fun _ _ => rfl) (Nat.le_refl _)
  have ht1 : Turn (X.bl r) w w1 := by rw [hw1]; exact (Turn.of_below HB0.out).drewN nq
  have HT1 := Lib.hid ht1
  clear hw1 ht1 HMAY
  obtain ⟨g, f', hA, hg, hf', hm, k0, k1, k2, hfr, hc1, hc2⟩ := hd1.at_ hlt
  obtain rfl : f' = f := by rw [HF.out] at hf'; injection hf' with hf'; exact hf'.symm
  have hcc := hd1.cell
  unfold rdcells RDS.v at hcc
  have c1 : w1.cell? ⟨r, 1, none⟩ = some (.slice (some ⟨g, 0, none⟩) X.L.length X.c) := by have := hcc.cell 1; rw [hA] at this; exact this
  have HD1 := Lib.hid hd1
  have hgr : g ≠ r := hd1.ne_rv hg
  have hfl := (hd1.file f' hm)
  have hle : f'.b.length ≤ 1073741824 := by
    have h1 := hd1.room
    have h2 : f'.b.length ≤ X.used := by
      have : ∀ L : List RFE, f' ∈ L → f'.b.length ≤ (L.map fun f => f.b.length).sum := by
        intro L
        induction L with
        | nil => intro h; simp at h
        | cons x r ih =>
          intro h
          simp only [List.map_cons, List.sum_cons]
          rcases List.mem_cons.1 h with rfl | h3
          · omega
          · have := ih h3; omega
      exact this X.L hm
    omega
  have HFL := Lib.hid hfl
  have HM := Lib.hid hm
  have HG := Lib.hid hg
  have frz := hfr (i * 3 + 2)
  have fry := hfr (i * 3 + 1)
  obtain ⟨n, hn⟩ : ∃ n, n = X.L.length := ⟨_, rfl⟩
  rw [← hn] at c1 hlt hfew hcap hc1
  have HN := Lib.hid hn
  clear hd1 hcc hA hg hf' hm hfr hfl hn
  have q5 : decide (m < 0) = true := decide_eq_true hm0
  go_wp2_with fail
  go_ret
  exact ⟨1, X, rfl, .inr (.inr ⟨H0.out, HE.out, i, f', HI.out, HF.out, .inl ⟨by omega, rfl, rfl⟩⟩), HD1.out, HT1.out, fun k hk => .inl hk⟩
set_option maxRecDepth 100000 in
set_option maxHeartbeats 3200000 in
theorem rtrunc_big (base r : Nat) (X : RDS) (w : World) (h : RW w base r X) (s : List UInt8) (hs : s.length ≤ 140737488351232) (m : Int) (m1 : -9223372036854775808 ≤ m) (m2 : m ≤ 9223372036854775807) (h0 : rmayE X.left [s] = 0) (he : spotB s X.L = true) (hm0 : 0 ≤ m) (hbig : ∀ i f, X.L[i]? = some f → spotI s X.L = i → (f.b.length : Int) < m) :
    Calls Try.prog 40 #[.pointer (some ⟨r, 0, none⟩), .string (str s), .int .i64 m] w (RetX base r X (RTruncR X s m) w) := by
  generalize hW : w.alloc (.cells #[.string (str s)] 9) = W
  have hb0 : Below w.heap.size w W := by rw [← hW]; exact (Below.refl _ _).alloc (Nat.le_refl _) _
  have hW1 : RW W base r X := h.below hb0
  have hrd : Rd W W.heap.size 1 (some ⟨w.heap.size, 0, none⟩) 1 ([s].map sv) := by rw [← hW]; simpa [sv] using Rd.lit_new w ([s].map sv) 9
  have hmay := rmay_any base r X W hW1 (some ⟨w.heap.size, 0, none⟩) 1 1 [s] hrd (by omega) (by intro x hx; simp at hx; subst hx; exact hs)
  rw [h0] at hmay
  have HMAY := Lib.hid hmay
  have H1 := Lib.hid hW1
  have HB0 := Lib.hid hb0
  have hsp := rspot_any base r X W H1.out s
  rw [he] at hsp
  have HSP := Lib.hid hsp
  obtain ⟨i, hi⟩ : ∃ i, spotI s X.L = i := ⟨_, rfl⟩
  obtain ⟨f, hf⟩ : ∃ f, X.L[i]? = some f := by
    have : spotB s X.L = true := he
    unfold spotB at this
    rw [hi] at this
    rcases hx : X.L[i]? with _ | f
    · rw [hx] at this; cases this
    · exact ⟨f, rfl⟩
  rw [hi] at hsp
  have HSP := Lib.hid hsp
  have HF := Lib.hid hf
  have HI := Lib.hid hi
  have H0 := Lib.hid h0
  have HE := Lib.hid he
  have hlt : i < X.L.length := (List.getElem?_eq_some_iff.1 hf).1
  have hfew := hW1.few
  have hcap := hW1.cap
  clear h hW1 hmay hb0 h0 hrd he hsp hf hi
  go_enter Try.func40, Try.ntmps40
  go_wp2_with fail
  refine (unhide3 HMAY).mono ?_
  rintro en w1 ⟨rfl, rfl⟩
  go_wp2_with fail
  refine (unhide3 HSP).mono ?_
  rintro en w1 ⟨rfl, nq, hw1⟩
  have hd1 : RW w1 base r X := by rw [hw1]; exact H1.out.keep (fun _ _ => rfl) (Nat.le_refl _)
  have ht1 : Turn (X.bl r) w w1 := by rw [hw1]; exact (Turn.of_below HB0.out).drewN nq
  have HT1 := Lib.hid ht1
  clear hw1 ht1 HMAY
  obtain ⟨g, f', hA, hg, hf', hm, k0, k1, k2, hfr, hc1, hc2⟩ := hd1.at_ hlt
  obtain rfl : f' = f := by rw [HF.out] at hf'; injection hf' with hf'; exact hf'.symm
  have hcc := hd1.cell
  unfold rdcells RDS.v at hcc
  have c1 : w1.cell? ⟨r, 1, none⟩ = some (.slice (some ⟨g, 0, none⟩) X.L.length X.c) := by have := hcc.cell 1; rw [hA] at this; exact this
  have HD1 := Lib.hid hd1
  have hgr : g ≠ r := hd1.ne_rv hg
  have hfl := (hd1.file f' hm)
  have hle : f'.b.length ≤ 1073741824 := by
    have h1 := hd1.room
    have h2 : f'.b.length ≤ X.used := by
      have : ∀ L : List RFE, f' ∈ L → f'.b.length ≤ (L.map fun f => f.b.length).sum := by
        intro L
        induction L with
        | nil => intro h; simp at h
        | cons x r ih =>
          intro h
          simp only [List.map_cons, List.sum_cons]
          rcases List.mem_cons.1 h with rfl | h3
          · omega
          · have := ih h3; omega
      exact this X.L hm
    omega
  have HFL := Lib.hid hfl
  have HM := Lib.hid hm
  have HG := Lib.hid hg
  have frz := hfr (i * 3 + 2)
  have fry := hfr (i * 3 + 1)
  obtain ⟨n, hn⟩ : ∃ n, n = X.L.length := ⟨_, rfl⟩
  rw [← hn] at c1 hlt hfew hcap hc1
  have HN := Lib.hid hn
  clear hd1 hcc hA hg hf' hm hfr hfl hn
  have hb9 := hbig i f' HF.out HI.out
  have q5 : decide (m < 0) = false := decide_eq_false (by omega)
  have q6 : decide (m > (f'.b.length : Int)) = true := decide_eq_true (by omega)
  go_wp2_with fail
  go_ret
  exact ⟨1, X, rfl, .inr (.inr ⟨H0.out, HE.out, i, f', HI.out, HF.out, .inl ⟨by omega, rfl, rfl⟩⟩), HD1.out, HT1.out, fun k hk => .inl hk⟩
set_option maxRecDepth 100000 in
set_option maxHeartbeats 3200000 in
theorem rtrunc_old (base r : Nat) (X : RDS) (w : World) (h : RW w base r X) (s : List UInt8) (hs : s.length ≤ 140737488351232) (m : Int) (m1 : -9223372036854775808 ≤ m) (m2 : m ≤ 9223372036854775807) (h0 : rmayE X.left [s] = 0) (he : spotB s X.L = true) (k : Nat) (hmk : m = (k : Int)) (hk9 : ∀ i f, X.L[i]? = some f → spotI s X.L = i → k ≤ f.b.length) :
    Calls Try.prog 40 #[.pointer (some ⟨r, 0, none⟩), .string (str s), .int .i64 m] w (RetX base r X (RTruncR X s m) w) := by
  generalize hW : w.alloc (.cells #[.string (str s)] 9) = W
  have hb0 : Below w.heap.size w W := by rw [← hW]; exact (Below.refl _ _).alloc (Nat.le_refl _) _
  have hW1 : RW W base r X := h.below hb0
  have hrd : Rd W W.heap.size 1 (some ⟨w.heap.size, 0, none⟩) 1 ([s].map sv) := by rw [← hW]; simpa [sv] using Rd.lit_new w ([s].map sv) 9
  have hmay := rmay_any base r X W hW1 (some ⟨w.heap.size, 0, none⟩) 1 1 [s] hrd (by omega) (by intro x hx; simp at hx; subst hx; exact hs)
  rw [h0] at hmay
  have HMAY := Lib.hid hmay
  have H1 := Lib.hid hW1
  have HB0 := Lib.hid hb0
  subst hmk
  have hsp := rspot_any base r X W H1.out s
  rw [he] at hsp
  have HSP := Lib.hid hsp
  obtain ⟨i, hi⟩ : ∃ i, spotI s X.L = i := ⟨_, rfl⟩
  obtain ⟨f, hf⟩ : ∃ f, X.L[i]? = some f := by
    have : spotB s X.L = true := he
    unfold spotB at this
    rw [hi] at this
    rcases hx : X.L[i]? with _ | f
    · rw [hx] at this; cases this
    · exact ⟨f, rfl⟩
  rw [hi] at hsp
  have HSP := Lib.hid hsp
  have HF := Lib.hid hf
  have HI := Lib.hid hi
  have H0 := Lib.hid h0
  have HE := Lib.hid he
  have hlt : i < X.L.length := (List.getElem?_eq_some_iff.1 hf).1
  have hfew := hW1.few
  have hcap := hW1.cap
  clear h hW1 hmay hb0 h0 hrd he hsp hf hi
  go_enter Try.func40, Try.ntmps40
  go_wp2_with fail
  refine (unhide3 HMAY).mono ?_
  rintro en w1 ⟨rfl, rfl⟩
  go_wp2_with fail
  refine (unhide3 HSP).mono ?_
  rintro en w1 ⟨rfl, nq, hw1⟩
  have hd1 : RW w1 base r X := by rw [hw1]; exact H1.out.keep (fun _ _ => rfl) (Nat.le_refl _)
  have ht1 : Turn (X.bl r) w w1 := by rw [hw1]; exact (Turn.of_below HB0.out).drewN nq
  have HT1 := Lib.hid ht1
  clear hw1 ht1 HMAY
  obtain ⟨g, f', hA, hg, hf', hm, k0, k1, k2, hfr, hc1, hc2⟩ := hd1.at_ hlt
  obtain rfl : f' = f := by rw [HF.out] at hf'; injection hf' with hf'; exact hf'.symm
  have hcc := hd1.cell
  unfold rdcells RDS.v at hcc
  have c1 : w1.cell? ⟨r, 1, none⟩ = some (.slice (some ⟨g, 0, none⟩) X.L.length X.c) := by have := hcc.cell 1; rw [hA] at this; exact this
  have HD1 := Lib.hid hd1
  have hgr : g ≠ r := hd1.ne_rv hg
  have hfl := (hd1.file f' hm)
  have hle : f'.b.length ≤ 1073741824 := by
    have h1 := hd1.room
    have h2 : f'.b.length ≤ X.used := by
      have : ∀ L : List RFE, f' ∈ L → f'.b.length ≤ (L.map fun f => f.b.length).sum := by
        intro L
        induction L with
        | nil => intro h; simp at h
        | cons x r ih =>
          intro h
          simp only [List.map_cons, List.sum_cons]
          rcases List.mem_cons.1 h with rfl | h3
          · omega
          · have := ih h3; omega
      exact this X.L hm
    omega
  have HFL := Lib.hid hfl
  have HM := Lib.hid hm
  have HG := Lib.hid hg
  have frz := hfr (i * 3 + 2)
  have fry := hfr (i * 3 + 1)
  obtain ⟨n, hn⟩ : ∃ n, n = X.L.length := ⟨_, rfl⟩
  rw [← hn] at c1 hlt hfew hcap hc1
  have HN := Lib.hid hn
  clear hd1 hcc hA hg hf' hm hfr hfl hn
  have hk := hk9 i f' HF.out HI.out
  have q5 : decide ((k : Int) < 0) = false := decide_eq_false (by omega)
  have q6 : decide ((k : Int) > (f'.b.length : Int)) = false := decide_eq_false (by omega)
  clear hk9
  go_wp2_with fail
  refine wp_region_held_drew (S := fun w' => w'.cell? ⟨r, 1, none⟩ = some (.slice (some ⟨g, 0, none⟩) n X.c)) (by kernel_rfl) (c1) (fun hHeld => ?_)
  obtain ⟨w2, hw2⟩ : ∃ w2, w1.drew = w2 := ⟨_, rfl⟩
  rw [hw2] at hHeld ⊢
  have hd2 : RW w2 base r X := by rw [← hw2]; exact HD1.out.keep (fun _ _ => rfl) (Nat.le_refl _)
  have c12 : w2.cell? ⟨r, 1, none⟩ = some (.slice (some ⟨g, 0, none⟩) n X.c) := by rw [← hw2]; exact c1
  have k12 : w2.cell? ⟨g, i * 3 + 1, none⟩ = some (.slice f'.A f'.b.length f'.c) := by rw [← hw2]; exact k1
  have k22 : w2.cell? ⟨g, i * 3 + 2, none⟩ = some (.int .i64 (f'.l : Int)) := by rw [← hw2]; exact k2
  have hrl : r < w2.heap.size := (hd2.ge r (rbl_r r X)).2
  have hgl : g < w2.heap.size := (hd2.ge g (rbl_v HG.out)).2
  have hbs2 : Bs w2 w2.heap.size f'.A k (f'.b.take k) := ((hd2.file f' HM.out).1.bs).take hk
  have hfc : f'.b.length ≤ f'.c ∧ f'.c ≤ 9223372036854775807 := by
    obtain ⟨A9, c9, e9, h8, h9⟩ := (hd2.file f' HM.out).1.form
    unfold RFE.v at e9
    injection e9 with _ _ e9
    rw [e9]; exact ⟨h8, h9⟩
  have q7 : (k : Int) ≤ (f'.c : Int) := by omega
  have q8 : (0 : Int) ≤ (k : Int) := by omega
  clear c1 k0 k1 k2 frz fry
  refine wpAnyH_take (i := 0) (oi := { dst := some 40, op := Go.Op.move (Go.Operand.tmp 0), type := 45, pos := "disk.go:113", after := #[], guard := none }) (v := ?_) rfl (by kernel_rfl) (by kernel_rfl) (by kernel_rfl) (fun _ _ _ h => h) (Or.inl ⟨by rfl, ?_⟩) (by assumption) ?_
  rotate_left
  · (intro w hSw; (try dsimp only at hSw); go_simp; try with_reducible rfl)
  try simp only [Act.put, List.setIfInBounds_toArray, List.set_cons_zero, List.set_cons_succ]
  refine wpAnyH_take (i := 1) (oi := { dst := some 41, op := Go.Op.nilCheck (Go.Operand.tmp 40), type := 0, pos := "disk.go:113", after := #[{ on := 0, ground := Go.Ground.data }], guard := none }) (v := ?_) rfl (by kernel_rfl) (by kernel_rfl) (by kernel_rfl) (fun _ _ _ h => h) (Or.inl ⟨by rfl, ?_⟩) (by assumption) ?_
  rotate_left
  · (intro w hSw; (try dsimp only at hSw); go_simp; try with_reducible rfl)
  try simp only [Act.put, List.setIfInBounds_toArray, List.set_cons_zero, List.set_cons_succ]
  refine wpAnyH_take (i := 2) (oi := { dst := some 42, op := Go.Op.fieldAddr 76 (Go.Operand.tmp 41) 1, type := 0, pos := "disk.go:113", after := #[{ on := 1, ground := Go.Ground.data }], guard := none }) (v := ?_) rfl (by kernel_rfl) (by kernel_rfl) (by kernel_rfl) (fun _ _ _ h => h) (Or.inl ⟨by rfl, ?_⟩) (by assumption) ?_
  rotate_left
  · (intro w hSw; (try dsimp only at hSw); go_simp; try with_reducible rfl)
  try simp only [Act.put, List.setIfInBounds_toArray, List.set_cons_zero, List.set_cons_succ]
  refine wpAnyH_take (i := 3) (oi := { dst := some 43, op := Go.Op.load 74 (Go.Operand.tmp 42), type := 74, pos := "disk.go:113", after := #[{ on := 2, ground := Go.Ground.data }], guard := none }) (v := ?_) rfl (by kernel_rfl) (by kernel_rfl) (by kernel_rfl) (fun _ _ _ h => h) (Or.inl ⟨by rfl, ?_⟩) (by assumption) ?_
  rotate_left
  · (intro w hSw; (try dsimp only at hSw); go_simp; try with_reducible rfl)
  try simp only [Act.put, List.setIfInBounds_toArray, List.set_cons_zero, List.set_cons_succ]
  refine wpAnyH_take (i := 4) (oi := { dst := some 44, op := Go.Op.move (Go.Operand.tmp 8), type := 3, pos := "disk.go:113", after := #[], guard := none }) (v := ?_) rfl (by kernel_rfl) (by kernel_rfl) (by kernel_rfl) (fun _ _ _ h => h) (Or.inl ⟨by rfl, ?_⟩) (by assumption) ?_
  rotate_left
  · (intro w hSw; (try dsimp only at hSw); go_simp; try with_reducible rfl)
  try simp only [Act.put, List.setIfInBounds_toArray, List.set_cons_zero, List.set_cons_succ]
  refine wpAnyH_take (i := 6) (oi := { dst := some 46, op := Go.Op.move (Go.Operand.tmp 0), type := 45, pos := "disk.go:113", after := #[], guard := none }) (v := ?_) rfl (by kernel_rfl) (by kernel_rfl) (by kernel_rfl) (fun _ _ _ h => h) (Or.inl ⟨by rfl, ?_⟩) (by assumption) ?_
  rotate_left
  · (intro w hSw; (try dsimp only at hSw); go_simp; try with_reducible rfl)
  try simp only [Act.put, List.setIfInBounds_toArray, List.set_cons_zero, List.set_cons_succ]
  refine wpAnyH_take (i := 7) (oi := { dst := some 47, op := Go.Op.nilCheck (Go.Operand.tmp 46), type := 0, pos := "disk.go:113", after := #[{ on := 6, ground := Go.Ground.data }], guard := none }) (v := ?_) rfl (by kernel_rfl) (by kernel_rfl) (by kernel_rfl) (fun _ _ _ h => h) (Or.inl ⟨by rfl, ?_⟩) (by assumption) ?_
  rotate_left
  · (intro w hSw; (try dsimp only at hSw); go_simp; try with_reducible rfl)
  try simp only [Act.put, List.setIfInBounds_toArray, List.set_cons_zero, List.set_cons_succ]
  refine wpAnyH_take (i := 8) (oi := { dst := some 48, op := Go.Op.fieldAddr 76 (Go.Operand.tmp 47) 1, type := 0, pos := "disk.go:113", after := #[{ on := 7, ground := Go.Ground.data }], guard := none }) (v := ?_) rfl (by kernel_rfl) (by kernel_rfl) (by kernel_rfl) (fun _ _ _ h => h) (Or.inl ⟨by rfl, ?_⟩) (by assumption) ?_
  rotate_left
  · (intro w hSw; (try dsimp only at hSw); go_simp; try with_reducible rfl)
  try simp only [Act.put, List.setIfInBounds_toArray, List.set_cons_zero, List.set_cons_succ]
  refine wpAnyH_take (i := 9) (oi := { dst := some 49, op := Go.Op.load 74 (Go.Operand.tmp 48), type := 74, pos := "disk.go:113", after := #[{ on := 8, ground := Go.Ground.data }], guard := none }) (v := ?_) rfl (by kernel_rfl) (by kernel_rfl) (by kernel_rfl) (fun _ _ _ h => h) (Or.inl ⟨by rfl, ?_⟩) (by assumption) ?_
  rotate_left
  · (intro w hSw; (try dsimp only at hSw); go_simp; try with_reducible rfl)
  try simp only [Act.put, List.setIfInBounds_toArray, List.set_cons_zero, List.set_cons_succ]
  refine wpAnyH_take (i := 10) (oi := { dst := some 50, op := Go.Op.move (Go.Operand.tmp 8), type := 3, pos := "disk.go:113", after := #[], guard := none }) (v := ?_) rfl (by kernel_rfl) (by kernel_rfl) (by kernel_rfl) (fun _ _ _ h => h) (Or.inl ⟨by rfl, ?_⟩) (by assumption) ?_
  rotate_left
  · (intro w hSw; (try dsimp only at hSw); go_simp; try with_reducible rfl)
  try simp only [Act.put, List.setIfInBounds_toArray, List.set_cons_zero, List.set_cons_succ]
  refine wpAnyH_take (i := 11) (oi := { dst := some 51, op := Go.Op.indexAddr 74 (Go.Operand.tmp 49) (Go.Operand.tmp 50), type := 0, pos := "disk.go:113", after := #[{ on := 9, ground := Go.Ground.data }, { on := 10, ground := Go.Ground.data }], guard := none }) (v := ?_) rfl (by kernel_rfl) (by kernel_rfl) (by kernel_rfl) (fun _ _ _ h => h) (Or.inl ⟨by rfl, ?_⟩) (by assumption) ?_
  rotate_left
  · (intro w hSw; (try dsimp only at hSw); go_simp; try with_reducible rfl)
  try simp only [Act.put, List.setIfInBounds_toArray, List.set_cons_zero, List.set_cons_succ]
  refine wpAnyH_take (i := 12) (oi := { dst := some 52, op := Go.Op.fieldAddr 78 (Go.Operand.tmp 51) 1, type := 0, pos := "disk.go:113", after := #[{ on := 11, ground := Go.Ground.data }], guard := none }) (v := ?_) rfl (by kernel_rfl) (by kernel_rfl) (by kernel_rfl) (fun _ _ _ h => h) (Or.inl ⟨by rfl, ?_⟩) (by assumption) ?_
  rotate_left
  · (intro w hSw; (try dsimp only at hSw); go_simp; try with_reducible rfl)
  try simp only [Act.put, List.setIfInBounds_toArray, List.set_cons_zero, List.set_cons_succ]
  refine wpAnyH_take (i := 14) (oi := { dst := some 54, op := Go.Op.move (Go.Operand.tmp 2), type := 3, pos := "disk.go:113", after := #[], guard := none }) (v := ?_) rfl (by kernel_rfl) (by kernel_rfl) (by kernel_rfl) (fun _ _ _ h => h) (Or.inl ⟨by rfl, ?_⟩) (by assumption) ?_
  rotate_left
  · (intro w hSw; (try dsimp only at hSw); go_simp; try with_reducible rfl)
  try simp only [Act.put, List.setIfInBounds_toArray, List.set_cons_zero, List.set_cons_succ]
  refine wpAnyH_ready (rs := [5, 13]) (by kernel_rfl) (by simp) ?_
  refine AllReadyH.cons (o := { dst := some 45, op := Go.Op.buildSlice 23 0 #[], type := 23, pos := "disk.go:113", after := #[], guard := none }) rfl (fun K hK => ?_) ?_
  go_simp
  obtain ⟨wA, hwA⟩ : ∃ wA, w2.alloc (.cells #[] 5) = wA := ⟨_, rfl⟩
  rw [hwA]
  have bA : Below w2.heap.size w2 wA := by rw [← hwA]; exact below_refl_alloc _ _
  have c1A : wA.cell? ⟨r, 1, none⟩ = some (.slice (some ⟨g, 0, none⟩) n X.c) := (bA.cell (p := ⟨r, 1, none⟩) hrl).trans c12
  have k1A : wA.cell? ⟨g, i * 3 + 1, none⟩ = some (.slice f'.A f'.b.length f'.c) := (bA.cell (p := ⟨g, i * 3 + 1, none⟩) hgl).trans k12
  refine hK.out _ _ (c1A) (fun hHeld => ?_)
  clear hK K
  try simp only [Act.put, List.setIfInBounds_toArray, List.set_cons_zero, List.set_cons_succ]
  refine wpAnyH_ready (rs := [13]) (by kernel_rfl) (by simp) ?_
  refine AllReadyH.cons (o := { dst := some 53, op := Go.Op.load 23 (Go.Operand.tmp 52), type := 23, pos := "disk.go:113", after := #[{ on := 12, ground := Go.Ground.data }], guard := none }) rfl (fun K hK => ?_) AllReadyH.nil
  go_simp
  refine hK.out _ _ (c1A) (fun hHeld => ?_)
  clear hK K
  try simp only [Act.put, List.setIfInBounds_toArray, List.set_cons_zero, List.set_cons_succ]
  refine wpAnyH_take (i := 15) (oi := { dst := some 55, op := Go.Op.slice 23 (Go.Operand.tmp 53) none (some (Go.Operand.tmp 54)) none, type := 23, pos := "disk.go:113", after := #[{ on := 13, ground := Go.Ground.data }, { on := 14, ground := Go.Ground.data }], guard := none }) (v := ?_) rfl (by kernel_rfl) (by kernel_rfl) (by kernel_rfl) (fun _ _ _ h => h) (Or.inl ⟨by rfl, ?_⟩) (by assumption) ?_
  rotate_left
  · (intro w hSw; (try dsimp only at hSw); go_simp; try with_reducible rfl)
  try simp only [Act.put, List.setIfInBounds_toArray, List.set_cons_zero, List.set_cons_succ]
  refine wpAnyH_ready (rs := [16]) (by kernel_rfl) (by simp) ?_
  refine AllReadyH.cons (o := { dst := some 56, op := Go.Op.call { callee := Go.Callee.builtin Go.Builtin.append, args := #[Go.Operand.tmp 45, Go.Operand.tmp 55], argTypes := #[23, 23] }, type := 23, pos := "disk.go:113", after := #[{ on := 5, ground := Go.Ground.data }, { on := 15, ground := Go.Ground.data }], guard := none }) rfl (fun K hK => ?_) AllReadyH.nil
  rw [if_pos (by rfl)]
  refine wpB_append_op (.tmp 45) (.tmp 55) rfl w2.heap.size _ 0 [] rfl (by rw [← hwA]; exact own_empty w2 _ _) w2.heap.size f'.A k f'.c (f'.b.take k) rfl ((hbs2.below bA)) k (f'.b.take k) (by omega) rfl (by omega) bA.size ?_
  intro A7 c7 w7 o7 b7 hc7 hm7
  have b27 : Below w2.heap.size w2 w7 := bA.trans b7
  have c17 : w7.cell? ⟨r, 1, none⟩ = some (.slice (some ⟨g, 0, none⟩) n X.c) := (b27.cell (p := ⟨r, 1, none⟩) hrl).trans c12
  have k17 : w7.cell? ⟨g, i * 3 + 1, none⟩ = some (.slice f'.A f'.b.length f'.c) := (b27.cell (p := ⟨g, i * 3 + 1, none⟩) hgl).trans k12
  have fz7 : w7.frozen? ⟨g, i * 3 + 1, none⟩ = false := by
    obtain ⟨cs, hb⟩ := (hd2.below b27).row_blk HG.out
    exact hb.free _
  refine hK.out _ _ (c17) (fun hHeld => ?_)
  clear hK K
  try simp only [Act.put, List.setIfInBounds_toArray, List.set_cons_zero, List.set_cons_succ]
  refine wpAnyH_take (i := 17) (oi := { dst := some 57, op := Go.Op.indexAddr 74 (Go.Operand.tmp 43) (Go.Operand.tmp 44), type := 0, pos := "disk.go:113", after := #[{ on := 3, ground := Go.Ground.data }, { on := 4, ground := Go.Ground.data }, { on := 0, ground := Go.Ground.phase }, { on := 1, ground := Go.Ground.phase }, { on := 2, ground := Go.Ground.phase }, { on := 3, ground := Go.Ground.phase }, { on := 4, ground := Go.Ground.phase }, { on := 5, ground := Go.Ground.phase }, { on := 6, ground := Go.Ground.phase }, { on := 7, ground := Go.Ground.phase }, { on := 8, ground := Go.Ground.phase }, { on := 9, ground := Go.Ground.phase }, { on := 10, ground := Go.Ground.phase }, { on := 11, ground := Go.Ground.phase }, { on := 12, ground := Go.Ground.phase }, { on := 13, ground := Go.Ground.phase }, { on := 14, ground := Go.Ground.phase }, { on := 15, ground := Go.Ground.phase }, { on := 16, ground := Go.Ground.phase }], guard := none }) (v := ?_) rfl (by kernel_rfl) (by kernel_rfl) (by kernel_rfl) (fun _ _ _ h => h) (Or.inl ⟨by rfl, ?_⟩) (by assumption) ?_
  rotate_left
  · (intro w hSw; (try dsimp only at hSw); go_simp; try with_reducible rfl)
  try simp only [Act.put, List.setIfInBounds_toArray, List.set_cons_zero, List.set_cons_succ]
  refine wpAnyH_take (i := 18) (oi := { dst := some 58, op := Go.Op.fieldAddr 78 (Go.Operand.tmp 57) 1, type := 0, pos := "disk.go:113", after := #[{ on := 17, ground := Go.Ground.data }, { on := 0, ground := Go.Ground.phase }, { on := 1, ground := Go.Ground.phase }, { on := 2, ground := Go.Ground.phase }, { on := 3, ground := Go.Ground.phase }, { on := 4, ground := Go.Ground.phase }, { on := 5, ground := Go.Ground.phase }, { on := 6, ground := Go.Ground.phase }, { on := 7, ground := Go.Ground.phase }, { on := 8, ground := Go.Ground.phase }, { on := 9, ground := Go.Ground.phase }, { on := 10, ground := Go.Ground.phase }, { on := 11, ground := Go.Ground.phase }, { on := 12, ground := Go.Ground.phase }, { on := 13, ground := Go.Ground.phase }, { on := 14, ground := Go.Ground.phase }, { on := 15, ground := Go.Ground.phase }, { on := 16, ground := Go.Ground.phase }], guard := none }) (v := ?_) rfl (by kernel_rfl) (by kernel_rfl) (by kernel_rfl) (fun _ _ _ h => h) (Or.inl ⟨by rfl, ?_⟩) (by assumption) ?_
  rotate_left
  · (intro w hSw; (try dsimp only at hSw); go_simp; try with_reducible rfl)
  try simp only [Act.put, List.setIfInBounds_toArray, List.set_cons_zero, List.set_cons_succ]
  refine wpAnyH_ready (rs := [19]) (by kernel_rfl) (by simp) ?_
  refine AllReadyH.cons (o := { dst := none, op := Go.Op.store 23 (Go.Operand.tmp 58) (Go.Operand.tmp 56), type := 0, pos := "disk.go:113", after := #[{ on := 18, ground := Go.Ground.data }, { on := 16, ground := Go.Ground.data }, { on := 16, ground := Go.Ground.chain }, { on := 0, ground := Go.Ground.phase }, { on := 1, ground := Go.Ground.phase }, { on := 2, ground := Go.Ground.phase }, { on := 3, ground := Go.Ground.phase }, { on := 4, ground := Go.Ground.phase }, { on := 5, ground := Go.Ground.phase }, { on := 6, ground := Go.Ground.phase }, { on := 7, ground := Go.Ground.phase }, { on := 8, ground := Go.Ground.phase }, { on := 9, ground := Go.Ground.phase }, { on := 10, ground := Go.Ground.phase }, { on := 11, ground := Go.Ground.phase }, { on := 12, ground := Go.Ground.phase }, { on := 13, ground := Go.Ground.phase }, { on := 14, ground := Go.Ground.phase }, { on := 15, ground := Go.Ground.phase }, { on := 16, ground := Go.Ground.phase }], guard := none }) rfl (fun K hK => ?_) AllReadyH.nil
  go_simp
  obtain ⟨w8, hw8⟩ : ∃ w8, w7.setCell ⟨g, i * 3 + 1, none⟩ (.slice A7 k c7) = w8 := ⟨_, rfl⟩
  rw [hw8]
  have c18 : w8.cell? ⟨r, 1, none⟩ = some (.slice (some ⟨g, 0, none⟩) n X.c) := by rw [← hw8]; exact (World.cell?_setCell_other _ _ _ _ (by simp [hgr])).trans c17
  refine hK.out _ _ (c18) (fun hHeld => ?_)
  clear hK K
  try simp only [Act.put, List.setIfInBounds_toArray, List.set_cons_zero, List.set_cons_succ]
  refine wpAnyH_done (by kernel_rfl) ?_ _
  rotate_left 1
  refine AllReadyH.cons (o := { dst := some 53, op := Go.Op.load 23 (Go.Operand.tmp 52), type := 23, pos := "disk.go:113", after := #[{ on := 12, ground := Go.Ground.data }], guard := none }) rfl (fun K hK => ?_) AllReadyH.nil
  go_simp
  refine hK.out _ _ (c12) (fun hHeld => ?_)
  clear hK K
  try simp only [Act.put, List.setIfInBounds_toArray, List.set_cons_zero, List.set_cons_succ]
  refine wpAnyH_take (i := 15) (oi := { dst := some 55, op := Go.Op.slice 23 (Go.Operand.tmp 53) none (some (Go.Operand.tmp 54)) none, type := 23, pos := "disk.go:113", after := #[{ on := 13, ground := Go.Ground.data }, { on := 14, ground := Go.Ground.data }], guard := none }) (v := ?_) rfl (by kernel_rfl) (by kernel_rfl) (by kernel_rfl) (fun _ _ _ h => h) (Or.inl ⟨by rfl, ?_⟩) (by assumption) ?_
  rotate_left
  · (intro w hSw; (try dsimp only at hSw); go_simp; try with_reducible rfl)
  try simp only [Act.put, List.setIfInBounds_toArray, List.set_cons_zero, List.set_cons_succ]
  refine wpAnyH_ready (rs := [5]) (by kernel_rfl) (by simp) ?_
  refine AllReadyH.cons (o := { dst := some 45, op := Go.Op.buildSlice 23 0 #[], type := 23, pos := "disk.go:113", after := #[], guard := none }) rfl (fun K hK => ?_) AllReadyH.nil
  go_simp
  obtain ⟨wA, hwA⟩ : ∃ wA, w2.alloc (.cells #[] 5) = wA := ⟨_, rfl⟩
  rw [hwA]
  have bA : Below w2.heap.size w2 wA := by rw [← hwA]; exact below_refl_alloc _ _
  have c1A : wA.cell? ⟨r, 1, none⟩ = some (.slice (some ⟨g, 0, none⟩) n X.c) := (bA.cell (p := ⟨r, 1, none⟩) hrl).trans c12
  have k1A : wA.cell? ⟨g, i * 3 + 1, none⟩ = some (.slice f'.A f'.b.length f'.c) := (bA.cell (p := ⟨g, i * 3 + 1, none⟩) hgl).trans k12
  refine hK.out _ _ (c1A) (fun hHeld => ?_)
  clear hK K
  try simp only [Act.put, List.setIfInBounds_toArray, List.set_cons_zero, List.set_cons_succ]
  refine wpAnyH_ready (rs := [16]) (by kernel_rfl) (by simp) ?_
  refine AllReadyH.cons (o := { dst := some 56, op := Go.Op.call { callee := Go.Callee.builtin Go.Builtin.append, args := #[Go.Operand.tmp 45, Go.Operand.tmp 55], argTypes := #[23, 23] }, type := 23, pos := "disk.go:113", after := #[{ on := 5, ground := Go.Ground.data }, { on := 15, ground := Go.Ground.data }], guard := none }) rfl (fun K hK => ?_) AllReadyH.nil
  rw [if_pos (by rfl)]
  refine wpB_append_op (.tmp 45) (.tmp 55) rfl w2.heap.size _ 0 [] rfl (by rw [← hwA]; exact own_empty w2 _ _) w2.heap.size f'.A k f'.c (f'.b.take k) rfl ((hbs2.below bA)) k (f'.b.take k) (by omega) rfl (by omega) bA.size ?_
  intro A7 c7 w7 o7 b7 hc7 hm7
  have b27 : Below w2.heap.size w2 w7 := bA.trans b7
  have c17 : w7.cell? ⟨r, 1, none⟩ = some (.slice (some ⟨g, 0, none⟩) n X.c) := (b27.cell (p := ⟨r, 1, none⟩) hrl).trans c12
  have k17 : w7.cell? ⟨g, i * 3 + 1, none⟩ = some (.slice f'.A f'.b.length f'.c) := (b27.cell (p := ⟨g, i * 3 + 1, none⟩) hgl).trans k12
  have fz7 : w7.frozen? ⟨g, i * 3 + 1, none⟩ = false := by
    obtain ⟨cs, hb⟩ := (hd2.below b27).row_blk HG.out
    exact hb.free _
  refine hK.out _ _ (c17) (fun hHeld => ?_)
  clear hK K
  try simp only [Act.put, List.setIfInBounds_toArray, List.set_cons_zero, List.set_cons_succ]
  refine wpAnyH_take (i := 17) (oi := { dst := some 57, op := Go.Op.indexAddr 74 (Go.Operand.tmp 43) (Go.Operand.tmp 44), type := 0, pos := "disk.go:113", after := #[{ on := 3, ground := Go.Ground.data }, { on := 4, ground := Go.Ground.data }, { on := 0, ground := Go.Ground.phase }, { on := 1, ground := Go.Ground.phase }, { on := 2, ground := Go.Ground.phase }, { on := 3, ground := Go.Ground.phase }, { on := 4, ground := Go.Ground.phase }, { on := 5, ground := Go.Ground.phase }, { on := 6, ground := Go.Ground.phase }, { on := 7, ground := Go.Ground.phase }, { on := 8, ground := Go.Ground.phase }, { on := 9, ground := Go.Ground.phase }, { on := 10, ground := Go.Ground.phase }, { on := 11, ground := Go.Ground.phase }, { on := 12, ground := Go.Ground.phase }, { on := 13, ground := Go.Ground.phase }, { on := 14, ground := Go.Ground.phase }, { on := 15, ground := Go.Ground.phase }, { on := 16, ground := Go.Ground.phase }], guard := none }) (v := ?_) rfl (by kernel_rfl) (by kernel_rfl) (by kernel_rfl) (fun _ _ _ h => h) (Or.inl ⟨by rfl, ?_⟩) (by assumption) ?_
  rotate_left
  · (intro w hSw; (try dsimp only at hSw); go_simp; try with_reducible rfl)
  try simp only [Act.put, List.setIfInBounds_toArray, List.set_cons_zero, List.set_cons_succ]
  refine wpAnyH_take (i := 18) (oi := { dst := some 58, op := Go.Op.fieldAddr 78 (Go.Operand.tmp 57) 1, type := 0, pos := "disk.go:113", after := #[{ on := 17, ground := Go.Ground.data }, { on := 0, ground := Go.Ground.phase }, { on := 1, ground := Go.Ground.phase }, { on := 2, ground := Go.Ground.phase }, { on := 3, ground := Go.Ground.phase }, { on := 4, ground := Go.Ground.phase }, { on := 5, ground := Go.Ground.phase }, { on := 6, ground := Go.Ground.phase }, { on := 7, ground := Go.Ground.phase }, { on := 8, ground := Go.Ground.phase }, { on := 9, ground := Go.Ground.phase }, { on := 10, ground := Go.Ground.phase }, { on := 11, ground := Go.Ground.phase }, { on := 12, ground := Go.Ground.phase }, { on := 13, ground := Go.Ground.phase }, { on := 14, ground := Go.Ground.phase }, { on := 15, ground := Go.Ground.phase }, { on := 16, ground := Go.Ground.phase }], guard := none }) (v := ?_) rfl (by kernel_rfl) (by kernel_rfl) (by kernel_rfl) (fun _ _ _ h => h) (Or.inl ⟨by rfl, ?_⟩) (by assumption) ?_
  rotate_left
  · (intro w hSw; (try dsimp only at hSw); go_simp; try with_reducible rfl)
  try simp only [Act.put, List.setIfInBounds_toArray, List.set_cons_zero, List.set_cons_succ]
  refine wpAnyH_ready (rs := [19]) (by kernel_rfl) (by simp) ?_
  refine AllReadyH.cons (o := { dst := none, op := Go.Op.store 23 (Go.Operand.tmp 58) (Go.Operand.tmp 56), type := 0, pos := "disk.go:113", after := #[{ on := 18, ground := Go.Ground.data }, { on := 16, ground := Go.Ground.data }, { on := 16, ground := Go.Ground.chain }, { on := 0, ground := Go.Ground.phase }, { on := 1, ground := Go.Ground.phase }, { on := 2, ground := Go.Ground.phase }, { on := 3, ground := Go.Ground.phase }, { on := 4, ground := Go.Ground.phase }, { on := 5, ground := Go.Ground.phase }, { on := 6, ground := Go.Ground.phase }, { on := 7, ground := Go.Ground.phase }, { on := 8, ground := Go.Ground.phase }, { on := 9, ground := Go.Ground.phase }, { on := 10, ground := Go.Ground.phase }, { on := 11, ground := Go.Ground.phase }, { on := 12, ground := Go.Ground.phase }, { on := 13, ground := Go.Ground.phase }, { on := 14, ground := Go.Ground.phase }, { on := 15, ground := Go.Ground.phase }, { on := 16, ground := Go.Ground.phase }], guard := none }) rfl (fun K hK => ?_) AllReadyH.nil
  go_simp
  obtain ⟨w8, hw8⟩ : ∃ w8, w7.setCell ⟨g, i * 3 + 1, none⟩ (.slice A7 k c7) = w8 := ⟨_, rfl⟩
  rw [hw8]
  have c18 : w8.cell? ⟨r, 1, none⟩ = some (.slice (some ⟨g, 0, none⟩) n X.c) := by rw [← hw8]; exact (World.cell?_setCell_other _ _ _ _ (by simp [hgr])).trans c17
  refine hK.out _ _ (c18) (fun hHeld => ?_)
  clear hK K
  try simp only [Act.put, List.setIfInBounds_toArray, List.set_cons_zero, List.set_cons_succ]
  refine wpAnyH_done (by kernel_rfl) ?_ _
  all_goals (
    have k28 : w8.cell? ⟨g, i * 3 + 2, none⟩ = some (.int .i64 (f'.l : Int)) := by
      rw [← hw8]
      exact (World.cell?_setCell_other _ _ _ _ (by simp)).trans ((b27.cell (p := ⟨g, i * 3 + 2, none⟩) hgl).trans k22)
    have fz8 : w8.frozen? ⟨g, i * 3 + 2, none⟩ = false := by
      obtain ⟨cs, hb⟩ := (hd2.below b27).row_blk HG.out
      rw [← hw8]
      exact (hb.set _ _).free _
    have hrow8 : w8.ownsRow base 78 3 X.v X.L.length ((X.L.set i ⟨f'.s, A7, c7, f'.b.take k, f'.l⟩).flatMap rcells) := by
      rw [← hw8]
      exact row_store (hd2.below b27).row HG.out HF.out (j := 1) (by omega) (by simp [rcells, RFE.v, List.length_take, Nat.min_eq_left hk])
    have hr7 : Row w7 (.slice A7 k c7) (f'.b.take k) := row_of_own o7
    have hne7 : ∀ q, (Value.slice A7 k c7).ownBlock = some q → w2.heap.size ≤ q ∧ q ≠ g := fun q hq => ⟨(o7.lt q hq).1, fun e => by have := (o7.lt q hq).1; omega⟩
    have H8 := Lib.hid (And.intro hrow8 (And.intro hr7 (And.intro hne7 (And.intro b27 (And.intro hd2 (And.intro hw8 hw2))))))
    clear hrow8 hr7 hne7 c17 k17 fz7 o7 hbs2 hfc q7 q8 hHeld hw8 hd2 hw2 b27 b7 bA c1A k1A hwA c12 k12 k22
    go_wp2_with fail
    refine wp_region_held_drew (S := fun w' => w'.cell? ⟨r, 1, none⟩ = some (.slice (some ⟨g, 0, none⟩) n X.c)) (by kernel_rfl) (c18) (fun hHeld => ?_)
    obtain ⟨w9, hw9⟩ : ∃ w9, w8.drew = w9 := ⟨_, rfl⟩
    rw [hw9] at hHeld ⊢
    have c19 : w9.cell? ⟨r, 1, none⟩ = some (.slice (some ⟨g, 0, none⟩) n X.c) := by rw [← hw9]; exact c18
    have k29 : w9.cell? ⟨g, i * 3 + 2, none⟩ = some (.int .i64 (f'.l : Int)) := by rw [← hw9]; exact k28
    have fz9 : w9.frozen? ⟨g, i * 3 + 2, none⟩ = false := by rw [← hw9]; exact fz8
    refine wpAnyH_take (i := 0) (oi := { dst := some 59, op := Go.Op.move (Go.Operand.tmp 0), type := 45, pos := "disk.go:114", after := #[], guard := none }) (v := ?_) rfl (by kernel_rfl) (by kernel_rfl) (by kernel_rfl) (fun _ _ _ h => h) (Or.inl ⟨by rfl, ?_⟩) (by assumption) ?_
    rotate_left
    · (intro w hSw; (try dsimp only at hSw); go_simp; try with_reducible rfl)
    try simp only [Act.put, List.setIfInBounds_toArray, List.set_cons_zero, List.set_cons_succ]
    refine wpAnyH_take (i := 1) (oi := { dst := some 60, op := Go.Op.nilCheck (Go.Operand.tmp 59), type := 0, pos := "disk.go:114", after := #[{ on := 0, ground := Go.Ground.data }], guard := none }) (v := ?_) rfl (by kernel_rfl) (by kernel_rfl) (by kernel_rfl) (fun _ _ _ h => h) (Or.inl ⟨by rfl, ?_⟩) (by assumption) ?_
    rotate_left
    · (intro w hSw; (try dsimp only at hSw); go_simp; try with_reducible rfl)
    try simp only [Act.put, List.setIfInBounds_toArray, List.set_cons_zero, List.set_cons_succ]
    refine wpAnyH_take (i := 2) (oi := { dst := some 61, op := Go.Op.fieldAddr 76 (Go.Operand.tmp 60) 1, type := 0, pos := "disk.go:114", after := #[{ on := 1, ground := Go.Ground.data }], guard := none }) (v := ?_) rfl (by kernel_rfl) (by kernel_rfl) (by kernel_rfl) (fun _ _ _ h => h) (Or.inl ⟨by rfl, ?_⟩) (by assumption) ?_
    rotate_left
    · (intro w hSw; (try dsimp only at hSw); go_simp; try with_reducible rfl)
    try simp only [Act.put, List.setIfInBounds_toArray, List.set_cons_zero, List.set_cons_succ]
    refine wpAnyH_take (i := 3) (oi := { dst := some 62, op := Go.Op.load 74 (Go.Operand.tmp 61), type := 74, pos := "disk.go:114", after := #[{ on := 2, ground := Go.Ground.data }], guard := none }) (v := ?_) rfl (by kernel_rfl) (by kernel_rfl) (by kernel_rfl) (fun _ _ _ h => h) (Or.inl ⟨by rfl, ?_⟩) (by assumption) ?_
    rotate_left
    · (intro w hSw; (try dsimp only at hSw); go_simp; try with_reducible rfl)
    try simp only [Act.put, List.setIfInBounds_toArray, List.set_cons_zero, List.set_cons_succ]
    refine wpAnyH_take (i := 4) (oi := { dst := some 63, op := Go.Op.move (Go.Operand.tmp 8), type := 3, pos := "disk.go:114", after := #[], guard := none }) (v := ?_) rfl (by kernel_rfl) (by kernel_rfl) (by kernel_rfl) (fun _ _ _ h => h) (Or.inl ⟨by rfl, ?_⟩) (by assumption) ?_
    rotate_left
    · (intro w hSw; (try dsimp only at hSw); go_simp; try with_reducible rfl)
    try simp only [Act.put, List.setIfInBounds_toArray, List.set_cons_zero, List.set_cons_succ]
    refine wpAnyH_take (i := 5) (oi := { dst := some 64, op := Go.Op.move (Go.Operand.tmp 0), type := 45, pos := "disk.go:114", after := #[], guard := none }) (v := ?_) rfl (by kernel_rfl) (by kernel_rfl) (by kernel_rfl) (fun _ _ _ h => h) (Or.inl ⟨by rfl, ?_⟩) (by assumption) ?_
    rotate_left
    · (intro w hSw; (try dsimp only at hSw); go_simp; try with_reducible rfl)
    try simp only [Act.put, List.setIfInBounds_toArray, List.set_cons_zero, List.set_cons_succ]
    refine wpAnyH_take (i := 6) (oi := { dst := some 65, op := Go.Op.nilCheck (Go.Operand.tmp 64), type := 0, pos := "disk.go:114", after := #[{ on := 5, ground := Go.Ground.data }], guard := none }) (v := ?_) rfl (by kernel_rfl) (by kernel_rfl) (by kernel_rfl) (fun _ _ _ h => h) (Or.inl ⟨by rfl, ?_⟩) (by assumption) ?_
    rotate_left
    · (intro w hSw; (try dsimp only at hSw); go_simp; try with_reducible rfl)
    try simp only [Act.put, List.setIfInBounds_toArray, List.set_cons_zero, List.set_cons_succ]
    refine wpAnyH_take (i := 7) (oi := { dst := some 66, op := Go.Op.fieldAddr 76 (Go.Operand.tmp 65) 1, type := 0, pos := "disk.go:114", after := #[{ on := 6, ground := Go.Ground.data }], guard := none }) (v := ?_) rfl (by kernel_rfl) (by kernel_rfl) (by kernel_rfl) (fun _ _ _ h => h) (Or.inl ⟨by rfl, ?_⟩) (by assumption) ?_
    rotate_left
    · (intro w hSw; (try dsimp only at hSw); go_simp; try with_reducible rfl)
    try simp only [Act.put, List.setIfInBounds_toArray, List.set_cons_zero, List.set_cons_succ]
    refine wpAnyH_take (i := 8) (oi := { dst := some 67, op := Go.Op.load 74 (Go.Operand.tmp 66), type := 74, pos := "disk.go:114", after := #[{ on := 7, ground := Go.Ground.data }], guard := none }) (v := ?_) rfl (by kernel_rfl) (by kernel_rfl) (by kernel_rfl) (fun _ _ _ h => h) (Or.inl ⟨by rfl, ?_⟩) (by assumption) ?_
    rotate_left
    · (intro w hSw; (try dsimp only at hSw); go_simp; try with_reducible rfl)
    try simp only [Act.put, List.setIfInBounds_toArray, List.set_cons_zero, List.set_cons_succ]
    refine wpAnyH_take (i := 9) (oi := { dst := some 68, op := Go.Op.move (Go.Operand.tmp 8), type := 3, pos := "disk.go:114", after := #[], guard := none }) (v := ?_) rfl (by kernel_rfl) (by kernel_rfl) (by kernel_rfl) (fun _ _ _ h => h) (Or.inl ⟨by rfl, ?_⟩) (by assumption) ?_
    rotate_left
    · (intro w hSw; (try dsimp only at hSw); go_simp; try with_reducible rfl)
    try simp only [Act.put, List.setIfInBounds_toArray, List.set_cons_zero, List.set_cons_succ]
    refine wpAnyH_take (i := 10) (oi := { dst := some 69, op := Go.Op.indexAddr 74 (Go.Operand.tmp 67) (Go.Operand.tmp 68), type := 0, pos := "disk.go:114", after := #[{ on := 8, ground := Go.Ground.data }, { on := 9, ground := Go.Ground.data }], guard := none }) (v := ?_) rfl (by kernel_rfl) (by kernel_rfl) (by kernel_rfl) (fun _ _ _ h => h) (Or.inl ⟨by rfl, ?_⟩) (by assumption) ?_
    rotate_left
    · (intro w hSw; (try dsimp only at hSw); go_simp; try with_reducible rfl)
    try simp only [Act.put, List.setIfInBounds_toArray, List.set_cons_zero, List.set_cons_succ]
    refine wpAnyH_take (i := 11) (oi := { dst := some 70, op := Go.Op.fieldAddr 78 (Go.Operand.tmp 69) 2, type := 0, pos := "disk.go:114", after := #[{ on := 10, ground := Go.Ground.data }], guard := none }) (v := ?_) rfl (by kernel_rfl) (by kernel_rfl) (by kernel_rfl) (fun _ _ _ h => h) (Or.inl ⟨by rfl, ?_⟩) (by assumption) ?_
    rotate_left
    · (intro w hSw; (try dsimp only at hSw); go_simp; try with_reducible rfl)
    try simp only [Act.put, List.setIfInBounds_toArray, List.set_cons_zero, List.set_cons_succ]
    refine wpAnyH_take (i := 13) (oi := { dst := some 72, op := Go.Op.move (Go.Operand.tmp 2), type := 3, pos := "disk.go:114", after := #[], guard := none }) (v := ?_) rfl (by kernel_rfl) (by kernel_rfl) (by kernel_rfl) (fun _ _ _ h => h) (Or.inl ⟨by rfl, ?_⟩) (by assumption) ?_
    rotate_left
    · (intro w hSw; (try dsimp only at hSw); go_simp; try with_reducible rfl)
    try simp only [Act.put, List.setIfInBounds_toArray, List.set_cons_zero, List.set_cons_succ]
    refine wpAnyH_ready (rs := [12]) (by kernel_rfl) (by simp) ?_
    refine AllReadyH.cons (o := { dst := some 71, op := Go.Op.load 3 (Go.Operand.tmp 70), type := 3, pos := "disk.go:114", after := #[{ on := 11, ground := Go.Ground.data }], guard := none }) rfl (fun K hK => ?_) AllReadyH.nil
    go_simp
    refine hK.out _ _ (c19) (fun hHeld => ?_)
    clear hK K
    try simp only [Act.put, List.setIfInBounds_toArray, List.set_cons_zero, List.set_cons_succ]
    refine wpAnyH_take (i := 14) (oi := { dst := some 73, op := Go.Op.call { callee := Go.Callee.builtin Go.Builtin.min, args := #[Go.Operand.tmp 71, Go.Operand.tmp 72], argTypes := #[3, 3] }, type := 3, pos := "disk.go:114", after := #[{ on := 12, ground := Go.Ground.data }, { on := 13, ground := Go.Ground.data }], guard := none }) (v := ?_) rfl (by kernel_rfl) (by kernel_rfl) (by kernel_rfl) (fun _ _ _ h => h) (Or.inl ⟨by rfl, ?_⟩) (by assumption) ?_
    rotate_left
    · (intro w hSw; (try dsimp only at hSw); go_simp; try with_reducible rfl)
    try simp only [Act.put, List.setIfInBounds_toArray, List.set_cons_zero, List.set_cons_succ]
    refine wpAnyH_take (i := 15) (oi := { dst := some 74, op := Go.Op.indexAddr 74 (Go.Operand.tmp 62) (Go.Operand.tmp 63), type := 0, pos := "disk.go:114", after := #[{ on := 3, ground := Go.Ground.data }, { on := 4, ground := Go.Ground.data }, { on := 0, ground := Go.Ground.phase }, { on := 1, ground := Go.Ground.phase }, { on := 2, ground := Go.Ground.phase }, { on := 3, ground := Go.Ground.phase }, { on := 4, ground := Go.Ground.phase }, { on := 5, ground := Go.Ground.phase }, { on := 6, ground := Go.Ground.phase }, { on := 7, ground := Go.Ground.phase }, { on := 8, ground := Go.Ground.phase }, { on := 9, ground := Go.Ground.phase }, { on := 10, ground := Go.Ground.phase }, { on := 11, ground := Go.Ground.phase }, { on := 12, ground := Go.Ground.phase }, { on := 13, ground := Go.Ground.phase }, { on := 14, ground := Go.Ground.phase }], guard := none }) (v := ?_) rfl (by kernel_rfl) (by kernel_rfl) (by kernel_rfl) (fun _ _ _ h => h) (Or.inl ⟨by rfl, ?_⟩) (by assumption) ?_
    rotate_left
    · (intro w hSw; (try dsimp only at hSw); go_simp; try with_reducible rfl)
    try simp only [Act.put, List.setIfInBounds_toArray, List.set_cons_zero, List.set_cons_succ]
    refine wpAnyH_take (i := 16) (oi := { dst := some 75, op := Go.Op.fieldAddr 78 (Go.Operand.tmp 74) 2, type := 0, pos := "disk.go:114", after := #[{ on := 15, ground := Go.Ground.data }, { on := 0, ground := Go.Ground.phase }, { on := 1, ground := Go.Ground.phase }, { on := 2, ground := Go.Ground.phase }, { on := 3, ground := Go.Ground.phase }, { on := 4, ground := Go.Ground.phase }, { on := 5, ground := Go.Ground.phase }, { on := 6, ground := Go.Ground.phase }, { on := 7, ground := Go.Ground.phase }, { on := 8, ground := Go.Ground.phase }, { on := 9, ground := Go.Ground.phase }, { on := 10, ground := Go.Ground.phase }, { on := 11, ground := Go.Ground.phase }, { on := 12, ground := Go.Ground.phase }, { on := 13, ground := Go.Ground.phase }, { on := 14, ground := Go.Ground.phase }], guard := none }) (v := ?_) rfl (by kernel_rfl) (by kernel_rfl) (by kernel_rfl) (fun _ _ _ h => h) (Or.inl ⟨by rfl, ?_⟩) (by assumption) ?_
    rotate_left
    · (intro w hSw; (try dsimp only at hSw); go_simp; try with_reducible rfl)
    try simp only [Act.put, List.setIfInBounds_toArray, List.set_cons_zero, List.set_cons_succ]
    refine wpAnyH_ready (rs := [17]) (by kernel_rfl) (by simp) ?_
    refine AllReadyH.cons (o := { dst := none, op := Go.Op.store 3 (Go.Operand.tmp 75) (Go.Operand.tmp 73), type := 0, pos := "disk.go:114", after := #[{ on := 16, ground := Go.Ground.data }, { on := 14, ground := Go.Ground.data }, { on := 0, ground := Go.Ground.phase }, { on := 1, ground := Go.Ground.phase }, { on := 2, ground := Go.Ground.phase }, { on := 3, ground := Go.Ground.phase }, { on := 4, ground := Go.Ground.phase }, { on := 5, ground := Go.Ground.phase }, { on := 6, ground := Go.Ground.phase }, { on := 7, ground := Go.Ground.phase }, { on := 8, ground := Go.Ground.phase }, { on := 9, ground := Go.Ground.phase }, { on := 10, ground := Go.Ground.phase }, { on := 11, ground := Go.Ground.phase }, { on := 12, ground := Go.Ground.phase }, { on := 13, ground := Go.Ground.phase }, { on := 14, ground := Go.Ground.phase }], guard := none }) rfl (fun K hK => ?_) AllReadyH.nil
    go_simp
    obtain ⟨wE, hwE⟩ : ∃ wE, w9.setCell ⟨g, i * 3 + 2, none⟩ (.int .i64 (if k < f'.l then (k : Int) else (f'.l : Int))) = wE := ⟨_, rfl⟩
    rw [hwE]
    have c1E : wE.cell? ⟨r, 1, none⟩ = some (.slice (some ⟨g, 0, none⟩) n X.c) := by rw [← hwE]; exact (World.cell?_setCell_other _ _ _ _ (by simp [hgr])).trans c19
    refine hK.out _ _ (c1E) (fun hHeld => ?_)
    clear hK K
    try simp only [Act.put, List.setIfInBounds_toArray, List.set_cons_zero, List.set_cons_succ]
    refine wpAnyH_done (by kernel_rfl) ?_ _
    clear hHeld
    have hmn : (if k < f'.l then (k : Int) else (f'.l : Int)) = ((Nat.min f'.l k : Nat) : Int) := by
      split
      · rw [show Nat.min f'.l k = k from Nat.min_eq_right (by omega)]
      · rw [show Nat.min f'.l k = f'.l from Nat.min_eq_left (by omega)]
    have hlt9 : (X.L.set i ⟨f'.s, A7, c7, f'.b.take k, f'.l⟩)[i]? = some ⟨f'.s, A7, c7, f'.b.take k, f'.l⟩ := by rw [List.getElem?_set_self (by have := HN.out; omega)]
    have hrow9 : w9.ownsRow base 78 3 X.v X.L.length ((X.L.set i ⟨f'.s, A7, c7, f'.b.take k, f'.l⟩).flatMap rcells) := by rw [← hw9]; exact own_block H8.out.1 (fun _ _ => rfl)
    have hrowE : wE.ownsRow base 78 3 X.v X.L.length ((X.L.set i (truncX f' A7 c7 k)).flatMap rcells) := by
      rw [← hwE]
      have := row_store (u := .int .i64 (if k < f'.l then (k : Int) else (f'.l : Int))) (f' := truncX f' A7 c7 k) hrow9 HG.out hlt9 (j := 2) (by omega) (by rw [hmn]; rfl)
      rwa [List.set_set] at this
    have hlen7 : (f'.b.take k).length = k := by rw [List.length_take, Nat.min_eq_left hk]
    have ht78 : Turn [g] w2 w8 := by
      rw [← H8.out.2.2.2.2.2.1]
      exact (Turn.of_below H8.out.2.2.2.1).trans (Turn.set (B := [g]) (.inl (by simp))) (fun q hq => .inl hq)
    have ht2E : Turn [g] w2 wE := by
      rw [← hwE, ← hw9]
      exact (ht78.drewN 1).trans (Turn.set (B := [g]) (.inl (by simp))) (fun q hq => .inl hq)
    have hrE : Row wE (truncX f' A7 c7 k).v (truncX f' A7 c7 k).b := by
      have e9 : (truncX f' A7 c7 k).v = .slice A7 k c7 := by unfold truncX RFE.v; simp only [hlen7]
      rw [e9]
      refine H8.out.2.1.keep fun q hq => ?_
      have hqg := (H8.out.2.2.1 q hq).2
      rw [← hwE, ← hw9]
      refine (Below.heap_setCell _ _ _ _ hqg).trans ?_
      show w8.heap[q]? = _
      rw [← H8.out.2.2.2.2.2.1]
      exact Below.heap_setCell _ _ _ _ hqg
    have hfw : RFW wE (truncX f' A7 c7 k) := ⟨hrE, by unfold truncX; simp only [hlen7]; exact Nat.min_le_right _ _, HFL.out.2.2⟩
    have hbE : ∀ q, (truncX f' A7 c7 k).v.ownBlock = some q → w2.heap.size ≤ q := fun q hq => by
      have e9 : (truncX f' A7 c7 k).v = .slice A7 k c7 := by unfold truncX RFE.v; simp only [hlen7]
      rw [e9] at hq
      exact (H8.out.2.2.1 q hq).1
    have hd2' := H8.out.2.2.2.2.1
    have hX1 := hd2'.set_row (f' := truncX f' A7 c7 k) HG.out HF.out ht2E hrowE hfw (fun q hq => Nat.le_trans hd2'.base_le (hbE q hq)) (by have := hd2'.room; have h9 : (truncX f' A7 c7 k).b.length ≤ f'.b.length := (by unfold truncX; simp only [hlen7]; exact hk); omega)
    have hs12 : w2.heap.size = w1.heap.size := by rw [← H8.out.2.2.2.2.2.2]; rfl
    have ht1E : Turn (X.bl r) w1 wE := by
      have h9 : Turn (X.bl r) w1 w2 := by rw [← H8.out.2.2.2.2.2.2]; exact (Turn.refl _ w1).drewN 1
      exact h9.trans ht2E (fun q hq => .inl (by simp at hq; subst hq; exact rbl_v HG.out))
    obtain ⟨W5, hW5⟩ : ∃ W5, wE = W5 := ⟨_, rfl⟩
    have HX : Hid (RW W5 base r { X with L := X.L.set i (truncX f' A7 c7 k) } ∧ Turn (X.bl r) w1 W5 ∧ ∀ q ∈ ({ X with L := X.L.set i (truncX f' A7 c7 k) } : RDS).bl r, q ∈ X.bl r ∨ w1.heap.size ≤ q) := by
      rw [← hW5]
      refine ⟨hX1, ht1E, fun q hq => ?_⟩
      rcases bl_set HF.out q hq with h1 | h1
      · exact .inl h1
      · exact .inr (by rw [← hs12]; exact hbE q h1)
    clear hmn hlt9 hrow9 hrowE hlen7 ht78 ht2E hrE hfw hbE hd2' hX1 hs12 ht1E c1E c18 c19 k28 k29 fz8 fz9 hwE hw9
    rw [hW5]
    generalize (if k < f'.l then (k : Int) else (f'.l : Int)) = zz
    go_wp2_with fail
    have hbn := rdid_any base r _ W5 HX.out.1
    have HBN := Lib.hid hbn
    clear hbn
    refine (unhide3 HBN).mono ?_
    rintro en w5 ⟨rfl, d5, t5⟩
    go_wp2_with fail
    go_ret
    refine ⟨0, _, rfl, .inr (.inr ⟨H0.out, HE.out, i, f', HI.out, HF.out, .inr ⟨by omega, by omega, rfl, A7, c7, by rw [Int.toNat_natCast]⟩⟩), d5, ?_, ?_⟩
    · have t2 : Turn (X.bl r) w W5 := HT1.out.trans HX.out.2.1 (fun i hi => .inl hi)
      exact t2.trans t5 (fun k hk => by
        rcases HX.out.2.2 k hk with h1 | h1
        · exact .inl h1
        · exact .inr (by have := HT1.out.size; omega))
    · intro k hk
      rw [didX_bl] at hk
      rcases HX.out.2.2 k hk with h1 | h1
      · exact .inl h1
      · exact .inr (by have := HT1.out.size; omega))
end Go.Proofs.Ytcoimlenejffpaa
