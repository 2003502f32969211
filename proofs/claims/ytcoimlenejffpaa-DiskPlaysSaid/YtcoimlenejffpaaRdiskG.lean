/- ref disk: Remove, Rename. -/
import Derived.Test.YtcoimlenejffpaaRdiskF
namespace Go.Proofs.Ytcoimlenejffpaa
set_option linter.all false
open Go.RowKit
def RRemR (X : RDS) (s : List UInt8) (code : Nat) (X' : RDS) : Prop :=
  (rmayE X.left [s] ≠ 0 ∧ code = rmayE X.left [s] ∧ X' = X) ∨ (rmayE X.left [s] = 0 ∧ spotB s X.L = false ∧ code = 7 ∧ X' = X) ∨
    (rmayE X.left [s] = 0 ∧ spotB s X.L = true ∧ code = 0 ∧ ∃ A c, X' = didX (delX X (spotI s X.L) A c))
set_option maxRecDepth 100000 in
set_option maxHeartbeats 3200000 in
theorem rremove_bad (base r : Nat) (X : RDS) (w : World) (h : RW w base r X) (s : List UInt8) (hs : s.length ≤ 140737488351232) (e0 : Nat) (h0 : rmayE X.left [s] = e0) (he0 : ((e0 : Int) != 0) = true) :
    Calls Try.prog 42 #[.pointer (some ⟨r, 0, none⟩), .string (str s)] w (RetX base r X (RRemR X s) w) := by
  generalize hW : w.alloc (.cells #[.string (str s)] 9) = W
  have hb0 : Below w.heap.size w W := by rw [← hW]; exact (Below.refl _ _).alloc (Nat.le_refl _) _
  have hW1 : RW W base r X := h.below hb0
  have hrd : Rd W W.heap.size 1 (some ⟨w.heap.size, 0, none⟩) 1 ([s].map sv) := by rw [← hW]; simpa [sv] using Rd.lit_new w ([s].map sv) 9
  have hmay := rmay_any base r X W hW1 (some ⟨w.heap.size, 0, none⟩) 1 1 [s] hrd (by omega) (by intro x hx; simp at hx; subst hx; exact hs)
  rw [h0] at hmay
  have HMAY := Lib.hid hmay
  have H1 := Lib.hid hW1
  have HB0 := Lib.hid hb0
  have hz : e0 ≠ 0 := by intro e; subst e; simp at he0
  have H0 := Lib.hid h0
  have HZ := Lib.hid hz
  clear h hW1 hmay hb0 h0 hrd hz
  go_enter Try.func42, Try.ntmps42
  go_wp2_with fail
  refine (unhide3 HMAY).mono ?_
  rintro en w1 ⟨rfl, rfl⟩
  go_wp2_with fail
  go_ret
  refine ⟨e0, X, rfl, .inl ⟨by rw [H0.out]; exact HZ.out, H0.out.symm, rfl⟩, H1.out, Turn.of_below HB0.out, fun i hi => .inl hi⟩
set_option maxRecDepth 100000 in
set_option maxHeartbeats 3200000 in
theorem rremove_none (base r : Nat) (X : RDS) (w : World) (h : RW w base r X) (s : List UInt8) (hs : s.length ≤ 140737488351232) (h0 : rmayE X.left [s] = 0) (he : spotB s X.L = false) :
    Calls Try.prog 42 #[.pointer (some ⟨r, 0, none⟩), .string (str s)] w (RetX base r X (RRemR X s) w) := by
  generalize hW : w.alloc (.cells #[.string (str s)] 9) = W
  have hb0 : Below w.heap.size w W := by rw [← hW]; exact (Below.refl _ _).alloc (Nat.le_refl _) _
  have hW1 : RW W base r X := h.below hb0
  have hrd : Rd W W.heap.size 1 (some ⟨w.heap.size, 0, none⟩) 1 ([s].map sv) := by rw [← hW]; simpa [sv] using Rd.lit_new w ([s].map sv) 9
  have hmay := rmay_any base r X W hW1 (some ⟨w.heap.size, 0, none⟩) 1 1 [s] hrd (by omega) (by intro x hx; simp at hx; subst hx; exact hs)
  rw [h0] at hmay
  have HMAY := Lib.hid hmay
  have H1 := Lib.hid hW1
  have HB0 := Lib.hid hb0
  have hsp := rspot_any base r X W H1.out s
  rw [he] at hsp
  have HSP := Lib.hid hsp
  have H0 := Lib.hid h0
  have HE := Lib.hid he
  clear h hW1 hmay hb0 h0 hrd he hsp
  go_enter Try.func42, Try.ntmps42
  go_wp2_with fail
  refine (unhide3 HMAY).mono ?_
  rintro en w1 ⟨rfl, rfl⟩
  go_wp2_with fail
  refine (unhide3 HSP).mono ?_
  rintro en w1 ⟨rfl, nq, rfl⟩
  go_wp2_with fail
  go_ret
  refine ⟨7, X, rfl, .inr (.inl ⟨H0.out, HE.out, rfl, rfl⟩), H1.out.keep (fun _ _ => rfl) (Nat.le_refl _), (Turn.of_below HB0.out).drewN nq, fun i hi => .inl hi⟩
set_option maxRecDepth 100000 in
set_option maxHeartbeats 3200000 in
theorem rremove_old (base r : Nat) (X : RDS) (w : World) (h : RW w base r X) (s : List UInt8) (hs : s.length ≤ 140737488351232) (h0 : rmayE X.left [s] = 0) (he : spotB s X.L = true) :
    Calls Try.prog 42 #[.pointer (some ⟨r, 0, none⟩), .string (str s)] w (RetX base r X (RRemR X s) w) := by
  generalize hW : w.alloc (.cells #[.string (str s)] 9) = W
  have hb0 : Below w.heap.size w W := by rw [← hW]; exact (Below.refl _ _).alloc (Nat.le_refl _) _
  have hW1 : RW W base r X := h.below hb0
  have hrd : Rd W W.heap.size 1 (some ⟨w.heap.size, 0, none⟩) 1 ([s].map sv) := by rw [← hW]; simpa [sv] using Rd.lit_new w ([s].map sv) 9
  have hmay := rmay_any base r X W hW1 (some ⟨w.heap.size, 0, none⟩) 1 1 [s] hrd (by omega) (by intro x hx; simp at hx; subst hx; exact hs)
  rw [h0] at hmay
  have HMAY := Lib.hid hmay
  have H1 := Lib.hid hW1
  have HB0 := Lib.hid hb0
  have hsp := rspot_any base r X W H1.out s
  rw [he] at hsp
  have HSP := Lib.hid hsp
  have H0 := Lib.hid h0
  have HE := Lib.hid he
  clear h hW1 hmay hb0 h0 hrd he hsp
  go_enter Try.func42, Try.ntmps42
  go_wp2_with fail
  refine (unhide3 HMAY).mono ?_
  rintro en w1 ⟨rfl, rfl⟩
  go_wp2_with fail
  refine (unhide3 HSP).mono ?_
  rintro en w1 ⟨rfl, nq, hw1⟩
  have hd1 : RW w1 base r X := by rw [hw1]; exact H1.out.keep (fun _ _ => rfl) (Nat.le_refl _)
  have HT1 : Hid (Turn (X.bl r) w w1) := by show Turn _ _ _; rw [hw1]; exact (Turn.of_below HB0.out).drewN nq
  have HD1 := Lib.hid hd1
  clear hw1 hd1
  go_wp2_with fail
  refine (rdel_any base r X w1 HD1.out s).mono ?_
  rintro en w2 ⟨rfl, X2, hdel, hd2, ht2, hb2⟩
  have HD2 := Lib.hid (And.intro hd2 (And.intro (HT1.out.trans ht2 (fun q hq => .inl (by simp at hq; subst hq; exact rbl_r q X))) (And.intro (fun q (hq : q ∈ X2.bl r) => (hb2 q hq).imp id (fun h => Nat.le_trans HT1.out.size h)) hdel)))
  clear hdel hd2 ht2 hb2
  go_wp2_with fail
  refine (rdid_any base r X2 w2 HD2.out.1).mono ?_
  rintro en w5 ⟨rfl, d5, t5⟩
  go_wp2_with fail
  go_ret
  rcases HD2.out.2.2.2 with ⟨h1, _⟩ | ⟨_, A, c, h2⟩
  · rw [HE.out] at h1; cases h1
  · refine ⟨0, _, rfl, .inr (.inr ⟨H0.out, HE.out, rfl, A, c, by rw [← h2]⟩), d5, ?_, ?_⟩
    · exact HD2.out.2.1.trans t5 (fun q hq => HD2.out.2.2.1 q hq)
    · intro q hq
      rw [didX_bl] at hq
      exact HD2.out.2.2.1 q hq
theorem rremove_any (base r : Nat) (X : RDS) (w : World) (h : RW w base r X) (s : List UInt8) (hs : s.length ≤ 140737488351232) :
    Calls Try.prog 42 #[.pointer (some ⟨r, 0, none⟩), .string (str s)] w (RetX base r X (RRemR X s) w) := by
  rcases Nat.eq_zero_or_pos (rmayE X.left [s]) with h0 | h0
  · rcases he : spotB s X.L with _ | _
    · exact rremove_none base r X w h s hs h0 he
    · exact rremove_old base r X w h s hs h0 he
  · exact rremove_bad base r X w h s hs _ rfl (by simp; omega)
theorem rsync_any (base r : Nat) (X : RDS) (w : World) (h : RW w base r X) (s : List UInt8) (hs : s.length ≤ 140737488351232) :
    Calls Try.prog 39 #[.pointer (some ⟨r, 0, none⟩), .string (str s)] w (RetX base r X (RSyncR X s) w) := by
  rcases Nat.eq_zero_or_pos (rmayE X.left [s]) with h0 | h0
  · rcases he : spotB s X.L with _ | _
    · exact rsync_none base r X w h s hs h0 he
    · exact rsync_old base r X w h s hs h0 he
  · exact rsync_bad base r X w h s hs _ rfl (by simp; omega)
theorem RW.relist2 {w W : World} {base r c' : Nat} {X : RDS} {A' : Option Addr} {L' : List RFE} (h : RW w base r X) (hrow : W.ownsRow base 78 3 (.slice A' L'.length c') L'.length (L'.flatMap rcells))
    (hnew : ∀ k, (Value.slice A' L'.length c').ownBlock = some k → w.heap.size ≤ k)
    (hcell : Blk W r (rdcells { X with A := A', c := c', L := L' }) 76) (ht : Turn [r] w W)
    (hL : ∀ f ∈ L', f ∈ X.L ∨ (RFW W f ∧ ∀ k, f.v.ownBlock = some k → base ≤ k)) (hus : (L'.map fun f => f.b.length).sum ≤ X.room) (hfew : L'.length ≤ 4096) :
    RW W base r { X with A := A', c := c', L := L' } := by
  have hk : ∀ k, k < w.heap.size → k ≠ r → W.heap[k]? = w.heap[k]? := fun k hk hne => ht.block k hk (by simpa using hne)
  have hfile : ∀ f ∈ L', RFW W f := by
    intro x hx
    rcases hL x hx with h1 | h1
    · obtain ⟨r1, r2, r3⟩ := h.file x h1
      exact ⟨r1.keep fun k hk' => hk k (r1.lt hk') (h.ne_rf h1 hk'), r2, r3⟩
    · exact h1.1
  refine ⟨hcell, hrow, hfile, ?_, ⟨hus, h.room.2⟩, hfew, h.left⟩
  intro k hk'
  simp only [RDS.bl, List.mem_cons, List.mem_append, List.mem_flatMap] at hk'
  rcases hk' with h1 | h1 | ⟨x, h1, h2⟩
  · subst h1; exact ⟨(h.ge k (rbl_r k X)).1, hcell.lt⟩
  · have h3 : (Value.slice A' L'.length c').ownBlock = some k := by simpa [RDS.v] using h1
    exact ⟨Nat.le_trans h.base_le (hnew k h3), (hrow.lt k h3).2⟩
  · have h4 : x.v.ownBlock = some k := by simpa [RFE.bl] using h2
    refine ⟨?_, (hfile x h1).1.lt h4⟩
    rcases hL x h1 with h5 | h5
    · exact (h.ge k (rbl_f h5 h4)).1
    · exact h5.2 k h4
theorem delX_sum {X : RDS} {i : Nat} {f : RFE} (hf : X.L[i]? = some f) : ((X.L.take i ++ X.L.drop (i + 1)).map fun f => f.b.length).sum + f.b.length = X.used := by
  obtain ⟨h1, e⟩ := List.getElem?_eq_some_iff.1 hf
  have h : X.used = ((X.L.take i ++ X.L.drop i).map fun f => f.b.length).sum := by unfold RDS.used; rw [List.take_append_drop]
  rw [h, List.drop_eq_getElem_cons h1, e]
  simp only [List.map_append, List.sum_append, List.map_cons, List.sum_cons]
  omega
theorem del_used {X X2 X3 : RDS} {old name : List UInt8} {i : Nat} {f : RFE} (h2 : DelR X old X2) (h3 : DelR X2 name X3) (he : spotB old X.L = true) (hi : spotI old X.L = i) (hf : X.L[i]? = some f) :
    X3.used + f.b.length ≤ X.used ∧ X3.L.length + 1 ≤ X.L.length ∧ X3.room = X.room := by
  rcases h2 with ⟨h4, _⟩ | ⟨_, A, c, rfl⟩
  · rw [he] at h4; cases h4
  · have h5 := delX_sum hf
    have hlt : i < X.L.length := (List.getElem?_eq_some_iff.1 hf).1
    have h6 : (delX X (spotI old X.L) A c).used + f.b.length = X.used := by rw [hi]; exact h5
    have h7 : (delX X (spotI old X.L) A c).L.length + 1 = X.L.length := by
      rw [hi]
      show (X.L.take i ++ X.L.drop (i + 1)).length + 1 = _
      simp; omega
    rcases h3 with ⟨_, rfl⟩ | ⟨_, A', c', rfl⟩
    · exact ⟨by omega, by omega, rfl⟩
    · have h8 : (delX (delX X (spotI old X.L) A c) (spotI name (delX X (spotI old X.L) A c).L) A' c').used ≤ (delX X (spotI old X.L) A c).used := delX_used _ _
      have h9 : (delX (delX X (spotI old X.L) A c) (spotI name (delX X (spotI old X.L) A c).L) A' c').L.length ≤ (delX X (spotI old X.L) A c).L.length := by
        show (List.take _ _ ++ List.drop _ _).length ≤ _
        simp; omega
      exact ⟨by omega, by omega, rfl⟩
/-- A file with another name. -/
def renF2 (f : RFE) (name : List UInt8) : RFE := ⟨name, f.A, f.c, f.b, f.l⟩
def RRenR (X : RDS) (old name : List UInt8) (code : Nat) (X' : RDS) : Prop :=
  (rmayE X.left [old, name] ≠ 0 ∧ code = rmayE X.left [old, name] ∧ X' = X) ∨ (rmayE X.left [old, name] = 0 ∧ spotB old X.L = false ∧ code = 7 ∧ X' = X) ∨
    (rmayE X.left [old, name] = 0 ∧ spotB old X.L = true ∧ code = 0 ∧ ((old = name ∧ X' = didX X) ∨
      (old ≠ name ∧ ∃ f X2 X3 A c, X.L[spotI old X.L]? = some f ∧ DelR X old X2 ∧ DelR X2 name X3 ∧ X' = didX { X3 with A := A, c := c, L := X3.L.take (spotI name X3.L) ++ renF2 f name :: X3.L.drop (spotI name X3.L) })))
set_option maxRecDepth 100000 in
set_option maxHeartbeats 3200000 in
theorem rren_bad (base r : Nat) (X : RDS) (w : World) (h : RW w base r X) (old name : List UInt8) (ho : old.length ≤ 140737488351232) (hn9 : name.length ≤ 140737488351232) (e0 : Nat) (h0 : rmayE X.left [old, name] = e0) (he0 : ((e0 : Int) != 0) = true) :
    Calls Try.prog 41 #[.pointer (some ⟨r, 0, none⟩), .string (str old), .string (str name)] w (RetX base r X (RRenR X old name) w) := by
  generalize hW : w.alloc (.cells #[.string (str old), .string (str name)] 9) = W
  have hb0 : Below w.heap.size w W := by rw [← hW]; exact (Below.refl _ _).alloc (Nat.le_refl _) _
  have hW1 : RW W base r X := h.below hb0
  have hrd : Rd W W.heap.size 1 (some ⟨w.heap.size, 0, none⟩) 2 ([old, name].map sv) := by rw [← hW]; simpa [sv] using Rd.lit_new w ([old, name].map sv) 9
  have hmay := rmay_any base r X W hW1 (some ⟨w.heap.size, 0, none⟩) 2 2 [old, name] hrd (by omega) (by intro x hx; simp at hx; rcases hx with rfl | rfl <;> assumption)
  rw [h0] at hmay
  have HMAY := Lib.hid hmay
  have H1 := Lib.hid hW1
  have HB0 := Lib.hid hb0
  have hz : e0 ≠ 0 := by intro e; subst e; simp at he0
  have H0 := Lib.hid h0
  have HZ := Lib.hid hz
  clear h hW1 hmay hb0 h0 hrd hz
  go_enter Try.func41, Try.ntmps41
  go_wp2_with fail
  refine (unhide3 HMAY).mono ?_
  rintro en w1 ⟨rfl, rfl⟩
  go_wp2_with fail
  go_ret
  refine ⟨e0, X, rfl, .inl ⟨by rw [H0.out]; exact HZ.out, H0.out.symm, rfl⟩, H1.out, Turn.of_below HB0.out, fun i hi => .inl hi⟩
set_option maxRecDepth 100000 in
set_option maxHeartbeats 3200000 in
theorem rren_none (base r : Nat) (X : RDS) (w : World) (h : RW w base r X) (old name : List UInt8) (ho : old.length ≤ 140737488351232) (hn9 : name.length ≤ 140737488351232) (h0 : rmayE X.left [old, name] = 0) (he : spotB old X.L = false) :
    Calls Try.prog 41 #[.pointer (some ⟨r, 0, none⟩), .string (str old), .string (str name)] w (RetX base r X (RRenR X old name) w) := by
  generalize hW : w.alloc (.cells #[.string (str old), .string (str name)] 9) = W
  have hb0 : Below w.heap.size w W := by rw [← hW]; exact (Below.refl _ _).alloc (Nat.le_refl _) _
  have hW1 : RW W base r X := h.below hb0
  have hrd : Rd W W.heap.size 1 (some ⟨w.heap.size, 0, none⟩) 2 ([old, name].map sv) := by rw [← hW]; simpa [sv] using Rd.lit_new w ([old, name].map sv) 9
  have hmay := rmay_any base r X W hW1 (some ⟨w.heap.size, 0, none⟩) 2 2 [old, name] hrd (by omega) (by intro x hx; simp at hx; rcases hx with rfl | rfl <;> assumption)
  rw [h0] at hmay
  have HMAY := Lib.hid hmay
  have H1 := Lib.hid hW1
  have HB0 := Lib.hid hb0
  have hsp := rspot_any base r X W H1.out old
  rw [he] at hsp
  have HSP := Lib.hid hsp
  have H0 := Lib.hid h0
  have HE := Lib.hid he
  clear h hW1 hmay hb0 h0 hrd he hsp
  go_enter Try.func41, Try.ntmps41
  go_wp2_with fail
  refine (unhide3 HMAY).mono ?_
  rintro en w1 ⟨rfl, rfl⟩
  go_wp2_with fail
  refine (unhide3 HSP).mono ?_
  rintro en w1 ⟨rfl, nq, rfl⟩
  go_wp2_with fail
  go_ret
  refine ⟨7, X, rfl, .inr (.inl ⟨H0.out, HE.out, rfl, rfl⟩), H1.out.keep (fun _ _ => rfl) (Nat.le_refl _), (Turn.of_below HB0.out).drewN nq, fun i hi => .inl hi⟩
set_option maxRecDepth 100000 in
set_option maxHeartbeats 3200000 in
theorem rren_same (base r : Nat) (X : RDS) (w : World) (h : RW w base r X) (old name : List UInt8) (ho : old.length ≤ 140737488351232) (hn9 : name.length ≤ 140737488351232) (h0 : rmayE X.left [old, name] = 0) (he : spotB old X.L = true) (hne : old = name) :
    Calls Try.prog 41 #[.pointer (some ⟨r, 0, none⟩), .string (str old), .string (str name)] w (RetX base r X (RRenR X old name) w) := by
  generalize hW : w.alloc (.cells #[.string (str old), .string (str name)] 9) = W
  have hb0 : Below w.heap.size w W := by rw [← hW]; exact (Below.refl _ _).alloc (Nat.le_refl _) _
  have hW1 : RW W base r X := h.below hb0
  have hrd : Rd W W.heap.size 1 (some ⟨w.heap.size, 0, none⟩) 2 ([old, name].map sv) := by rw [← hW]; simpa [sv] using Rd.lit_new w ([old, name].map sv) 9
  have hmay := rmay_any base r X W hW1 (some ⟨w.heap.size, 0, none⟩) 2 2 [old, name] hrd (by omega) (by intro x hx; simp at hx; rcases hx with rfl | rfl <;> assumption)
  rw [h0] at hmay
  have HMAY := Lib.hid hmay
  have H1 := Lib.hid hW1
  have HB0 := Lib.hid hb0
  have q5 : ((str old).toList == (str name).toList) = true := by rw [hne]; simp
  have HNE := Lib.hid hne
  clear hne
  have hsp := rspot_any base r X W H1.out old
  rw [he] at hsp
  have HSP := Lib.hid hsp
  obtain ⟨i, hi⟩ : ∃ i, spotI old X.L = i := ⟨_, rfl⟩
  obtain ⟨f, hf⟩ : ∃ f, X.L[i]? = some f := by
    have : spotB old X.L = true := he
    unfold spotB at this
    rw [hi] at this
    rcases hx : X.L[i]? with _ | f
    · rw [hx] at this; cases this
    · exact ⟨f, rfl⟩
  rw [hi] at hsp
  have HSP := Lib.hid hsp
  have HF := Lib.hid hf
  have HI := Lib.hid hi
  have H0 := Lib.hid h0
  have HE := Lib.hid he
  have hlt : i < X.L.length := (List.getElem?_eq_some_iff.1 hf).1
  have hfew := hW1.few
  have hcap := hW1.cap
  clear h hW1 hmay hb0 h0 hrd he hsp hf hi
  go_enter Try.func41, Try.ntmps41
  go_wp2_with fail
  refine (unhide3 HMAY).mono ?_
  rintro en w1 ⟨rfl, rfl⟩
  go_wp2_with fail
  refine (unhide3 HSP).mono ?_
  rintro en w1 ⟨rfl, nq, hw1⟩
  have hd1 : RW w1 base r X := by rw [hw1]; exact H1.out.keep (fun _ _ => rfl) (Nat.le_refl _)
  have ht1 : Turn (X.bl r) w w1 := by rw [hw1]; exact (Turn.of_below HB0.out).drewN nq
  have HT1 := Lib.hid ht1
  clear hw1 ht1 HMAY
  obtain ⟨g, f', hA, hg, hf', hm, k0, k1, k2, hfr, hc1, hc2⟩ := hd1.at_ hlt
  obtain rfl : f' = f := by rw [HF.out] at hf'; injection hf' with hf'; exact hf'.symm
  have hcc := hd1.cell
  unfold rdcells RDS.v at hcc
  have c1 : w1.cell? ⟨r, 1, none⟩ = some (.slice (some ⟨g, 0, none⟩) X.L.length X.c) := by have := hcc.cell 1; rw [hA] at this; exact this
  have HD1 := Lib.hid hd1
  have hgr : g ≠ r := hd1.ne_rv hg
  have hfl := (hd1.file f' hm)
  have hle : f'.b.length ≤ 1073741824 := by
    have h1 := hd1.room
    have h2 : f'.b.length ≤ X.used := by
      have : ∀ L : List RFE, f' ∈ L → f'.b.length ≤ (L.map fun f => f.b.length).sum := by
        intro L
        induction L with
        | nil => intro h; simp at h
        | cons x r ih =>
          intro h
          simp only [List.map_cons, List.sum_cons]
          rcases List.mem_cons.1 h with rfl | h3
          · omega
          · have := ih h3; omega
      exact this X.L hm
    omega
  have HFL := Lib.hid hfl
  have HM := Lib.hid hm
  have HG := Lib.hid hg
  have frz := hfr (i * 3 + 2)
  have fry := hfr (i * 3 + 1)
  obtain ⟨n, hn⟩ : ∃ n, n = X.L.length := ⟨_, rfl⟩
  rw [← hn] at c1 hlt hfew hcap hc1
  have HN := Lib.hid hn
  clear hd1 hcc hA hg hf' hm hfr hfl hn
  go_wp2_with fail
  refine (rdid_any base r X w1 HD1.out).mono ?_
  rintro en w5 ⟨rfl, d5, t5⟩
  go_wp2_with fail
  go_ret
  refine ⟨0, _, rfl, .inr (.inr ⟨H0.out, HE.out, rfl, .inl ⟨HNE.out, rfl⟩⟩), d5, HT1.out.trans t5 (fun q hq => .inl hq), ?_⟩
  intro q hq
  rw [didX_bl] at hq
  exact .inl hq
set_option maxRecDepth 100000 in
set_option maxHeartbeats 3200000 in
theorem rren_old (base r : Nat) (X : RDS) (w : World) (h : RW w base r X) (old name : List UInt8) (ho : old.length ≤ 140737488351232) (hn9 : name.length ≤ 140737488351232) (h0 : rmayE X.left [old, name] = 0) (he : spotB old X.L = true) (hne : old ≠ name) (hname : name.length ≤ 64) :
    Calls Try.prog 41 #[.pointer (some ⟨r, 0, none⟩), .string (str old), .string (str name)] w (RetX base r X (RRenR X old name) w) := by
  generalize hW : w.alloc (.cells #[.string (str old), .string (str name)] 9) = W
  have hb0 : Below w.heap.size w W := by rw [← hW]; exact (Below.refl _ _).alloc (Nat.le_refl _) _
  have hW1 : RW W base r X := h.below hb0
  have hrd : Rd W W.heap.size 1 (some ⟨w.heap.size, 0, none⟩) 2 ([old, name].map sv) := by rw [← hW]; simpa [sv] using Rd.lit_new w ([old, name].map sv) 9
  have hmay := rmay_any base r X W hW1 (some ⟨w.heap.size, 0, none⟩) 2 2 [old, name] hrd (by omega) (by intro x hx; simp at hx; rcases hx with rfl | rfl <;> assumption)
  rw [h0] at hmay
  have HMAY := Lib.hid hmay
  have H1 := Lib.hid hW1
  have HB0 := Lib.hid hb0
  have q5 : ((str old).toList == (str name).toList) = false := by rw [str_toList, str_toList]; simpa using hne
  have HNE := Lib.hid hne
  clear hne
  have hsp := rspot_any base r X W H1.out old
  rw [he] at hsp
  have HSP := Lib.hid hsp
  obtain ⟨i, hi⟩ : ∃ i, spotI old X.L = i := ⟨_, rfl⟩
  obtain ⟨f, hf⟩ : ∃ f, X.L[i]? = some f := by
    have : spotB old X.L = true := he
    unfold spotB at this
    rw [hi] at this
    rcases hx : X.L[i]? with _ | f
    · rw [hx] at this; cases this
    · exact ⟨f, rfl⟩
  rw [hi] at hsp
  have HSP := Lib.hid hsp
  have HF := Lib.hid hf
  have HI := Lib.hid hi
  have H0 := Lib.hid h0
  have HE := Lib.hid he
  have hlt : i < X.L.length := (List.getElem?_eq_some_iff.1 hf).1
  have hfew := hW1.few
  have hcap := hW1.cap
  clear h hW1 hmay hb0 h0 hrd he hsp hf hi
  go_enter Try.func41, Try.ntmps41
  go_wp2_with fail
  refine (unhide3 HMAY).mono ?_
  rintro en w1 ⟨rfl, rfl⟩
  go_wp2_with fail
  refine (unhide3 HSP).mono ?_
  rintro en w1 ⟨rfl, nq, hw1⟩
  have hd1 : RW w1 base r X := by rw [hw1]; exact H1.out.keep (fun _ _ => rfl) (Nat.le_refl _)
  have ht1 : Turn (X.bl r) w w1 := by rw [hw1]; exact (Turn.of_below HB0.out).drewN nq
  have HT1 := Lib.hid ht1
  clear hw1 ht1 HMAY
  obtain ⟨g, f', hA, hg, hf', hm, k0, k1, k2, hfr, hc1, hc2⟩ := hd1.at_ hlt
  obtain rfl : f' = f := by rw [HF.out] at hf'; injection hf' with hf'; exact hf'.symm
  have hcc := hd1.cell
  unfold rdcells RDS.v at hcc
  have c1 : w1.cell? ⟨r, 1, none⟩ = some (.slice (some ⟨g, 0, none⟩) X.L.length X.c) := by have := hcc.cell 1; rw [hA] at this; exact this
  have HD1 := Lib.hid hd1
  have hgr : g ≠ r := hd1.ne_rv hg
  have hfl := (hd1.file f' hm)
  have hle : f'.b.length ≤ 1073741824 := by
    have h1 := hd1.room
    have h2 : f'.b.length ≤ X.used := by
      have : ∀ L : List RFE, f' ∈ L → f'.b.length ≤ (L.map fun f => f.b.length).sum := by
        intro L
        induction L with
        | nil => intro h; simp at h
        | cons x r ih =>
          intro h
          simp only [List.map_cons, List.sum_cons]
          rcases List.mem_cons.1 h with rfl | h3
          · omega
          · have := ih h3; omega
      exact this X.L hm
    omega
  have HFL := Lib.hid hfl
  have HM := Lib.hid hm
  have HG := Lib.hid hg
  have frz := hfr (i * 3 + 2)
  have fry := hfr (i * 3 + 1)
  obtain ⟨n, hn⟩ : ∃ n, n = X.L.length := ⟨_, rfl⟩
  rw [← hn] at c1 hlt hfew hcap hc1
  have HN := Lib.hid hn
  clear hd1 hcc hA hg hf' hm hfr hfl hn
  go_wp2_with fail
  obtain ⟨w2, hw2⟩ : ∃ w2, w1.alloc (.cells #[.string (str name), .slice f'.A f'.b.length f'.c, .int .i64 (f'.l : Int)] 78) = w2 := ⟨_, rfl⟩
  rw [hw2]
  have hb12 : Below w1.heap.size w1 w2 := by rw [← hw2]; exact below_refl_alloc _ _
  have hd2 := HD1.out.below hb12
  have hpb : Blk w2 w1.heap.size #[.string (str name), .slice f'.A f'.b.length f'.c, .int .i64 (f'.l : Int)] 78 := by rw [← hw2]; exact Blk.new _ _ _
  obtain ⟨p, hp⟩ : ∃ p, p = w1.heap.size := ⟨_, rfl⟩
  rw [← hp] at hpb
  have hrow2 : Row w2 f'.v f'.b := HFL.out.1.keep fun q hq => hb12.block q (HFL.out.1.lt hq)
  have hs2 : p < w2.heap.size := hpb.lt
  have hpX : ∀ q ∈ X.bl r, q < p := fun q hq => by rw [hp]; exact (HD1.out.ge q hq).2
  have HT2 : Hid (Turn (X.bl r) w w2) := HT1.out.trans (Turn.of_below (B := []) hb12) (fun q hq => by simp at hq)
  have H2 := Lib.hid (And.intro hd2 (And.intro hpb (And.intro hrow2 (And.intro hs2 (And.intro hpX hp)))))
  clear hb12 hd2 hpb hrow2 hs2 hpX hw2 k0 k1 k2 frz fry
  rw [← hp]
  clear hp
  refine (rdel_any base r X w2 H2.out.1 old).mono ?_
  rintro en w3 ⟨rfl, X2, hdel2, hd3, ht3, hb3⟩
  have hpr : p ≠ r := fun e => by have := H2.out.2.2.2.2.1 r (rbl_r r X); omega
  have hpb3 : Blk w3 p #[.string (str name), .slice f'.A f'.b.length f'.c, .int .i64 (f'.l : Int)] 78 := (ht3.block p H2.out.2.2.2.1 (by simp [hpr])).trans H2.out.2.1
  have hrow3 : Row w3 f'.v f'.b := H2.out.2.2.1.keep fun q hq => ht3.block q (H2.out.2.2.1.lt hq) (by simp; exact HD1.out.ne_rf HM.out hq)
  have hpX3 : p ∉ X2.bl r := fun hq => by rcases hb3 p hq with h1 | h1; have := H2.out.2.2.2.2.1 p h1; omega; have := H2.out.2.2.2.1; omega
  have H3 := Lib.hid (And.intro hd3 (And.intro hpb3 (And.intro hrow3 (And.intro hpX3 (And.intro (HT2.out.trans ht3 (fun q hq => .inl (by simp at hq; subst hq; exact rbl_r q X))) (And.intro (fun q (hq : q ∈ X2.bl r) => (hb3 q hq).imp id (fun h => Nat.le_trans HT2.out.size h)) hdel2))))))
  clear hdel2 hd3 ht3 hb3 hpb3 hrow3 hpX3
  go_wp2_with fail
  refine (rdel_any base r X2 w3 H3.out.1 name).mono ?_
  rintro en w4 ⟨rfl, X3, hdel3, hd4, ht4, hb4⟩
  have hpb4 : Blk w4 p #[.string (str name), .slice f'.A f'.b.length f'.c, .int .i64 (f'.l : Int)] 78 := (ht4.block p H3.out.2.1.lt (by simp [hpr])).trans H3.out.2.1
  have hrow4 : Row w4 f'.v f'.b := H3.out.2.2.1.keep fun q hq => ht4.block q (H3.out.2.2.1.lt hq) (by simp; exact HD1.out.ne_rf HM.out hq)
  have hpX4 : p ∉ X3.bl r := fun hq => by rcases hb4 p hq with h1 | h1; exact H3.out.2.2.2.1 h1; have := H3.out.2.1.lt; omega
  have H4 := Lib.hid (And.intro hd4 (And.intro hpb4 (And.intro hrow4 (And.intro hpX4 (And.intro (H3.out.2.2.2.2.1.trans ht4 (fun q hq => .inl (by simp at hq; subst hq; exact rbl_r q X))) (And.intro (fun q (hq : q ∈ X3.bl r) => (show q ∈ X.bl r ∨ w.heap.size ≤ q from (hb4 q hq).elim (fun h => H3.out.2.2.2.2.2.1 q h) (fun h => .inr (Nat.le_trans H3.out.2.2.2.2.1.size h)))) hdel3))))))
  clear hdel3 hd4 ht4 hb4 hpb4 hrow4 hpX4
  go_wp2_with fail
  obtain ⟨k, hk⟩ : ∃ k, spotI name X3.L = k := ⟨_, rfl⟩
  have hkl : k ≤ X3.L.length := by rw [← hk]; exact spot_le _ _
  have hsp3 := rspot_any base r X3 w4 H4.out.1 name
  rw [hk] at hsp3
  have HSP3 := Lib.hid hsp3
  have HK := Lib.hid (And.intro hk hkl)
  clear hk hsp3
  refine (unhide3 HSP3).mono ?_
  rintro en w5 ⟨rfl, nq5, hw5⟩
  have hd5 : RW w5 base r X3 := by rw [hw5]; exact H4.out.1.keep (fun _ _ => rfl) (Nat.le_refl _)
  have hpb5 : Blk w5 p #[.string (str name), .slice f'.A f'.b.length f'.c, .int .i64 (f'.l : Int)] 78 := by rw [hw5]; exact H4.out.2.1
  have hrow5 : Row w5 f'.v f'.b := by rw [hw5]; exact H4.out.2.2.1.keep fun q hq => rfl
  have ht5 : Turn (X.bl r) w w5 := by rw [hw5]; exact H4.out.2.2.2.2.1.drewN nq5
  obtain ⟨n3, hn3⟩ : ∃ n3, n3 = X3.L.length := ⟨_, rfl⟩
  have c15 : w5.cell? ⟨r, 1, none⟩ = some (.slice X3.A n3 X3.c) := by have h9 := hd5.cell; unfold rdcells RDS.v at h9; have h8 := h9.cell 1; rw [← hn3] at h8; exact h8
  have hcap3 := hd5.cap
  have hfew3 := hd5.few
  rw [← hn3] at hkl hcap3 hfew3
  have hrl5 : r < w5.heap.size := (hd5.ge r (rbl_r r X3)).2
  have hpl5 : p < w5.heap.size := hpb5.lt
  have HN3 := Lib.hid hn3
  have H5 := Lib.hid (And.intro hd5 (And.intro hpb5 (And.intro hrow5 ht5)))
  clear hw5 hd5 hpb5 hrow5 ht5 hn3 c1
  go_wp2_with (first
    | (at_builtin
       refine wpListF_append rfl (.tmp 56) (.tmp 62) rfl w5.heap.size _ 0 [] rfl (own_empty w5 _ _) w5.heap.size X3.A k X3.c (X3.L.take k) rfl ((H5.out.1.rd_take HK.out.2).alloc (Nat.le_refl _) _) k (X3.L.take k) (by omega) rfl (by omega) (by simp) ?_
       intro A6 c6 w6 o6 b6 hc6 hm6
       have b56 : Below w5.heap.size w5 w6 := (below_refl_alloc w5 _).trans b6
       have p0 : w6.cell? ⟨p, 0, none⟩ = some (.string (str name)) := (b56.cell (p := ⟨p, 0, none⟩) hpl5).trans (H5.out.2.1.cell 0)
       have p1 : w6.cell? ⟨p, 1, none⟩ = some (.slice f'.A f'.b.length f'.c) := (b56.cell (p := ⟨p, 1, none⟩) hpl5).trans (H5.out.2.1.cell 1)
       have p2 : w6.cell? ⟨p, 2, none⟩ = some (.int .i64 (f'.l : Int)) := (b56.cell (p := ⟨p, 2, none⟩) hpl5).trans (H5.out.2.1.cell 2))
    | (at_builtin
       refine wpListF_append rfl (.tmp 64) (.tmp 66) rfl w5.heap.size _ k (X3.L.take k) rfl (o6.alloc _) (w6.heap.size + 1) (some ⟨w6.heap.size, 0, none⟩) 1 1 [renF2 f' name] rfl (Rd.lit_file w6 (renF2 f' name) 78) (k + 1) (X3.L.take k ++ [renF2 f' name]) rfl rfl (by omega) (by have := b56.size; simp; omega) ?_
       intro A7 c7 w7 o7 b7 hc7 hm7
       have b57 : Below w5.heap.size w5 w7 := (b56.trans ((Below.refl _ _).alloc b56.size _)).trans b7
       have c17 : w7.cell? ⟨r, 1, none⟩ = some (.slice X3.A n3 X3.c) := (b57.cell (p := ⟨r, 1, none⟩) hrl5).trans c15)
    | (at_builtin
       refine wpListF_append rfl (.tmp 69) (.tmp 75) rfl w5.heap.size _ (k + 1) (X3.L.take k ++ [renF2 f' name]) rfl o7 w7.heap.size (if X3.c = k then X3.A else X3.A.map (·.add (k * 3))) (n3 - k) (X3.c - k) (X3.L.drop k) rfl (by have := (H5.out.1.below b57).rd_cut HK.out.2; rwa [← HN3.out] at this) (k + 1 + (n3 - k)) (X3.L.take k ++ renF2 f' name :: X3.L.drop k) rfl (by simp) (by omega) b57.size ?_
       intro A8 c8 w8 o8 b8 hc8 hm8
       have b58 : Below w5.heap.size w5 w8 := b57.trans b8
       have c18 : w8.cell? ⟨r, 1, none⟩ = some (.slice X3.A n3 X3.c) := (b58.cell (p := ⟨r, 1, none⟩) hrl5).trans c15
       have fz8 : w8.frozen? ⟨r, 1, none⟩ = false := (H5.out.1.below b58).cell.free 1)
    | fail)
  all_goals (
    obtain ⟨wS, hwS⟩ : ∃ wS, w8.setCell ⟨r, 1, none⟩ (.slice A8 (k + 1 + (n3 - k)) c8) = wS := ⟨_, rfl⟩
    rw [hwS]
    have hlenY : (X3.L.take k ++ renF2 f' name :: X3.L.drop k).length = k + 1 + (n3 - k) := by
      have h1 := HK.out.2
      rw [List.length_append, List.length_take, List.length_cons, List.length_drop, HN3.out, Nat.min_eq_left h1]; omega
    have hts : Turn [r] w5 wS := by
      rw [← hwS]
      exact (Turn.of_below b58).trans (Turn.set (B := [r]) (.inl (by simp))) (fun q hq => .inl hq)
    have ho8 : ∀ q, (Value.slice A8 (k + 1 + (n3 - k)) c8).ownBlock = some q → w5.heap.size ≤ q := fun q hq => (o8.lt q hq).1
    have hrowS : wS.ownsRow base 78 3 (.slice A8 (X3.L.take k ++ renF2 f' name :: X3.L.drop k).length c8) (X3.L.take k ++ renF2 f' name :: X3.L.drop k).length ((X3.L.take k ++ renF2 f' name :: X3.L.drop k).flatMap rcells) := by
      rw [hlenY, ← hwS]
      exact own_block (own_more o8 H5.out.1.base_le) fun q hq => Below.heap_setCell _ _ _ _ (fun e => by have := ho8 q hq; subst e; omega)
    have hcellS : Blk wS r (rdcells { X3 with A := A8, c := c8, L := X3.L.take k ++ renF2 f' name :: X3.L.drop k }) 76 := by
      have h1 := Blk.set (H5.out.1.below b58).cell 1 (.slice A8 (k + 1 + (n3 - k)) c8)
      rw [hwS] at h1
      have h2 : rdcells { X3 with A := A8, c := c8, L := X3.L.take k ++ renF2 f' name :: X3.L.drop k } = (rdcells X3).setIfInBounds 1 (.slice A8 (k + 1 + (n3 - k)) c8) := by
        unfold rdcells RDS.v; simp only [hlenY]; rfl
      rw [h2]; exact h1
    have hkeepS : ∀ q, q < w5.heap.size → q ≠ r → wS.heap[q]? = w5.heap[q]? := fun q hq hne => hts.block q hq (by simpa using hne)
    have hsub := del_used H3.out.2.2.2.2.2.2 H4.out.2.2.2.2.2.2 HE.out HI.out HF.out
    have hRY := H5.out.1.relist2 hrowS (by rw [hlenY]; exact ho8) hcellS hts (fun x hx => by
      rcases List.mem_append.1 hx with h1 | h1
      · have h2 := List.mem_of_mem_take h1
        exact .inl h2
      · rcases List.mem_cons.1 h1 with rfl | h2
        · refine .inr ⟨⟨H5.out.2.2.1.keep fun q hq => hkeepS q (H5.out.2.2.1.lt hq) (HD1.out.ne_rf HM.out hq), HFL.out.2.1, hname⟩, fun q hq => (HD1.out.ge q (rbl_f HM.out hq)).1⟩
        · exact .inl (List.mem_of_mem_drop h2)) (by
          have h1 := HD1.out.room
          have h2 : ((X3.L.take k ++ renF2 f' name :: X3.L.drop k).map fun f => f.b.length).sum = X3.used + f'.b.length := by
            have h3 : X3.used = ((X3.L.take k ++ X3.L.drop k).map fun f => f.b.length).sum := by unfold RDS.used; rw [List.take_append_drop]
            rw [h3]; simp only [List.map_append, List.sum_append, List.map_cons, List.sum_cons, renF2]; omega
          have h4 := hsub.1
          rw [h2, hsub.2.2]; omega) (by rw [hlenY]; have h1 := hsub.2.1; have h2 := HD1.out.few; have h3 := HN3.out; omega)
    obtain ⟨Y, hY⟩ : ∃ Y, Y = ({ X3 with A := A8, c := c8, L := X3.L.take k ++ renF2 f' name :: X3.L.drop k } : RDS) := ⟨_, rfl⟩
    have hblY : ∀ q ∈ Y.bl r, q ∈ X.bl r ∨ w.heap.size ≤ q := by
      intro q hq
      rw [hY] at hq
      simp only [RDS.bl, List.mem_cons, List.mem_append, List.mem_flatMap] at hq
      rcases hq with h1 | h1 | ⟨x, h1, h2⟩
      · subst h1; exact .inl (rbl_r q X)
      · have h3 : (Value.slice A8 (X3.L.take k ++ renF2 f' name :: X3.L.drop k).length c8).ownBlock = some q := by simpa [RDS.v] using h1
        rw [hlenY] at h3
        exact .inr (Nat.le_trans H5.out.2.2.2.size (ho8 q h3))
      · have h4 : x.v.ownBlock = some q := by simpa [RFE.bl] using h2
        have h5 : x ∈ X3.L ∨ x = renF2 f' name := by
          rcases h1 with h6 | h7 | h7
          · exact .inl (List.mem_of_mem_take h6)
          · exact .inr h7
          · exact .inl (List.mem_of_mem_drop h7)
        rcases h5 with h6 | h6
        · exact H4.out.2.2.2.2.2.1 q (rbl_f h6 h4)
        · subst h6; exact .inl (rbl_f HM.out h4)
    rw [← hY] at hRY
    have HRY := Lib.hid (And.intro hRY (And.intro (H5.out.2.2.2.trans hts (fun q hq => .inl (by simp at hq; subst hq; exact rbl_r q X))) (And.intro hblY hY)))
    clear hRY hblY hsub hkeepS hcellS hrowS ho8 hts hlenY hwS o8 o7 o6 b58 b57 b56 b8 b7 b6 c18 c17 fz8 p0 p1 p2 hY c15
    go_wp2_with fail
    all_goals (
      refine (rdid_any base r Y wS HRY.out.1).mono ?_
      rintro en w9 ⟨rfl, d9, t9⟩
      go_wp2_with fail
      go_ret
      refine ⟨0, _, rfl, .inr (.inr ⟨H0.out, HE.out, rfl, .inr ⟨HNE.out, f', X2, X3, A8, c8, by rw [HI.out]; exact HF.out, H3.out.2.2.2.2.2.2, H4.out.2.2.2.2.2.2, by rw [HRY.out.2.2.2, HK.out.1]⟩⟩), d9, ?_, ?_⟩
      · exact HRY.out.2.1.trans t9 (fun q hq => HRY.out.2.2.1 q hq)
      · intro q hq
        rw [didX_bl] at hq
        exact HRY.out.2.2.1 q hq))
theorem rrename_any (base r : Nat) (X : RDS) (w : World) (h : RW w base r X) (old name : List UInt8) (ho : old.length ≤ 140737488351232) (hn9 : name.length ≤ 140737488351232) :
    Calls Try.prog 41 #[.pointer (some ⟨r, 0, none⟩), .string (str old), .string (str name)] w (RetX base r X (RRenR X old name) w) := by
  rcases Nat.eq_zero_or_pos (rmayE X.left [old, name]) with h0 | h0
  · rcases he : spotB old X.L with _ | _
    · exact rren_none base r X w h old name ho hn9 h0 he
    · by_cases hne : old = name
      · exact rren_same base r X w h old name ho hn9 h0 he hne
      · refine rren_old base r X w h old name ho hn9 h0 he hne ?_
        unfold rmayE at h0
        split at h0
        · omega
        · split at h0
          · rename_i h1
            simp [okName] at h1
            exact h1.2.2
          · omega
  · exact rren_bad base r X w h old name ho hn9 _ rfl (by simp; omega)
end Go.Proofs.Ytcoimlenejffpaa
