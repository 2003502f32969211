/- disk: a disk of one file at most; known. -/
import Derived.Test.YtcoimlenejffpaaDiskG
import Derived.Test.YtcoimlenejffpaaSame3
namespace Go.Proofs.Ytcoimlenejffpaa
set_option linter.all false
open Go.RowKit
/-- The disk has one file at most, of the name nm: its bytes, and how many last. -/
def OneS (S : DS) (nm : List UInt8) : Option (List UInt8 × Nat) → Prop
  | none => S.E = []
  | some p => ∃ g v, S.E = [⟨nm, g, v, p.1, p.2⟩]
def ob (o : Option (List UInt8 × Nat)) : List UInt8 := (o.getD ([], 0)).1
def ol (o : Option (List UInt8 × Nat)) : Nat := (o.getD ([], 0)).2
theorem one_used {S : DS} {nm : List UInt8} {o : Option (List UInt8 × Nat)} (h : OneS S nm o) : S.used = (ob o).length := by
  rcases o with _ | p
  · unfold DS.used; rw [show S.E = [] from h]; rfl
  · obtain ⟨g, v, e⟩ := h
    unfold DS.used; rw [e]; simp [ob]
theorem one_get {S : DS} {nm : List UInt8} {p : List UInt8 × Nat} (h : OneS S nm (some p)) : ∃ g v, getE nm S.E = some ⟨nm, g, v, p.1, p.2⟩ ∧ S.E = [⟨nm, g, v, p.1, p.2⟩] := by
  obtain ⟨g, v, e⟩ := h
  exact ⟨g, v, by rw [e]; simp [getE], e⟩
theorem one_none {S : DS} {nm : List UInt8} (h : OneS S nm none) (s : List UInt8) : getE s S.E = none := by rw [show S.E = [] from h]; rfl
theorem one_len {S : DS} {nm : List UInt8} {o : Option (List UInt8 × Nat)} (h : OneS S nm o) : S.E.length ≤ 1 := by
  rcases o with _ | p
  · rw [show S.E = [] from h]; simp
  · obtain ⟨g, v, e⟩ := h
    rw [e]; simp
theorem may_ok {S : DS} {nm : List UInt8} (hf : S.fused = true → 0 < S.left) (hn : okName nm = true) : mayE S [nm] = 0 := by
  unfold mayE
  rw [if_neg (by rintro ⟨h1, h2⟩; have := hf h1; omega)]
  simp [hn]
theorem burnS_fused (S : DS) : (burnS S).fused = S.fused := by unfold burnS; split <;> rfl
theorem burnS_room (S : DS) : (burnS S).room = S.room := by unfold burnS; split <;> rfl
theorem burnS_E (S : DS) : (burnS S).E = S.E := by unfold burnS; split <;> rfl
theorem burnS_left (S : DS) (h : S.fused = true) : (burnS S).left = S.left - 1 := by unfold burnS; rw [h]; rfl
theorem one_app {S S' : DS} {nm nb : List UInt8} {code : Nat} {o : Option (List UInt8 × Nat)} (h : AppR S nm nb code S') (ho : OneS S nm o) (hf : S.fused = true → 0 < S.left) (hn : okName nm = true) (hfit : (ob o).length + nb.length ≤ S.room) :
    code = 0 ∧ OneS S' nm (some (ob o ++ nb, ol o)) ∧ S'.fused = S.fused ∧ S'.room = S.room ∧ (S.fused = true → S'.left = S.left - 1) := by
  have hm := may_ok hf hn
  have hu := one_used ho
  have hl := one_len ho
  rcases h with h | h | ⟨_, _, h0, h⟩
  · exact absurd hm h.1
  · rcases h.2.1 with h1 | h1 <;> omega
  · subst h0
    rcases h with ⟨e, v', he, rfl⟩ | ⟨he, _, g, v', rfl⟩
    · rcases o with _ | p
      · rw [one_none ho] at he; cases he
      · obtain ⟨g, v, e1, e2⟩ := one_get ho
        rw [e1] at he
        injection he with he
        subst he
        refine ⟨rfl, ⟨g, v', ?_⟩, by rw [burnS_fused]; rfl, by rw [burnS_room]; rfl, fun hh => burnS_left _ hh⟩
        rw [burnS_E]
        simp [setF, setE, e2, ob, ol]
    · rcases o with _ | p
      · refine ⟨rfl, ⟨g, v', ?_⟩, by rw [burnS_fused]; rfl, by rw [burnS_room]; rfl, fun hh => burnS_left _ hh⟩
        rw [burnS_E]
        simp [setF, setE, insF, insE, show S.E = [] from ho, ob, ol]
      · obtain ⟨g, v, e1, e2⟩ := one_get ho
        rw [e1] at he; cases he
theorem one_sync {S S' : DS} {nm : List UInt8} {code : Nat} {p : List UInt8 × Nat} (h : SyncR S nm code S') (ho : OneS S nm (some p)) (hf : S.fused = true → 0 < S.left) (hn : okName nm = true) :
    code = 0 ∧ OneS S' nm (some (p.1, p.1.length)) ∧ S'.fused = S.fused ∧ S'.room = S.room := by
  have hm := may_ok hf hn
  obtain ⟨g, v, e1, e2⟩ := one_get ho
  rcases h with h | h | ⟨_, e, he, h0, rfl⟩
  · exact absurd hm h.1
  · rw [e1] at h; cases h.2.1
  · rw [e1] at he
    injection he with he
    subst he
    unfold syncS
    refine ⟨h0, ⟨g, v, ?_⟩, by rw [burnS_fused]; rfl, by rw [burnS_room]; rfl⟩
    rw [burnS_E]
    simp [setF, setE, e2]
theorem one_crash {S : DS} {nm : List UInt8} {p : List UInt8 × Nat} (ho : OneS S nm (some p)) (n : Int) : OneS (crashS S n) nm (some (p.1.take (p.2 + n.toNat % (p.1.length - p.2 + 1)), p.2 + n.toNat % (p.1.length - p.2 + 1))) := by
  obtain ⟨g, v, e⟩ := ho
  refine ⟨g, cutV v (p.2 + n.toNat % (p.1.length - p.2 + 1)), ?_⟩
  unfold crashS
  simp only
  rw [e]
  rfl
theorem one_crash0 {S : DS} {nm : List UInt8} (ho : OneS S nm none) (n : Int) : OneS (crashS S n) nm none := by
  show (crashS S n).E = []
  unfold crashS
  simp only
  rw [show S.E = [] from ho]; rfl
theorem DW.base_le {w : World} {base d : Nat} {S : DS} (h : DW w base d S) : base ≤ w.heap.size := by have := h.ge d (bl_d d S); omega
/-- Behind a method that may change the disk's own blocks alone. -/
theorem RetD.below {w w' : World} {base d : Nat} {S : DS} (h : DW w base d S) (ht : Turn (S.bl d) w w') : Below base w w' := ht.below (fun i hi => (h.ge i hi).1) h.base_le
theorem turn1_below {w w' : World} {base d : Nat} {S : DS} (h : DW w base d S) (ht : Turn [d] w w') : Below base w w' := ht.below (fun i hi => by simp at hi; subst hi; exact (h.ge _ (bl_d _ S)).1) h.base_le
set_option maxRecDepth 100000 in
set_option maxHeartbeats 3200000 in
theorem known3_any (w : World) : Calls Try.prog 9 #[] w (Ret (.bool true) w) := by
  have kc := fun (w : World) (C : Array Value) (n c : Nat) => Lib.run_convert_bytes_const (P := Try.prog) w 23 5 C n c Try.underlying23 Try.underlying5
  have hok : okName [97] = true := by decide
  go_enter Try.func9, Try.ntmps9
  go_wp2_with fail
  refine (new_any 100 (by omega) w).mono ?_
  rintro e w1 ⟨d, m, rfl, hd1, b1⟩
  have ho1 : OneS (newS 100 m) [97] none := rfl
  have H1 := Lib.hid (And.intro hd1 (And.intro b1 ho1))
  clear hd1 b1 ho1
  go_wp2_with fail
  refine (append_any w.heap.size d (newS 100 m) _ (H1.out.1.below (below_refl_alloc _ _)) [97] [49, 50, 51, 52, 53] (by simp) _ 5 5 (Bs.lit w1 _ _ _ _ _ rfl rfl) (by omega) (by simp [newS])).mono ?_
  rintro e w2 ⟨code, S2, rfl, hr, hd2, ht2, _⟩
  obtain ⟨rfl, ho2, hf2, hr2, _⟩ := one_app hr H1.out.2.2 (by simp [newS]) hok (by simp [newS, ob])
  have H2 := Lib.hid (And.intro hd2 (And.intro (H1.out.2.1.trans (((Below.refl _ _).alloc H1.out.2.1.size _).trans (RetD.below (H1.out.1.below (below_refl_alloc _ _)) ht2))) (And.intro ho2 (And.intro hf2 hr2))))
  clear hr hd2 ht2 ho2 hf2 hr2 H1
  go_wp2_with fail
  refine (sync_any w.heap.size d S2 _ H2.out.1 [97] (by simp)).mono ?_
  rintro e w3 ⟨code, S3, rfl, hr, hd3, ht3, _⟩
  obtain ⟨rfl, ho3, hf3, hr3⟩ := one_sync hr H2.out.2.2.1 (by rw [H2.out.2.2.2.1]; simp [newS]) hok
  have H3 := Lib.hid (And.intro hd3 (And.intro (H2.out.2.1.trans (RetD.below H2.out.1 ht3)) (And.intro ho3 (And.intro (hf3.trans H2.out.2.2.2.1) (hr3.trans H2.out.2.2.2.2)))))
  clear hr hd3 ht3 ho3 hf3 hr3 H2
  go_wp2_with fail
  refine (append_any w.heap.size d S3 _ (H3.out.1.below (below_refl_alloc _ _)) [97] [54, 55, 56] (by simp) _ 3 3 (Bs.lit w3 _ _ _ _ _ rfl rfl) (by omega) (by have := one_len H3.out.2.2.1; omega)).mono ?_
  rintro e w4 ⟨code, S4, rfl, hr, hd4, ht4, _⟩
  obtain ⟨rfl, ho4, hf4, hr4, _⟩ := one_app hr H3.out.2.2.1 (by rw [H3.out.2.2.2.1]; simp [newS]) hok (by rw [H3.out.2.2.2.2]; simp [newS, ob])
  have H4 := Lib.hid (And.intro hd4 (And.intro (H3.out.2.1.trans (((Below.refl _ _).alloc H3.out.2.1.size _).trans (RetD.below (H3.out.1.below (below_refl_alloc _ _)) ht4))) ho4))
  clear hr hd4 ht4 ho4 hf4 hr4 H3
  go_wp2_with fail
  refine (crash_any w.heap.size d S4 _ H4.out.1 1 (by omega) (by omega)).mono ?_
  rintro e w5 ⟨rfl, hd5, ht5⟩
  have ho5 : OneS (crashS S4 1) [97] (some ([49, 50, 51, 52, 53, 54], 6)) := one_crash H4.out.2.2 1
  have H5 := Lib.hid (And.intro hd5 (And.intro (H4.out.2.1.trans (RetD.below H4.out.1 ht5)) ho5))
  clear hd5 ht5 H4
  obtain ⟨g, v, he, _⟩ := one_get H5.out.2.2
  have HE := Lib.hid he
  clear he
  go_wp2_with fail
  refine (read_some w.heap.size d _ _ H5.out.1 [97] (by simp) _ HE.out).mono ?_
  rintro e w6 ⟨A6, c6, rfl, o6, b6, hc6, hm6⟩
  have H6 := Lib.hid (And.intro o6 (H5.out.2.1.trans (b6.mono H5.out.2.1.size)))
  clear o6 b6
  simp only [List.length_cons, List.length_nil, Nat.zero_add, Nat.reduceAdd] at hc6 ⊢
  go_wp2_with fail
  refine (same3_eq A6 _ 6 c6 6 6 [49, 50, 51, 52, 53, 54] [49, 50, 51, 52, 53, 54] _ (((Rd.of_own H6.out.1).alloc (Nat.le_refl _) _).more (by simp)) (Bs.lit w6 _ _ _ _ _ rfl rfl) (by simp [maxLen]) rfl).mono ?_
  rintro e w7 ⟨rfl, b7⟩
  have H7 := Lib.hid ((H6.out.2.trans ((Below.refl _ _).alloc H6.out.2.size _)).trans (b7.mono (by have := H6.out.2.size; simp; omega)))
  clear b7
  go_wp2_with fail
  go_ret
  exact ⟨rfl, H7.out⟩
end Go.Proofs.Ytcoimlenejffpaa
