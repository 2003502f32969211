/- DiskNames: what the law computes: true. -/
import Derived.Test.YtcoimlenejffpaaDiskKeepsW
import Derived.Test.YtcoimlenejffpaaDiskH
import Derived.Test.YtcoimlenejffpaaDiskList
import Derived.Test.YtcoimlenejffpaaDiskRoomA
namespace Go.Proofs.Ytcoimlenejffpaa
set_option linter.all false
open Go.RowKit
set_option maxHeartbeats 400000 in
theorem texts_q (A1 A2 : Option Addr) (n1 c1 n2 c2 : Nat) (l1 l2 : List (List UInt8)) (w : World) (h1 : Rd w w.heap.size 1 A1 n1 (l1.map sv)) (h2 : Rd w w.heap.size 1 A2 n2 (l2.map sv)) (m1 : n1 ≤ maxLen) :
    Calls Try.prog 20 #[.slice A1 n1 c1, .slice A2 n2 c2] w (RetQ (.bool (decide (l1 = l2))) w) := by
  unfold maxLen at m1
  have e1 : l1.length = n1 := by simpa using h1.1
  have e2 : l2.length = n2 := by simpa using h2.1
  by_cases hn : n1 = n2
  · subst hn
    have hne : ((n1 : Int) != n1) = false := by simp
    go_enter Try.func20, Try.ntmps20
    go_wp2
    go_loopw [5] (fun i wr => ∃ k : Nat, k ≤ n1 ∧ i = .int .i64 k ∧ l1.take k = l2.take k ∧ Drew w wr) (fun i _ => n1 - (intOf i).toNat)
    case atStart => exact ⟨0, Nat.zero_le _, rfl, by simp, Drew.refl _⟩
    case round =>
      obtain ⟨k, hk, rfl, ht, hb⟩ := hrel
      have HT := Lib.hid ht
      clear ht
      by_cases hlt : k < n1
      · obtain ⟨g1, o1, b1, rfl, _, hb1, hc1⟩ := sv_at (h1.below (hb.below _)) hlt
        obtain ⟨g2, o2, b2, rfl, _, hb2, hc2⟩ := sv_at (h2.below (hb.below _)) hlt
        have H1 := Lib.hid hb1
        have H2 := Lib.hid hb2
        clear hb1 hb2
        by_cases hbb : b1 = b2
        · have hne : ((str b1).toList == (str b2).toList) = true := by simp [hbb]
          have HB := Lib.hid hbb
          clear hbb
          go_wp2
          go_quiet (fail)
          go_wp2
          go_roundw
          case rel => exact ⟨k + 1, by omega, by go_num, take_same_snoc H1.out H2.out HT.out HB.out, hb.more _⟩
          case measure => simp [intOf]; omega
        · have hs : str b1 ≠ str b2 := fun h => hbb (by have := congrArg ByteArray.toList h; rwa [str_toList, str_toList] at this)
          have hne : ((str b1).toList == (str b2).toList) = false := by rw [str_toList, str_toList]; simpa using hbb
          have hl : l1 ≠ l2 := by intro h; subst h; exact hbb (by have := H1.out.symm.trans H2.out; injection this)
          have HL := Lib.hid hl
          clear hl hbb hs
          go_wp2
          go_quiet (fail)
          go_wp2
          go_ret
          exact ⟨by simp [HL.out], hb.more _⟩
      · have hl : l1 = l2 := by
          have hk' : k = n1 := by omega
          have := HT.out
          rwa [List.take_of_length_le (by omega), List.take_of_length_le (by omega)] at this
        have HL := Lib.hid hl
        clear hl
        go_wp2
        go_ret
        exact ⟨by simp [HL.out], hb⟩
  · have hne : ((n1 : Int) != n2) = true := by simp; omega
    have hl : l1 ≠ l2 := by intro h; subst h; omega
    go_enter Try.func20, Try.ntmps20
    go_wp2
    go_ret
    exact ⟨by simp [hl], Drew.refl _⟩
theorem texts_any (A1 A2 : Option Addr) (n1 c1 n2 c2 : Nat) (l1 l2 : List (List UInt8)) (w : World) (h1 : Rd w w.heap.size 1 A1 n1 (l1.map sv)) (h2 : Rd w w.heap.size 1 A2 n2 (l2.map sv)) (m1 : n1 ≤ maxLen) :
    Calls Try.prog 20 #[.slice A1 n1 c1, .slice A2 n2 c2] w (Ret (.bool (decide (l1 = l2))) w) :=
  (texts_q A1 A2 n1 c1 n2 c2 l1 l2 w h1 h2 m1).mono fun _ _ h => h.ret
/-- A disk with the files x and y. -/
def TwoS (S : DS) (ab c : List UInt8) (l : Nat) : Prop := ∃ g1 v1 g2 v2, S.E = [⟨[120], g1, v1, ab, l⟩, ⟨[121], g2, v2, c, 0⟩]
theorem two_of_one {S S' : DS} {ab c : List UInt8} {l code : Nat} (h : AppR S [121] c code S') (ho : OneS S [120] (some (ab, l))) (hf : S.fused = false) (hfit : ab.length + c.length ≤ S.room) :
    code = 0 ∧ TwoS S' ab c l ∧ S'.fused = false := by
  have hm : mayE S [[121]] = 0 := may_ok (by rw [hf]; simp) (by decide)
  have hu := one_used ho
  have hl := one_len ho
  obtain ⟨g, v, e⟩ := ho
  have hu2 : S.used = ab.length := hu
  rcases h with h | h | ⟨_, _, h0, h⟩
  · exact absurd hm h.1
  · rcases h.2.1 with h1 | h1 <;> omega
  · subst h0
    rcases h with ⟨e', v', he, rfl⟩ | ⟨he, _, g', v', rfl⟩
    · rw [e] at he; simp [getE] at he
    · refine ⟨rfl, ⟨g, v, g', v', ?_⟩, by rw [burnS_fused]; exact hf⟩
      rw [burnS_E]
      simp [setF, setE, insF, insE, e, bytesBefore]
theorem two_sync {S S' : DS} {ab c : List UInt8} {l code : Nat} (h : SyncR S [120] code S') (ho : TwoS S ab c l) (hf : S.fused = false) : code = 0 ∧ TwoS S' ab c ab.length ∧ S'.fused = false := by
  have hm : mayE S [[120]] = 0 := may_ok (by rw [hf]; simp) (by decide)
  obtain ⟨g1, v1, g2, v2, e⟩ := ho
  rcases h with h | h | ⟨_, e', he, h0, rfl⟩
  · exact absurd hm h.1
  · rw [e] at h; simp [getE] at h
  · rw [e] at he
    simp [getE] at he
    subst he
    refine ⟨h0, ⟨g1, v1, g2, v2, ?_⟩, by unfold syncS; rw [burnS_fused]; exact hf⟩
    unfold syncS
    rw [burnS_E]
    simp [setF, setE, e]
theorem two_ren {S S' : DS} {ab c : List UInt8} {l code : Nat} (h : RenR S [120] [121] code S') (ho : TwoS S ab c l) (hf : S.fused = false) : code = 0 ∧ OneS S' [121] (some (ab, l)) ∧ S'.fused = false := by
  have hm : mayE S [[120], [121]] = 0 := by unfold mayE; rw [hf]; simp; decide
  obtain ⟨g1, v1, g2, v2, e⟩ := ho
  rcases h with h | h | ⟨_, e', he, h0, rfl⟩
  · exact absurd hm h.1
  · rw [e] at h; simp [getE] at h
  · rw [e] at he
    simp [getE] at he
    subst he
    refine ⟨h0, ⟨g1, v1, ?_⟩, by rw [burnS_fused]; exact hf⟩
    rw [burnS_E]
    simp [renE, remE, e, insE]
theorem one_ren {S S' : DS} {code : Nat} {p : List UInt8 × Nat} (h : RenR S [120] [122] code S') (ho : OneS S [121] (some p)) (hf : S.fused = false) : code = 7 ∧ S' = S := by
  have hm : mayE S [[120], [122]] = 0 := by unfold mayE; rw [hf]; simp; decide
  obtain ⟨g, v, e⟩ := ho
  rcases h with h | h | h
  · exact absurd hm h.1
  · exact h.2.2
  · obtain ⟨_, e', he, _⟩ := h
    rw [e] at he; simp [getE] at he
theorem one_names {S : DS} {p : List UInt8 × Nat} {ss : List (List UInt8)} (ho : OneS S [121] (some p)) (h : ss.Perm (Go.strKeys (DL (enOf S.E)))) : ss = [[121]] := by
  obtain ⟨g, v, e⟩ := ho
  rw [e] at h
  have : Go.strKeys (DL (enOf [(⟨[121], g, v, p.1, p.2⟩ : FE)])) = [[121]] := rfl
  rw [this] at h
  exact List.perm_singleton.1 h
set_option maxRecDepth 100000 in
set_option maxHeartbeats 3200000 in
theorem diskNames_walk (A0 A1 A2 : Option Addr) (k0 k1 k2 : Nat) (a b c : List UInt8) (sy : Bool) (W : World) (h0 : Bs W W.heap.size A0 a.length a) (h1 : Bs W W.heap.size A1 b.length b) (h2 : Bs W W.heap.size A2 c.length c)
    (m0 : a.length ≤ k0 ∧ k0 ≤ 140737488351232) (m1 : b.length ≤ k1 ∧ k1 ≤ 140737488351232) (m2 : c.length ≤ k2 ∧ k2 ≤ 140737488351232) :
    Calls Try.prog 6 #[.slice A0 a.length k0, .slice A1 b.length k1, .slice A2 c.length k2, .bool sy] W (Ret (.bool true) W) := by
  have HB := Lib.hid (And.intro h0 (And.intro h1 h2))
  obtain ⟨na, hna⟩ : ∃ na, na = a.length := ⟨_, rfl⟩
  obtain ⟨nb, hnb⟩ : ∃ nb, nb = b.length := ⟨_, rfl⟩
  obtain ⟨nc, hnc⟩ : ∃ nc, nc = c.length := ⟨_, rfl⟩
  rw [← hna] at m0 ⊢
  rw [← hnb] at m1 ⊢
  rw [← hnc] at m2 ⊢
  have HL := Lib.hid (And.intro hna (And.intro hnb hnc))
  obtain ⟨m00, m01⟩ := m0
  obtain ⟨m10, m11⟩ := m1
  obtain ⟨m20, m21⟩ := m2
  clear h0 h1 h2 hna hnb hnc
  have ro : ∀ w' : World, Below W.heap.size W w' → Bs w' w'.heap.size A0 na a ∧ Bs w' w'.heap.size A1 nb b ∧ Bs w' w'.heap.size A2 nc c := fun w' hb => by
    rw [HL.out.1, HL.out.2.1, HL.out.2.2]
    exact ⟨(HB.out.1.below hb).more hb.size, (HB.out.2.1.below hb).more hb.size, (HB.out.2.2.below hb).more hb.size⟩
  have RO := Lib.hid ro
  clear ro
  by_cases hs : 8000 < na + nb + nc
  · go_enter Try.func6, Try.ntmps6
    go_wp2_with fail
    go_ret
    exact ⟨rfl, Below.refl _ _⟩
  · have hok : okName [120] = true := by decide
    go_enter Try.func6, Try.ntmps6
    go_wp2_with fail
    refine (new_any 1048576 (by omega) W).mono ?_
    rintro e w1 ⟨d, m, rfl, hd1, b1⟩
    have ho1 : OneS (newS 1048576 m) [120] none := rfl
    have H1 := Lib.hid (And.intro hd1 (And.intro b1 ho1))
    clear hd1 b1 ho1
    go_wp2_with fail
    refine (append_any W.heap.size d (newS 1048576 m) w1 H1.out.1 [120] a (by simp) A0 na k0 (RO.out w1 H1.out.2.1).1 (by omega) (by simp [newS])).mono ?_
    rintro e w2 ⟨code, S2, rfl, hr, hd2, ht2, _⟩
    obtain ⟨rfl, ho2, hf2, hr2, _⟩ := one_app hr H1.out.2.2 (by simp [newS]) hok (by simp [newS, ob]; have := HL.out.1; omega)
    have H2 := Lib.hid (And.intro hd2 (And.intro (H1.out.2.1.trans (RetD.below H1.out.1 ht2)) (And.intro ho2 (And.intro (show S2.fused = false from hf2) (show S2.room = 1048576 from hr2)))))
    clear hr hd2 ht2 ho2 hf2 hr2 H1
    go_wp2_with fail
    refine (sync_any W.heap.size d S2 _ H2.out.1 [120] (by simp)).mono ?_
    rintro e w3 ⟨code, S3, rfl, hr, hd3, ht3, _⟩
    obtain ⟨rfl, ho3, hf3, hr3⟩ := one_sync hr H2.out.2.2.1 (by rw [H2.out.2.2.2.1]; simp) hok
    have H3 := Lib.hid (And.intro hd3 (And.intro (H2.out.2.1.trans (RetD.below H2.out.1 ht3)) (And.intro (show OneS S3 [120] (some (a, a.length)) from ho3) (And.intro (hf3.trans H2.out.2.2.2.1) (hr3.trans H2.out.2.2.2.2)))))
    clear hr hd3 ht3 ho3 hf3 hr3 H2
    go_wp2_with fail
    refine (append_any W.heap.size d S3 w3 H3.out.1 [120] b (by simp) A1 nb k1 (RO.out w3 H3.out.2.1).2.1 (by omega) (by have := one_len H3.out.2.2.1; omega)).mono ?_
    rintro e w4 ⟨code, S4, rfl, hr, hd4, ht4, _⟩
    obtain ⟨rfl, ho4, hf4, hr4, _⟩ := one_app hr H3.out.2.2.1 (by rw [H3.out.2.2.2.1]; simp) hok (by rw [H3.out.2.2.2.2]; show a.length + b.length ≤ 1048576; have := HL.out; omega)
    have H4 := Lib.hid (And.intro hd4 (And.intro (H3.out.2.1.trans (RetD.below H3.out.1 ht4)) (And.intro (show OneS S4 [120] (some (a ++ b, a.length)) from ho4) (And.intro (hf4.trans H3.out.2.2.2.1) (hr4.trans H3.out.2.2.2.2)))))
    clear hr hd4 ht4 ho4 hf4 hr4 H3
    go_wp2_with fail
    refine (append_any W.heap.size d S4 w4 H4.out.1 [121] c (by simp) A2 nc k2 (RO.out w4 H4.out.2.1).2.2 (by omega) (by have := one_len H4.out.2.2.1; omega)).mono ?_
    rintro e w5 ⟨code, S5, rfl, hr, hd5, ht5, _⟩
    obtain ⟨rfl, ho5, hf5⟩ := two_of_one hr H4.out.2.2.1 H4.out.2.2.2.1 (by rw [H4.out.2.2.2.2]; simp; have := HL.out; omega)
    have H5 := Lib.hid (And.intro hd5 (And.intro (H4.out.2.1.trans (RetD.below H4.out.1 ht5)) (And.intro ho5 hf5)))
    clear hr hd5 ht5 ho5 hf5 H4
    cases sy with
    | false =>
      go_wp2_with fail
      refine (rename_any W.heap.size d S5 w5 H5.out.1 [120] [121] (by simp) (by simp)).mono ?_
      rintro e w7 ⟨code, S7, rfl, hr, hd7, ht7, _⟩
      obtain ⟨rfl, ho7, hf7⟩ := two_ren hr H5.out.2.2.1 H5.out.2.2.2
      have H7 := Lib.hid (And.intro hd7 (And.intro (H5.out.2.1.trans (RetD.below H5.out.1 ht7)) (And.intro ho7 hf7)))
      clear hr hd7 ht7 ho7 hf7 H5
      go_wp2_with fail
      refine (list_any W.heap.size d S7 w7 H7.out.1).mono ?_
      rintro e w8 ⟨v8, ss, rfl, hp8, o8, b8⟩
      have hss := one_names H7.out.2.2.1 hp8
      subst hss
      obtain ⟨A8, c8, rfl, hc8, hm8⟩ := own_form o8
      have H8 := Lib.hid (And.intro (H7.out.1.below b8) (And.intro (H7.out.2.1.trans (b8.mono H7.out.2.1.size)) o8))
      clear o8 b8 hp8
      simp only [List.length_cons, List.length_nil, Nat.zero_add] at hc8 ⊢
      unfold maxLen at hm8
      go_wp2_with fail
      have hr8 : Rd (w8.alloc (.cells #[.string (str [121])] 9)) (w8.alloc (.cells #[.string (str [121])] 9)).heap.size 1 A8 1 ([[121]].map sv) := by
        have q1 : w8.heap.size ≤ (w8.alloc (.cells #[.string (str [121])] 9)).heap.size := by simp
        have q2 : Rd w8 w8.heap.size 1 A8 1 ([[121]].map sv) := by
          have q3 := Rd.of_own H8.out.2.2
          simp only [List.mergeSort_singleton, List.map_cons, List.map_nil] at q3
          exact q3
        exact (q2.alloc (Nat.le_refl _) _).more q1
      have hr9 : Rd (w8.alloc (.cells #[.string (str [121])] 9)) (w8.alloc (.cells #[.string (str [121])] 9)).heap.size 1 (some ⟨w8.heap.size, 0, none⟩) 1 ([[121]].map sv) := (Rd.one_new w8 (.string (str [121])) 9).more (by simp)
      refine (texts_any A8 _ 1 c8 1 1 [[121]] [[121]] _ hr8 hr9 (by simp [maxLen])).mono ?_
      rintro e w9 ⟨rfl, b9⟩
      have hb89 : Below w8.heap.size w8 w9 := ((Below.refl _ _).alloc (Nat.le_refl _) _).trans (b9.mono (by simp))
      have H9 := Lib.hid (And.intro (H8.out.1.below hb89) (H8.out.2.1.trans (hb89.mono H8.out.2.1.size)))
      clear b9 hb89 H8
      go_wp2_with fail
      refine (rename_any W.heap.size d S7 w9 H9.out.1 [120] [122] (by simp) (by simp)).mono ?_
      rintro e w10 ⟨code, S10, rfl, hr, hd10, ht10, _⟩
      obtain ⟨rfl, rfl⟩ := one_ren hr H7.out.2.2.1 H7.out.2.2.2
      have H10 := Lib.hid (And.intro hd10 (H9.out.2.trans (RetD.below H9.out.1 ht10)))
      clear hr hd10 ht10 H9
      go_wp2_with fail
      refine (crash_any W.heap.size d S10 w10 H10.out.1 0 (by omega) (by omega)).mono ?_
      rintro e w11 ⟨rfl, hd11, ht11⟩
      have hone := one_crash H7.out.2.2.1 0
      have hcut : (a ++ b).take (a.length + (0 : Int).toNat % ((a ++ b).length - a.length + 1)) = a := by simp
      rw [show ((a ++ b, a.length) : List UInt8 × Nat).1 = a ++ b from rfl, show ((a ++ b, a.length) : List UInt8 × Nat).2 = a.length from rfl, hcut] at hone
      have H11 := Lib.hid (And.intro hd11 (H10.out.2.trans (RetD.below H10.out.1 ht11)))
      clear hd11 ht11 H10 hcut
      obtain ⟨g, v, he, _⟩ := one_get hone
      have HE := Lib.hid he
      clear he hone
      go_wp2_with fail
      refine (read_some W.heap.size d _ w11 H11.out.1 [121] (by simp) _ HE.out).mono ?_
      rintro e w12 ⟨A12, c12, rfl, o12, b12, hc12, hm12⟩
      have H12 := Lib.hid (And.intro o12 (H11.out.2.trans (b12.mono H11.out.2.size)))
      have hb12 := b12.size
      clear o12 b12
      have HR12 := Lib.hid (RO.out w12 H12.out.2)
      obtain ⟨n12, hn12⟩ : ∃ n12, n12 = (a).length := ⟨_, rfl⟩
      simp only [← hn12] at hc12 ⊢
      have HN12 := Lib.hid hn12
      have hn12l : n12 ≤ 8000 := by rw [hn12]; have := HL.out; simp; omega
      clear hn12
      go_wp2_with (first
        | (at_builtin
           refine wpB_append rfl (.tmp 84) (.tmp 85) rfl w12.heap.size _ 0 [] rfl (own_empty w12 _ _) w12.heap.size A0 na k0 a rfl (HR12.out.1.alloc (Nat.le_refl _) _) n12 a (by rw [HN12.out, HL.out.1]; simp) rfl (by omega) (by simp) ?_
           intro A13 c13 w13 o13 b13 hc13 hm13)
        | fail)
      have H14 := Lib.hid (And.intro o13 ((below_refl_alloc w12 _).trans (b13.mono (by simp))))
      clear o13
      refine (same3_eq A12 A13 n12 c12 n12 c13 (a) (a) _ (by rw [HN12.out]; exact ((Rd.of_own H12.out.1).below H14.out.2).more H14.out.2.size) (Rd.of_own H14.out.1) (by simp only [maxLen]; omega) rfl).mono ?_
      rintro e w14 ⟨rfl, b14⟩
      have H15 := Lib.hid (H12.out.2.trans (((H14.out.2.mono H12.out.2.size)).trans (b14.mono (Nat.le_trans H12.out.2.size H14.out.2.size))))
      clear b14
      go_wp2_with fail
      refine (known3_any w14).mono ?_
      rintro e w15 ⟨rfl, b15⟩
      have H16 := Lib.hid (H15.out.trans (b15.mono H15.out.size))
      clear b15
      go_wp2_with fail
      go_ret
      exact ⟨rfl, H16.out⟩
    | true =>
      go_wp2_with fail
      refine (sync_any W.heap.size d S5 _ H5.out.1 [120] (by simp)).mono ?_
      rintro e w6 ⟨code, S6, rfl, hr, hd6, ht6, _⟩
      obtain ⟨rfl, ho6, hf6⟩ := two_sync hr H5.out.2.2.1 H5.out.2.2.2
      have H6 := Lib.hid (And.intro hd6 (And.intro (H5.out.2.1.trans (RetD.below H5.out.1 ht6)) (And.intro ho6 hf6)))
      clear hr hd6 ht6 ho6 hf6 H5
      go_wp2_with fail
      refine (rename_any W.heap.size d S6 w6 H6.out.1 [120] [121] (by simp) (by simp)).mono ?_
      rintro e w7 ⟨code, S7, rfl, hr, hd7, ht7, _⟩
      obtain ⟨rfl, ho7, hf7⟩ := two_ren hr H6.out.2.2.1 H6.out.2.2.2
      have H7 := Lib.hid (And.intro hd7 (And.intro (H6.out.2.1.trans (RetD.below H6.out.1 ht7)) (And.intro ho7 hf7)))
      clear hr hd7 ht7 ho7 hf7 H6
      go_wp2_with fail
      refine (list_any W.heap.size d S7 w7 H7.out.1).mono ?_
      rintro e w8 ⟨v8, ss, rfl, hp8, o8, b8⟩
      have hss := one_names H7.out.2.2.1 hp8
      subst hss
      obtain ⟨A8, c8, rfl, hc8, hm8⟩ := own_form o8
      have H8 := Lib.hid (And.intro (H7.out.1.below b8) (And.intro (H7.out.2.1.trans (b8.mono H7.out.2.1.size)) o8))
      clear o8 b8 hp8
      simp only [List.length_cons, List.length_nil, Nat.zero_add] at hc8 ⊢
      unfold maxLen at hm8
      go_wp2_with fail
      have hr8 : Rd (w8.alloc (.cells #[.string (str [121])] 9)) (w8.alloc (.cells #[.string (str [121])] 9)).heap.size 1 A8 1 ([[121]].map sv) := by
        have q1 : w8.heap.size ≤ (w8.alloc (.cells #[.string (str [121])] 9)).heap.size := by simp
        have q2 : Rd w8 w8.heap.size 1 A8 1 ([[121]].map sv) := by
          have q3 := Rd.of_own H8.out.2.2
          simp only [List.mergeSort_singleton, List.map_cons, List.map_nil] at q3
          exact q3
        exact (q2.alloc (Nat.le_refl _) _).more q1
      have hr9 : Rd (w8.alloc (.cells #[.string (str [121])] 9)) (w8.alloc (.cells #[.string (str [121])] 9)).heap.size 1 (some ⟨w8.heap.size, 0, none⟩) 1 ([[121]].map sv) := (Rd.one_new w8 (.string (str [121])) 9).more (by simp)
      refine (texts_any A8 _ 1 c8 1 1 [[121]] [[121]] _ hr8 hr9 (by simp [maxLen])).mono ?_
      rintro e w9 ⟨rfl, b9⟩
      have hb89 : Below w8.heap.size w8 w9 := ((Below.refl _ _).alloc (Nat.le_refl _) _).trans (b9.mono (by simp))
      have H9 := Lib.hid (And.intro (H8.out.1.below hb89) (H8.out.2.1.trans (hb89.mono H8.out.2.1.size)))
      clear b9 hb89 H8
      go_wp2_with fail
      refine (rename_any W.heap.size d S7 w9 H9.out.1 [120] [122] (by simp) (by simp)).mono ?_
      rintro e w10 ⟨code, S10, rfl, hr, hd10, ht10, _⟩
      obtain ⟨rfl, rfl⟩ := one_ren hr H7.out.2.2.1 H7.out.2.2.2
      have H10 := Lib.hid (And.intro hd10 (H9.out.2.trans (RetD.below H9.out.1 ht10)))
      clear hr hd10 ht10 H9
      go_wp2_with fail
      refine (crash_any W.heap.size d S10 w10 H10.out.1 0 (by omega) (by omega)).mono ?_
      rintro e w11 ⟨rfl, hd11, ht11⟩
      have hone := one_crash H7.out.2.2.1 0
      have hcut : (a ++ b).take ((a ++ b).length + (0 : Int).toNat % ((a ++ b).length - (a ++ b).length + 1)) = a ++ b := by rw [List.take_of_length_le (Nat.le_add_right _ _)]
      rw [show ((a ++ b, (a ++ b).length) : List UInt8 × Nat).1 = a ++ b from rfl, show ((a ++ b, (a ++ b).length) : List UInt8 × Nat).2 = (a ++ b).length from rfl, hcut] at hone
      have H11 := Lib.hid (And.intro hd11 (H10.out.2.trans (RetD.below H10.out.1 ht11)))
      clear hd11 ht11 H10 hcut
      obtain ⟨g, v, he, _⟩ := one_get hone
      have HE := Lib.hid he
      clear he hone
      go_wp2_with fail
      refine (read_some W.heap.size d _ w11 H11.out.1 [121] (by simp) _ HE.out).mono ?_
      rintro e w12 ⟨A12, c12, rfl, o12, b12, hc12, hm12⟩
      have H12 := Lib.hid (And.intro o12 (H11.out.2.trans (b12.mono H11.out.2.size)))
      have hb12 := b12.size
      clear o12 b12
      have HR12 := Lib.hid (RO.out w12 H12.out.2)
      obtain ⟨n12, hn12⟩ : ∃ n12, n12 = (a ++ b).length := ⟨_, rfl⟩
      simp only [← hn12] at hc12 ⊢
      have HN12 := Lib.hid hn12
      have hn12l : n12 ≤ 8000 := by rw [hn12]; have := HL.out; simp; omega
      clear hn12
      go_wp2_with (first
        | (at_builtin
           refine wpB_append rfl (.tmp 84) (.tmp 85) rfl w12.heap.size _ 0 [] rfl (own_empty w12 _ _) w12.heap.size A0 na k0 a rfl (HR12.out.1.alloc (Nat.le_refl _) _) na a (by omega) rfl (by omega) (by simp) ?_
           intro A10 c10 w20 o10 b10 hc10 hm10)
        | (at_builtin
           refine wpB_append rfl (.tmp 88) (.tmp 89) rfl w12.heap.size _ na a rfl o10 w12.heap.size A1 nb k1 b rfl ((HR12.out.2.1.alloc (Nat.le_refl _) _).below b10) n12 (a ++ b) (by rw [HN12.out, HL.out.1, HL.out.2.1]; simp) rfl (by omega) (by have := b10.size; simp at this; omega) ?_
           intro A13 c13 w13 o13 b23 hc13 hm13
           have b13 := b10.trans b23
           clear b10 b23 o10)
        | fail)
      have H14 := Lib.hid (And.intro o13 ((below_refl_alloc w12 _).trans (b13.mono (by simp))))
      clear o13
      refine (same3_eq A12 A13 n12 c12 n12 c13 (a ++ b) (a ++ b) _ (by rw [HN12.out]; exact ((Rd.of_own H12.out.1).below H14.out.2).more H14.out.2.size) (Rd.of_own H14.out.1) (by simp only [maxLen]; omega) rfl).mono ?_
      rintro e w14 ⟨rfl, b14⟩
      have H15 := Lib.hid (H12.out.2.trans (((H14.out.2.mono H12.out.2.size)).trans (b14.mono (Nat.le_trans H12.out.2.size H14.out.2.size))))
      clear b14
      go_wp2_with fail
      refine (known3_any w14).mono ?_
      rintro e w15 ⟨rfl, b15⟩
      have H16 := Lib.hid (H15.out.trans (b15.mono H15.out.size))
      clear b15
      go_wp2_with fail
      go_ret
      exact ⟨rfl, H16.out⟩
end Go.Proofs.Ytcoimlenejffpaa
