/- DiskKeeps: what the law computes: true. -/
import Derived.Test.YtcoimlenejffpaaDiskK
import Derived.Test.YtcoimlenejffpaaOpenD
namespace Go.Proofs.Ytcoimlenejffpaa
set_option linter.all false
open Go.RowKit
/-- A row of bytes of the call's own, beside the disk's blocks. -/
def Own (w : World) (base d : Nat) (S : DS) (v : Value) (b : List UInt8) : Prop := Row w v b ∧ ∀ i, v.ownBlock = some i → base ≤ i ∧ i ∉ S.bl d
theorem Own.nil (w : World) (base d : Nat) (S : DS) : Own w base d S (.slice none 0 0) [] := ⟨Row.nil w, fun i h => by simp [Value.ownBlock] at h⟩
theorem Own.disk {w w' : World} {base d : Nat} {S S' : DS} {v : Value} {b : List UInt8} (h : Own w base d S v b) (ht : Turn (S.bl d) w w') (hs : ∀ i ∈ S'.bl d, i ∈ S.bl d ∨ w.heap.size ≤ i) : Own w' base d S' v b := by
  refine ⟨h.1.keep fun i hi => ht.block i (h.1.lt hi) (h.2 i hi).2, fun i hi => ⟨(h.2 i hi).1, fun h9 => ?_⟩⟩
  rcases hs i h9 with h1 | h1
  · exact (h.2 i hi).2 h1
  · have := h.1.lt hi; omega
theorem Own.below {w w' : World} {base d : Nat} {S : DS} {v : Value} {b : List UInt8} (h : Own w base d S v b) (hb : Below w.heap.size w w') : Own w' base d S v b :=
  ⟨h.1.keep fun i hi => hb.block i (h.1.lt hi), h.2⟩
theorem DW.own {w w' : World} {base d : Nat} {S : DS} {v : Value} {b : List UInt8} (h : DW w base d S) (ho : Own w base d S v b) (hg : w.grownBy w' v.ownBlock) : DW w' base d S :=
  h.keep (fun i hi => hg.block i (h.ge i hi).2 (fun e => (ho.2 i e.symm).2 hi)) hg.size
theorem Own.app {w w' : World} {base d : Nat} {S : DS} {v v' : Value} {b b' : List UInt8} (ho : Own w base d S v b) (h : DW w base d S) (hr : Row w' v' b') (hv : v'.ownBlock = v.ownBlock ∨ v'.ownBlock = some w.heap.size) : Own w' base d S v' b' := by
  refine ⟨hr, fun i hi => ?_⟩
  rcases hv with h1 | h1
  · rw [h1] at hi; exact ho.2 i hi
  · rw [h1] at hi
    injection hi with hi
    subst hi
    exact ⟨h.base_le, fun h9 => by have := (h.ge _ h9).2; omega⟩
theorem Own.frame {w w' : World} {base d : Nat} {S : DS} {v : Value} {b : List UInt8} (ho : Own w base d S v b) (h : DW w base d S) (hg : w.grownBy w' v.ownBlock) : Below base w w' :=
  ⟨hg.os, hg.tape, hg.output, hg.size, fun i hi => hg.block i (by have := h.base_le; omega) (fun e => by have := (ho.2 i e.symm).1; omega)⟩
def tot (R : List (List UInt8)) : Nat := (R.map fun l => l.length + 1).sum
theorem tot_nil : tot [] = 0 := rfl
theorem tot_take {R : List (List UInt8)} {i : Nat} {l : List UInt8} (h : R[i]? = some l) : tot (R.take (i + 1)) = tot (R.take i) + 1 + l.length := by
  unfold tot
  rw [List.take_add_one, h]
  simp; omega
theorem tot_mono {R : List (List UInt8)} (i : Nat) : tot (R.take i) ≤ tot R := by
  unfold tot
  conv => rhs; rw [← List.take_append_drop i R]
  rw [List.map_append, List.sum_append]; omega
theorem flat_take {R : List (List UInt8)} {i : Nat} {l : List UInt8} (h : R[i]? = some l) : (R.take (i + 1)).flatten = (R.take i).flatten ++ l := by
  rw [List.take_add_one, h]; simp
theorem flat_le (R : List (List UInt8)) : R.flatten.length + R.length ≤ tot R := by
  induction R with
  | nil => simp [tot]
  | cons l r ih => simp [tot] at ih ⊢; omega
theorem len_at {R : List (List UInt8)} {i : Nat} {l : List UInt8} (h : R[i]? = some l) : l.length + 1 ≤ tot R := by
  have h1 := tot_take h
  have h2 := tot_mono (R := R) (i + 1)
  omega
/-- Behind i rows. -/
structure KS (W : World) (d : Nat) (R : List (List UInt8)) (i : Nat) (S : DS) (o : Option (List UInt8 × Nat)) (A1 : Option Addr) (n1 c1 : Nat) (wr : World) : Prop where
  dw : DW wr W.heap.size d S
  own : Own wr W.heap.size d S (.slice A1 n1 c1) (R.take i).flatten
  len : n1 = (R.take i).flatten.length
  one : OneS S [102] o
  ob : ob o = (R.take i).flatten
  fused : S.fused = false
  room : S.room = 1048576
  isN : i = 0 → o = none
  isS : 0 < i → o ≠ none
  bel : Below W.heap.size W wr
set_option maxRecDepth 100000 in
set_option maxHeartbeats 3200000 in
theorem diskKeeps_walk (A : Option Addr) (c : Nat) (vs : List Value) (R : List (List UInt8)) (sy dr : Int) (W : World) (hR : RowsB W W.heap.size A vs R) (hc : R.length ≤ c) (hm : c ≤ 140737488351232)
    (s1 : -9223372036854775808 ≤ sy) (s2 : sy ≤ 9223372036854775807) (d1 : -9223372036854775808 ≤ dr) (d2 : dr ≤ 9223372036854775807) :
    Calls Try.prog 3 #[.slice A R.length c, .int .i64 sy, .int .i64 dr] W (Ret (.bool true) W) := by
  have HRO := Lib.hid hR
  have HD12 := Lib.hid (And.intro d1 d2)
  clear d1 d2 hR
  obtain ⟨N, hN⟩ : ∃ N, N = R.length := ⟨_, rfl⟩
  rw [← hN] at hc ⊢
  have HN := Lib.hid hN
  clear hN
  go_enter Try.func3, Try.ntmps3
  go_wp2_with fail
  go_loop [7, 8] (fun s7 s8 => ∃ (t i : Nat), i ≤ N ∧ s8 = .int .i64 (i : Int) ∧ s7 = .int .i64 (t : Int) ∧ t ≤ 150000000000000 ∧ Hid (t = tot (R.take i))) (fun s7 s8 => N - (intOf s8).toNat)
  case atStart => exact ⟨0, 0, Nat.zero_le _, rfl, rfl, by omega, by show _ = _; simp [tot_nil]⟩
  case round =>
    obtain ⟨t, i, hi, rfl, rfl, ht, HT⟩ := hrel
    by_cases hlt : i < N
    · by_cases h8 : t ≤ 8000
      · obtain ⟨g, off, A', c', l, rfl, _, hl, hcell, h1, h2, _⟩ := HRO.out.at_ (show i < R.length by rw [← HN.out]; exact hlt)
        have HT2 : Hid (t + 1 + l.length = tot (R.take (i + 1))) := by show _ = _; rw [tot_take hl, HT.out]
        clear HT hl
        have q1 : decide ((t : Int) ≤ 8000) = true := decide_eq_true (by omega)
        go_wp2_with fail
        go_round
        case rel => exact ⟨t + 1 + l.length, i + 1, by omega, by go_num, by go_num, by omega, HT2.out⟩
        case measure => simp [intOf]; omega
      · have q1 : decide ((t : Int) ≤ 8000) = false := decide_eq_false (by omega)
        have q2 : decide (8000 < (t : Int)) = true := decide_eq_true (by omega)
        go_wp2_with fail
        refine (known3_any W).mono ?_
        rintro e w1 ⟨rfl, b1⟩
        go_wp2_with fail
        go_ret
        exact ⟨rfl, b1⟩
    · by_cases h8 : 8000 < t
      · have q2 : decide (8000 < (t : Int)) = true := decide_eq_true (by omega)
        go_wp2_with fail
        refine (known3_any W).mono ?_
        rintro e w1 ⟨rfl, b1⟩
        go_wp2_with fail
        go_ret
        exact ⟨rfl, b1⟩
      · have hiN : i = N := by omega
        have HTT : Hid (tot R ≤ 8000) := by show _ ≤ _; have := HT.out; rw [hiN, HN.out, List.take_length] at this; omega
        have q2 : decide (8000 < (t : Int)) = false := decide_eq_false (by omega)
        clear HT
        go_wp2_with fail
        refine (new_any 1048576 (by omega) W).mono ?_
        rintro e w1 ⟨d, m, rfl, hd1, b1⟩
        have H1 := Lib.hid (And.intro hd1 b1)
        clear hd1 b1
        go_wp2_with fail
        have HFL : Hid (∀ j, (R.take j).flatten.length ≤ 8000) := fun j => by have h1 := flat_le (R.take j); have h2 := tot_mono (R := R) j; have h3 := HTT.out; omega
        go_loopw [11, 12, 13] (fun s11 s12 s13 wr => ∃ (i : Nat) (S : DS) (o : Option (List UInt8 × Nat)) (A1 A2 : Option Addr) (n1 n2 c1 c2 : Nat), i ≤ N ∧ s13 = .int .i64 (i : Int) ∧ s11 = .slice A1 n1 c1 ∧ s12 = .slice A2 n2 c2 ∧ Hid (n2 = ol o ∧ n2 ≤ c2 ∧ c2 ≤ 9223372036854775807) ∧ Hid (KS W d R i S o A1 n1 c1 wr)) (fun s11 s12 s13 _ => N - (intOf s13).toNat)
        case atStart => exact ⟨0, _, none, none, none, 0, 0, 0, 0, Nat.zero_le _, rfl, rfl, rfl, ⟨rfl, by omega, by omega⟩, ⟨H1.out.1, Own.nil _ _ _ _, rfl, rfl, rfl, rfl, rfl, fun _ => rfl, fun h => absurd h (by omega), H1.out.2⟩⟩
        case round =>
          obtain ⟨i, S, o, A1, A2, n1, n2, c1, c2, hi, rfl, rfl, rfl, HSU, HK⟩ := hrel
          clear H1
          by_cases hlt : i < N
          · obtain ⟨g, off, A', c', l, rfl, hgl, hl, hcell, h1, h2, h3⟩ := (HRO.out.below HK.out.bel).at_ (show i < R.length by rw [← HN.out]; exact hlt)
            have hll : l.length ≤ 8000 := by have := len_at hl; have := HTT.out; omega
            have HFT := Lib.hid (flat_take hl)
            have HB3 := Lib.hid (And.intro h3 (And.intro hcell hgl))
            have h3' := h3.more HK.out.bel.size
            have happ := append_any W.heap.size d S wr HK.out.dw [102] l (by simp) A' l.length c' h3' (by omega) (by have := one_len HK.out.one; omega)
            have HAPP := Lib.hid happ
            clear happ h3 h3' hl
            go_wp2_with fail
            refine (unhide3 HAPP).mono ?_
            rintro e w1 ⟨code, S1, rfl, hr, hd1, ht1, hs1⟩
            have hfl1 := HFL.out i
            have hfl2 := HFL.out (i + 1)
            rw [HFT.out, List.length_append] at hfl2
            obtain ⟨rfl, ho1, hf1, hr1, _⟩ := one_app hr HK.out.one (by rw [HK.out.fused]; simp) (by decide) (by rw [HK.out.ob, HK.out.room]; omega)
            have hbel1 : Below W.heap.size W w1 := HK.out.bel.trans (RetD.below HK.out.dw ht1)
            have hb1 : Below W.heap.size wr w1 := RetD.below HK.out.dw ht1
            have own1 : Own w1 W.heap.size d S1 (.slice A1 n1 c1) (R.take i).flatten := HK.out.own.disk ht1 hs1
            have hcell1 : w1.cell? ⟨g, off + i, none⟩ = some (.slice A' l.length c') := (hb1.cell (p := ⟨g, off + i, none⟩) HB3.out.2.2).trans hcell
            have HBS1 := Lib.hid ((HB3.out.1.below hb1).more hbel1.size)
            have H1 := Lib.hid (And.intro hd1 (And.intro own1 (And.intro ho1 (And.intro (hf1.trans HK.out.fused) (And.intro (hr1.trans HK.out.room) hbel1)))))
            have HLN := Lib.hid HK.out.len
            clear hr hd1 ht1 hs1 ho1 hf1 hr1 hbel1 hb1 own1 hcell HB3 HAPP
            by_cases hsy : (i : Int) < sy
            · have qs : decide ((i : Int) < sy) = true := decide_eq_true hsy
              go_wp2_with (first
                | (at_builtin
                   refine wp_append_row rfl (.tmp 60) (.tmp 64) rfl (.slice A1 n1 c1) (R.take i).flatten rfl H1.out.2.1.1 _ A' l.length c' l rfl HBS1.out (by omega) ?_
                   intro v2 w2 r2 g2 o2
                   rw [← HFT.out] at r2
                   obtain ⟨A3, c3, hv3, hc3, hm3⟩ := r2.form
                   obtain ⟨n3, hn3⟩ : ∃ n3, n3 = (R.take (i + 1)).flatten.length := ⟨_, rfl⟩
                   rw [← hn3] at hv3 hc3
                   subst hv3
                   have H2 := Lib.hid (And.intro (H1.out.1.own H1.out.2.1 g2) (And.intro (H1.out.2.1.app H1.out.1 r2 o2) (And.intro (H1.out.2.2.2.2.2.trans (H1.out.2.1.frame H1.out.1 g2)) hn3)))
                   clear r2 g2 o2 hn3)
                | fail)
              refine (sync_any W.heap.size d S1 w2 H2.out.1 [102] (by simp)).mono ?_
              rintro e w3 ⟨code, S2, rfl, hr, hd3, ht3, hs3⟩
              obtain ⟨rfl, ho3, hf3, hr3⟩ := one_sync hr H1.out.2.2.1 (by rw [H1.out.2.2.2.1]; simp) (by decide)
              have own3 : Own w3 W.heap.size d S2 (.slice A3 n3 c3) (R.take (i + 1)).flatten := H2.out.2.1.disk ht3 hs3
              have H3 := Lib.hid (And.intro hd3 (And.intro own3 (And.intro ho3 (And.intro (hf3.trans H1.out.2.2.2.1) (And.intro (hr3.trans H1.out.2.2.2.2.1) (H2.out.2.2.1.trans (RetD.below H2.out.1 ht3)))))))
              have HN3 := Lib.hid H2.out.2.2.2
              have hle3 : n3 ≤ 8000 := by rw [HN3.out]; exact HFL.out (i + 1)
              have hrow : Row w3 (.slice A3 n3 c3) (R.take (i + 1)).flatten := own3.1
              rw [HN3.out] at hrow
              have hbs3 := hrow.bs
              rw [← HN3.out] at hbs3
              have HBS3 := Lib.hid hbs3
              clear hr hd3 ht3 hs3 ho3 hf3 hr3 H2 own3 hrow hbs3
              go_wp2_with (first
                | (at_builtin
                   refine wpB_append rfl (.tmp 72) (.tmp 73) rfl w3.heap.size _ 0 [] rfl (own_empty w3 _ _) w3.heap.size A3 n3 c3 (R.take (i + 1)).flatten rfl (HBS3.out.alloc (Nat.le_refl _) _) n3 (R.take (i + 1)).flatten (by omega) rfl (by omega) (by simp) ?_
                   intro A4 c4 w4 o4 b4 hc4 hm4
                   have H4 : Hid (Below w3.heap.size w3 w4) := ((Below.refl _ _).alloc (Nat.le_refl _) _).trans b4
                   clear o4 b4)
                | fail)
              go_roundw
              case rel =>
                refine ⟨i + 1, S2, some (ob o ++ l, (ob o ++ l).length), A3, A4, n3, n3, c3, c4, by omega, by go_num, rfl, rfl, ?_, ?_⟩
                rotate_left
                · exact ⟨H3.out.1.below H4.out, H3.out.2.1.below H4.out, HN3.out, H3.out.2.2.1, by show ob o ++ l = _; rw [HK.out.ob, HFT.out], H3.out.2.2.2.1, H3.out.2.2.2.2.1, fun h => absurd h (by omega), fun _ => by simp, H3.out.2.2.2.2.2.trans (H4.out.mono H3.out.2.2.2.2.2.size)⟩
                · exact ⟨by rw [HN3.out, HFT.out, ← HK.out.ob]; rfl, hc4, hm4⟩
              case measure => simp [intOf]; omega
            · have qs : decide ((i : Int) < sy) = false := decide_eq_false hsy
              go_wp2_with (first
                | (at_builtin
                   refine wp_append_row rfl (.tmp 60) (.tmp 64) rfl (.slice A1 n1 c1) (R.take i).flatten rfl H1.out.2.1.1 _ A' l.length c' l rfl HBS1.out (by omega) ?_
                   intro v2 w2 r2 g2 o2
                   rw [← HFT.out] at r2
                   obtain ⟨A3, c3, hv3, hc3, hm3⟩ := r2.form
                   obtain ⟨n3, hn3⟩ : ∃ n3, n3 = (R.take (i + 1)).flatten.length := ⟨_, rfl⟩
                   rw [← hn3] at hv3 hc3
                   subst hv3
                   have H2 := Lib.hid (And.intro (H1.out.1.own H1.out.2.1 g2) (And.intro (H1.out.2.1.app H1.out.1 r2 o2) (And.intro (H1.out.2.2.2.2.2.trans (H1.out.2.1.frame H1.out.1 g2)) hn3)))
                   clear r2 g2 o2 hn3)
                | fail)
              go_roundw
              case rel =>
                exact ⟨i + 1, S1, some (ob o ++ l, ol o), A3, A2, n3, n2, c3, c2, by omega, by go_num, rfl, rfl, HSU.out, H2.out.1, H2.out.2.1, H2.out.2.2.2, H1.out.2.2.1, by show ob o ++ l = _; rw [HK.out.ob, HFT.out], H1.out.2.2.2.1, H1.out.2.2.2.2.1, fun h => absurd h (by omega), fun _ => by simp, H2.out.2.2.1⟩
              case measure => simp [intOf]; omega
          · have hiN : i = N := by omega
            have hc' := crash_any W.heap.size d S wr HK.out.dw dr HD12.out.1 HD12.out.2
            have HCR := Lib.hid hc'
            clear hc'
            have hol : ol o ≤ (ob o).length := by
              rcases ho : o with _ | p
              · simp [ol, ob]
              · obtain ⟨g, v, e1, e2⟩ := one_get (by have := HK.out.one; rw [ho] at this; exact this)
                exact (HK.out.dw.file _ (getE_mem e1).1).2.2
            have HOL := Lib.hid hol
            clear hol
            go_wp2_with fail
            refine (unhide3 HCR).mono ?_
            rintro e w1 ⟨rfl, hd1, ht1⟩
            have own1 : Own w1 W.heap.size d (crashS S dr) (.slice A1 n1 c1) (R.take i).flatten := HK.out.own.disk ht1 (fun i hi => .inl (by
              have := cutS_bl dr.toNat (fun _ => false) S d
              rw [cutS_none _ _ _ (fun _ => rfl)] at this
              exact this ▸ hi))
            have H1 := Lib.hid (And.intro hd1 (And.intro own1 (HK.out.bel.trans (RetD.below HK.out.dw ht1))))
            clear hd1 ht1 own1 HCR
            rcases ho : o with _ | p
            · have hi0 : i = 0 := by
                rcases Nat.eq_zero_or_pos i with h | h
                · exact h
                · exact absurd ho (HK.out.isS h)
              subst hi0
              subst hiN
              have hone := one_crash0 (by have := HK.out.one; rw [ho] at this; exact this) dr
              have hrd := read_none W.heap.size d (crashS S dr) w1 H1.out.1 [102] (by simp) (one_none hone _)
              have HRD := Lib.hid hrd
              clear hrd hone
              go_wp2_with fail
              refine (unhide3 HRD).mono ?_
              rintro e w2 ⟨rfl, rfl⟩
              go_wp2_with fail
              refine (known3_any w1).mono ?_
              rintro e w3 ⟨rfl, b3⟩
              go_wp2_with fail
              go_ret
              exact ⟨rfl, H1.out.2.2.trans (b3.mono H1.out.2.2.size)⟩
            · have hN0 : 0 < N := by
                rcases Nat.eq_zero_or_pos i with h | h
                · have := HK.out.isN h; rw [ho] at this; cases this
                · omega
              have hone := one_crash (by have := HK.out.one; rw [ho] at this; exact this) dr
              obtain ⟨q, hq⟩ : ∃ q, q = p.2 + dr.toNat % (p.1.length - p.2 + 1) := ⟨_, rfl⟩
              rw [← hq] at hone
              have hob : p.1 = (R.take i).flatten := by have := HK.out.ob; rw [ho] at this; exact this
              have hpl : p.2 ≤ p.1.length := by have := HOL.out; rw [ho] at this; exact this
              have hq1 : n2 ≤ q := by have := HSU.out.1; rw [ho] at this; rw [this, hq]; simp [ol]
              have hq2 : q ≤ n1 := by
                rw [HK.out.len, ← hob, hq]
                have := Nat.mod_lt dr.toNat (show p.1.length - p.2 + 1 > 0 by omega)
                omega
              have hlen : (p.1.take q).length = q := by rw [List.length_take, hob, ← HK.out.len]; omega
              obtain ⟨g, v, e1, _⟩ := one_get hone
              have hrd := read_some W.heap.size d (crashS S dr) w1 H1.out.1 [102] (by simp) _ e1
              unfold RetRead at hrd
              simp only [hlen] at hrd
              have HRD := Lib.hid hrd
              have hrow : Row w1 (.slice A1 n1 c1) (R.take i).flatten := H1.out.2.1.1
              obtain ⟨A9, c9, ef, hc1, hc2⟩ := hrow.form
              injection ef with ef1 ef2 ef3
              subst ef1; subst ef3
              rw [HK.out.len] at hrow
              have hbs := hrow.bs
              rw [← HK.out.len] at hbs hc1
              have HBS := Lib.hid (hbs.take hq2)
              have HOB := Lib.hid hob
              have hn1 : n1 ≤ 8000 := by rw [HK.out.len]; exact HFL.out i
              have hN1 : ((N : Int) == 0) = false := by simp; omega
              clear hrd hone hq hob hpl hlen e1 hrow hbs ef2
              go_wp2_with fail
              refine (unhide3 HRD).mono ?_
              rintro e w2 ⟨A6, c6, rfl, o6, b6, hc6, hm6⟩
              have H2 := Lib.hid (And.intro o6 b6)
              clear o6 b6
              go_wp2_with fail
              refine (same3_eq A6 A1 q c6 q c1 (p.1.take q) ((R.take i).flatten.take q) _ (Rd.of_own H2.out.1) ((HBS.out.below H2.out.2).more H2.out.2.size) (by simp only [maxLen]; omega) (by rw [HOB.out])).mono ?_
              rintro e w3 ⟨rfl, b3⟩
              have H3 := Lib.hid (bseq H2.out.2 b3)
              clear b3
              go_wp2_with fail
              refine (known3_any w3).mono ?_
              rintro e w4 ⟨rfl, b4⟩
              have H4 := Lib.hid (bseq H3.out b4)
              clear b4
              go_wp2_with fail
              go_ret
              exact ⟨rfl, H1.out.2.2.trans (H4.out.mono H1.out.2.2.size)⟩
end Go.Proofs.Ytcoimlenejffpaa
