/- disk: Crash. -/
import Derived.Test.YtcoimlenejffpaaDiskF
namespace Go.Proofs.Ytcoimlenejffpaa
set_option linter.all false
open Go.RowKit
/-- How many bytes of a file stay, at a crash. -/
def staysE (k : Nat) (e : FE) : Nat := e.l + k % (e.b.length - e.l + 1)
def cutV (v : Value) (n : Nat) : Value := match v with | .slice A _ _ => .slice A n n | v => v
def cutE (k : Nat) (e : FE) : FE := ⟨e.s, e.g, cutV e.v (staysE k e), e.b.take (staysE k e), staysE k e⟩
theorem stays_le (k : Nat) (e : FE) (h : e.l ≤ e.b.length) : staysE k e ≤ e.b.length := by
  unfold staysE
  have := Nat.mod_lt k (show e.b.length - e.l + 1 > 0 by omega)
  omega
theorem cutV_own (v : Value) (n : Nat) : (cutV v n).ownBlock = v.ownBlock := by
  unfold cutV
  split
  · rename_i A _ _; cases A <;> rfl
  · rfl
theorem cutE_bl (k : Nat) (e : FE) : (cutE k e).bl = e.bl := by unfold FE.bl cutE; simp only; rw [cutV_own]
theorem Row.cutv {w : World} {v : Value} {b : List UInt8} (h : Row w v b) {k : Nat} (hk : k ≤ b.length) : Row w (cutV v k) (b.take k) := by
  rcases h with ⟨rfl, rfl⟩ | ⟨g, cap, cur, rfl, r⟩
  · have : k = 0 := by simpa using hk
    subst this
    exact .inl ⟨rfl, rfl⟩
  · exact Row.cut (cap := cap) (.inr ⟨g, cap, cur, rfl, r⟩) hk
/-- The disk, some of whose files are cut. -/
def cutS (k : Nat) (left : Lit → Bool) (S : DS) : DS := { S with E := S.E.map fun e => if left (.string e.s) then e else cutE k e }
theorem cutS_en (k : Nat) (left : Lit → Bool) (S : DS) : enOf (cutS k left S).E = enOf S.E := by
  unfold enOf cutS
  simp only [List.map_map]
  apply List.map_congr_left
  intro e _
  simp only [Function.comp]
  split <;> rfl
theorem cutS_bl (k : Nat) (left : Lit → Bool) (S : DS) (d : Nat) : (cutS k left S).bl d = S.bl d := by
  unfold DS.bl cutS
  simp only [List.flatMap_map, List.flatMap_def]
  rw [List.map_map]
  congr 3
  apply List.map_congr_left
  intro e _
  simp only [Function.comp]
  split
  · rfl
  · exact cutE_bl k e
theorem cutS_all (k : Nat) (left : Lit → Bool) (S : DS) (h : ∀ p ∈ S.E, left (.string p.s) = true) : cutS k left S = S := by
  unfold cutS
  have : (S.E.map fun e => if left (.string e.s) then e else cutE k e) = S.E := by
    conv => rhs; rw [← List.map_id S.E]
    apply List.map_congr_left
    intro e he
    rw [if_pos (h e he)]; rfl
  rw [this]
theorem cutS_none (k : Nat) (left : Lit → Bool) (S : DS) (h : ∀ kl, left kl = false) : cutS k left S = { S with E := S.E.map (cutE k) } := by
  unfold cutS
  simp [h]
theorem cutS_get {k : Nat} {left : Lit → Bool} {S : DS} {s : List UInt8} {e : FE} (h : getE s S.E = some e) (hl : left (.string s) = true) : getE s (cutS k left S).E = some e := by
  unfold getE cutS at *
  simp only [List.find?_map]
  have e1 : (fun e => e.s == s) ∘ (fun e => if left (.string e.s) = true then e else cutE k e) = fun e => e.s == s := by
    funext x
    simp only [Function.comp]
    split <;> rfl
  rw [e1, h]
  have hs : e.s = s := by have := List.find?_some h; simpa using this
  simp [hs, hl]
theorem cutS_step {k : Nat} {left : Lit → Bool} {S : DS} {s : List UInt8} {e : FE} (hn : Nd1 (enOf S.E)) (h : getE s S.E = some e) :
    setF (cutS k left S) s (cutE k e) = cutS k (fun z => left z && !z.sameKey (.string s)) S := by
  unfold setF setE cutS
  simp only [List.map_map]
  congr 1
  apply List.map_congr_left
  intro x hx
  simp only [Function.comp]
  have hxs : (if left (.string x.s) = true then x else cutE k x).s = x.s := by split <;> rfl
  rw [hxs]
  rcases hb : (x.s == s) with _ | _
  · have : (Lit.string x.s).sameKey (.string s) = false := by simpa [Lit.sameKey] using hb
    simp [this]
  · have hxs2 : x.s = s := by simpa using hb
    have h2 := getE_of_mem hn hx
    rw [hxs2, h] at h2
    injection h2 with h2
    subst h2
    have : (Lit.string e.s).sameKey (.string s) = true := by simpa [Lit.sameKey] using hb
    simp [this]
def crashS (S : DS) (n : Int) : DS := { S with E := S.E.map (cutE n.toNat), fused := false }
set_option maxRecDepth 100000 in
set_option maxHeartbeats 3200000 in
theorem crash_any (base d : Nat) (S : DS) (w : World) (h : DW w base d S) (n : Int) (h1 : -9223372036854775808 ≤ n) (h2 : n ≤ 9223372036854775807) :
    Calls Try.prog 13 #[.pointer (some ⟨d, 0, none⟩), .int .i64 n] w (fun e w' => e = .returned (.tuple #[]) ∧ DW w' base d (crashS S n) ∧ Turn (S.bl d) w w') := by
  have hc := h.cell
  unfold dcells at hc
  have c1 : w.cell? ⟨d, 1, none⟩ = some (.map (some S.m)) := hc.cell 1
  have hnd := Lib.hid h.nd
  have H := Lib.hid h
  have hmap := h.map
  have hro := h.room
  have HGE := Lib.hid h.ge
  have HAL : Hid (cutS n.toNat (Maps.has (DL (enOf S.E))) S = S) := cutS_all _ _ _ (fun p hp => by
    rw [DL_has]; exact List.any_eq_true.2 ⟨enE p, List.mem_map.2 ⟨p, hp, rfl⟩, by simp [enE]⟩)
  clear hc h
  go_enter Try.func13, Try.ntmps13
  go_wp2_with (first
    | (at_range
       refine wpList_range_own _ rfl _ 57 rfl 9 61 (Go.Maps.string_keyed Try.underlying9) Try.underlying57 ptrR S.m S.E.length (DL (enOf S.E)) rfl hmap ?_
       intro w0 hrg0 hg0 hs0))
  go_frame
  have HB0 : Hid (Below w.heap.size w w0) := gb_below0 hg0
  have HD0 : Hid (DW w0 base d (cutS n.toNat (Maps.has (DL (enOf S.E))) S)) := by rw [HAL.out]; exact H.out.below HB0.out
  generalize hr : w.heap.size = r at *
  have HR := Lib.hid hr
  clear hr hg0 hmap c1
  go_loopw [] (fun wr => ∃ (left : Lit → Bool) (cnt : Nat), Hid (DW wr base d (cutS n.toNat left S)) ∧ Hid (wr.ranges Try.prog 9 ptrR S.m r S.E.length (DL (enOf S.E)) left cnt) ∧ Hid (Turn (S.bl d) w wr)) (fun wr => wr.rangeLeft S.m r)
  case atStart => exact ⟨_, _, HD0.out, hrg0, Turn.of_below (by rw [HR.out]; exact HB0.out)⟩
  case round =>
    obtain ⟨left, cnt, HD, HRG, HT⟩ := hrel
    go_wp2_with (first
      | (at_next
         refine wpList_next_ranges _ rfl _ rfl 9 (Go.Maps.string_keyed Try.underlying9) ptrR (fun s : ByteArray => Value.string s) mkP (fun key kl hk => by obtain ⟨s, e, _⟩ := key_inv hk; exact ⟨s, e⟩) (fun v y hv => by obtain ⟨c, e, _⟩ := ptrR_inv hv; exact ⟨c, e⟩)
           S.m r _ _ left cnt rfl HRG.out ?_ ?_))
    · intro hc0 hl0
      have HF : Hid (DW wr base d { S with E := S.E.map (cutE n.toNat) }) := by have := HD.out; rw [cutS_none _ _ _ hl0] at this; exact this
      clear hl0 hc0
      have hcc := HF.out.cell
      unfold dcells at hcc
      have c2 : wr.cell? ⟨d, 2, none⟩ = some (.bool S.fused) := hcc.cell 2
      have f2 : wr.frozen? ⟨d, 2, none⟩ = false := hcc.free 2
      have ht : Turn [d] wr (wr.setCell ⟨d, 2, none⟩ (.bool false)) := Turn.set (.inl (by simp))
      have HE := Lib.hid (And.intro (HF.out.set_d (S' := crashS S n) rfl rfl rfl HF.out.left (Blk.set hcc 2 (.bool false)) ht) (HT.out.trans ht (fun i hi => .inl (by simp at hi; subst hi; exact bl_d _ _))))
      clear hcc ht
      go_wp2_with fail
      go_end0
      exact ⟨rfl, HE.out⟩
    · intro s c kl ya yb w1 cnt1 hkey hleft hR hat hrg1 hlt hg1 hs1 hen
      obtain ⟨s', e1, e2⟩ := key_inv hkey
      injection e1 with e1
      subst e1
      rw [ptrR_mk] at hR
      injection hR with hR
      injection hR with hR1 hR2
      subst hR1
      rw [e2] at hat hleft
      obtain ⟨g, e3, hget⟩ := at_all hat
      subst e3
      rw [getL_getE] at hget
      obtain ⟨e, he1, he2⟩ := Option.map_eq_some_iff.1 hget
      subst he2
      have HGS := Lib.hid (cutS_get (k := n.toNat) he1 hleft)
      have HSTEP : Hid (setF (cutS n.toNat left S) s.data.toList (cutE n.toNat e) = cutS n.toNat (fun z => left z && !z.sameKey kl) S) := by
        show _ = _
        rw [e2]; exact cutS_step hnd.out he1
      have hdis : ∀ i ∈ S.bl d, i < r := fun i hi => (HGE.out i hi).2
      have HD1 : Hid (DW w1 base d (cutS n.toNat left S)) := HD.out.keep (fun i hi => hg1.block i (HD.out.ge i hi).2 (fun e => by rw [cutS_bl] at hi; have := hdis i hi; injection e with e; omega)) hg1.size
      have hem : e ∈ (cutS n.toNat left S).E := (getE_mem HGS.out).1
      obtain ⟨f1, f2, f3⟩ := HD1.out.file e hem
      have hle : e.b.length ≤ (cutS n.toNat left S).used := mem_le_sum hem
      have hro2 := HD1.out.room
      obtain ⟨A, cc, ev, _, _⟩ := f2.form
      rw [ev] at f1
      have hT := told_any e.g A e.b.length cc e.l w1 f1 (by omega) f3
      have HT1 : Hid (∃ t : Nat, t = e.l * 4294967296 + e.b.length ∧ Calls Try.prog 31 #[.pointer (some ⟨e.g, 0, none⟩)] w1 (RetQ (.int .u64 (t : Int)) w1)) := ⟨_, rfl, hT⟩
      obtain ⟨t, ht, HT2⟩ := HT1.out
      have HT3 := Lib.hid HT2
      have ht2 : IntKind.u32.wrap (t : Int) = (e.b.length : Int) := by rw [IntKind.wrap_u32']; omega
      have hro3 : e.b.length ≤ 1073741824 := by omega
      have HF := Lib.hid (And.intro f1 (And.intro f2 f3))
      have HRG1 := Lib.hid hrg1
      have HM : Hid (wr.rangeLeft S.m r = cnt ∧ cnt1 < cnt) := ⟨HRG.out.left_eq, hlt⟩
      have hen2 : (Instr.entry (.pointer (some ⟨r, 0, none⟩))).run Try.prog w1 = .ok (.tuple #[.string s, .pointer (some ⟨e.g, 0, none⟩)]) w1 := hen
      have g0 : w1.cell? ⟨e.g, 0, none⟩ = some (.slice A e.b.length cc) := f1.cell 0
      have g1 : w1.cell? ⟨e.g, 1, none⟩ = some (.int .u32 (e.l : Int)) := f1.cell 1
      have fr0 := f1.free 0
      have fr1 := f1.free 1
      obtain ⟨q, hq⟩ : ∃ q, q = staysE n.toNat e := ⟨_, rfl⟩
      have hql : q ≤ e.b.length := by rw [hq]; exact stays_le _ _ f3
      have HEND : Hid (∀ (mm : Nat) (W4 : World), ((w1.drewN mm).setCell ⟨e.g, 0, none⟩ (.slice A q q)).setCell ⟨e.g, 1, none⟩ (.int .u32 (q : Int)) = W4 →
          DW W4 base d (cutS n.toNat (fun z => left z && !z.sameKey kl) S) ∧ W4.ranges Try.prog 9 ptrR S.m r S.E.length (DL (enOf S.E)) (fun z => left z && !z.sameKey kl) cnt1 ∧ Turn (S.bl d) w W4) := by
        show ∀ (mm : Nat) (W4 : World), _
        intro mm W4 hW4
        have hgb : w1.grownBy W4 (some e.g) := by
          rw [← hW4]
          exact gb_trans (gb_trans (w1 := w1.drewN mm) ⟨rfl, rfl, rfl, Nat.le_refl _, fun _ _ _ => rfl⟩ (gb_set _ _ _ _)) (gb_set _ _ _ _)
        have ht4 : Turn e.bl w1 W4 := Turn.of_grown hgb (fun i hi => by injection hi with hi; subst hi; exact .inl (by simp [FE.bl]))
        have hne := hne_v HD1.out hem
        have hb4 : Blk W4 e.g #[.slice A q q, .int .u32 (q : Int)] 64 := by
          have h5 : Blk (w1.drewN mm) e.g #[.slice A e.b.length cc, .int .u32 (e.l : Int)] 64 := f1
          rw [← hW4]
          exact Blk.set2 h5 0 1 _ _
        have hcv : cutV e.v q = .slice A q q := by rw [ev]; rfl
        have hfw : FW W4 (cutE n.toNat e) := by
          unfold FW cutE
          simp only
          rw [← hq]
          refine ⟨by rw [hcv]; exact hb4, (Row.cutv f2 hql).keep fun i hi => hgb.block i ?_ ?_, by rw [List.length_take]; omega⟩
          · rw [cutV_own] at hi; exact f2.lt hi
          · rw [cutV_own] at hi; rw [← hi]; exact fun h9 => hne h9.symm
        have hx := HD1.out.set_file (e' := cutE n.toNat e) HGS.out rfl rfl ht4 hfw (.inl (cutV_own _ _)) (by
          have h6 : (cutE n.toNat e).b.length ≤ e.b.length := by unfold cutE; simp only; rw [List.length_take]; omega
          omega)
        rw [HSTEP.out] at hx
        have hegb : e.g ∈ S.bl d := by have := bl_g (d := d) hem; rwa [cutS_bl] at this
        have hdm : S.m ≠ e.g := by
          have h7 := HD1.out.nodup
          unfold DS.bl at h7
          rw [List.nodup_cons, List.nodup_cons] at h7
          intro h8
          refine h7.2.1 (List.mem_flatMap.2 ⟨e, hem, ?_⟩)
          rw [show (cutS n.toNat left S).m = S.m from rfl, h8]
          simp [FE.bl]
        refine ⟨hx.1, hrg1.kept hgb (by intro h9; injection h9 with h9; exact hdm h9) (by intro h9; injection h9 with h9; have := hdis e.g hegb; omega), ?_⟩
        have t1 : Turn (S.bl d) w w1 := HT.out.trans (Turn.of_grown hg1 (B := [r]) (fun i hi => by injection hi with hi; exact .inl (by simp [hi]))) (fun i hi => .inr (by have h9 := HR.out; simp at hi; omega))
        exact t1.trans ht4 (fun i hi => by
          left
          have h8 : i ∈ (cutS n.toNat left S).bl d := by
            unfold FE.bl at hi
            rcases List.mem_cons.1 hi with rfl | h8
            · exact bl_g hem
            · exact bl_v hem (by simpa using h8)
          rwa [cutS_bl] at h8)
      have hdiv : (t : Int) / 4294967296 = (e.l : Int) := by omega
      have hmod : (t : Int) % 4294967296 = (e.b.length : Int) := by omega
      have hq2 : (q : Int) % 4294967296 = (q : Int) := by omega
      have hqc : (q : Int) ≤ (cc : Int) := by omega
      have HST : Hid (staysE n.toNat e = e.l + n.toNat % (e.b.length - e.l + 1)) := rfl
      clear hrg1 hT HT1 HT2 hat hkey hleft hs1 hget hlt HRG e2 hen f1 f2 ht ev hg1 hle hro2 hem he1
      rcases Int.lt_or_le 0 n with hn | hn
      · obtain ⟨k, rfl⟩ : ∃ k : Nat, n = (k : Int) := ⟨n.toNat, by omega⟩
        have hqq : (q : Int) = (e.l : Int) + (k : Int) % ((e.b.length : Int) - (e.l : Int) + 1) := by
          have := HST.out
          rw [← hq, Int.toNat_natCast] at this
          have e1 : ((e.b.length - e.l + 1 : Nat) : Int) = (e.b.length : Int) - (e.l : Int) + 1 := by omega
          rw [← e1, this]; omega
        have hw : IntKind.u64.wrap ((e.l : Int) + (k : Int) % ((e.b.length : Int) - (e.l : Int) + 1)) = (q : Int) := by
          rw [← hqq, IntKind.wrap_u64]; omega
        clear hqq hq HST
        generalize e.b.length = N at *
        generalize e.l = L at *
        go_wp2_with fail
        refine (unhide3 HT3).mono ?_
        rintro en w2 ⟨rfl, mm, rfl⟩
        go_wp2_with fail
        obtain ⟨W4, hW4⟩ : ∃ W4, ((w1.drewN mm).setCell ⟨e.g, 0, none⟩ (.slice A q q)).setCell ⟨e.g, 1, none⟩ (.int .u32 (q : Int)) = W4 := ⟨_, rfl⟩
        rw [hW4]
        have hx := HEND.out mm W4 hW4
        exact ⟨⟨_, cnt1, hx.1, hx.2.1, hx.2.2⟩, by rw [HM.out.1, hx.2.1.left_eq]; exact HM.out.2⟩
      · have hqq : q = e.l := by
          rw [hq, HST.out, show n.toNat = 0 by omega]; simp
        rw [hqq] at HEND hq2 hqc
        clear hqq hq HST
        generalize e.b.length = N at *
        generalize e.l = L at *
        go_wp2_with fail
        refine (unhide3 HT3).mono ?_
        rintro en w2 ⟨rfl, mm, rfl⟩
        go_wp2_with fail
        obtain ⟨W4, hW4⟩ : ∃ W4, ((w1.drewN mm).setCell ⟨e.g, 0, none⟩ (.slice A L L)).setCell ⟨e.g, 1, none⟩ (.int .u32 (L : Int)) = W4 := ⟨_, rfl⟩
        rw [hW4]
        have hx := HEND.out mm W4 hW4
        exact ⟨⟨_, cnt1, hx.1, hx.2.1, hx.2.2⟩, by rw [HM.out.1, hx.2.1.left_eq]; exact HM.out.2⟩
end Go.Proofs.Ytcoimlenejffpaa
