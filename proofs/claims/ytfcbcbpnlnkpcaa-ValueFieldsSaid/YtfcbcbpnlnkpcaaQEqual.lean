/- scrivenerref5.Equal: are two values one, field by field. -/
import Derived.Test.YtfcbcbpnlnkpcaaQBase
import Derived.Test.YtfcbcbpnlnkpcaaQCmpp
import Derived.LoopTactic
import Derived.StillTailTactics
import Derived.Deep.QuietTactic
import Derived.BigQuiet
import Derived.Deep.RegionHeld3
import Derived.Outline
namespace Go.Proofs.Ytfcbcbpnlnkpcaa
set_option linter.all false
open Go.RowKit
/-- What stands in both loops: two boxes; what was there is there. -/
def EqW (w : World) (n : Nd) (An : Option Addr) (cn : Nat) (Ak : Option Addr) (kl ck : Nat) (m : Nd) (Bn : Option Addr) (dn : Nat) (Bk : Option Addr) (ql dk : Nat) (wr : World) : Prop :=
  Below w.heap.size w wr ∧ Blk wr w.heap.size (ncells n An cn Ak kl ck).toArray 25 ∧ Blk wr (w.heap.size + 1) (ncells m Bn dn Bk ql dk).toArray 25 ∧ w.heap.size + 2 ≤ wr.heap.size
section
variable {w : World} {n : Nd} {An : Option Addr} {cn : Nat} {Ak : Option Addr} {kl ck : Nat} {m : Nd} {Bn : Option Addr} {dn : Nat} {Bk : Option Addr} {ql dk : Nat} {wr : World}
theorem EqW.drewN (h : EqW w n An cn Ak kl ck m Bn dn Bk ql dk wr) (i : Nat) : EqW w n An cn Ak kl ck m Bn dn Bk ql dk (wr.drewN i) := ⟨below_drewN h.1 _, h.2.1, h.2.2.1, h.2.2.2⟩
theorem EqW.drew (h : EqW w n An cn Ak kl ck m Bn dn Bk ql dk wr) : EqW w n An cn Ak kl ck m Bn dn Bk ql dk wr.drew := ⟨⟨h.1.os, h.1.tape, h.1.output, h.1.size, h.1.block⟩, h.2.1, h.2.2.1, h.2.2.2⟩
theorem EqW.below {w' : World} (h : EqW w n An cn Ak kl ck m Bn dn Bk ql dk wr) (hb : Below wr.heap.size wr w') : EqW w n An cn Ak kl ck m Bn dn Bk ql dk w' :=
  ⟨h.1.trans (hb.mono (by have := h.2.2.2; omega)), h.2.1.below hb (by have := h.2.2.2; omega), h.2.2.1.below hb (by have := h.2.2.2; omega), by have := h.2.2.2; have := hb.size; omega⟩
end
def EqC (n : Nd) (k : F) : Prop := ∀ (m : Nd) (q : F) (v u : Value) (w : World), Vo w (· < w.heap.size) n k v → Vo w (· < w.heap.size) m q u →
  Calls Try.prog 13 #[v, u] w (Ret (.bool (eqV n k m q)) w)
/-- Names, from the i-th on. -/
theorem eqL_iff : ∀ {x y : List (List UInt8)}, eqL x y = (x == y)
  | [], [] => rfl
  | [], _ :: _ => rfl
  | _ :: _, [] => rfl
  | a :: x, b :: y => by rw [eqL, eqL_iff, List.cons_beq_cons]
theorem eqL_drop {x y : List (List UInt8)} {i : Nat} {a b : List UInt8} (h : x[i]? = some a) (h' : y[i]? = some b) : eqL (x.drop i) (y.drop i) = (a == b && eqL (x.drop (i + 1)) (y.drop (i + 1))) := by
  obtain ⟨h1, e1⟩ := List.getElem?_eq_some_iff.1 h
  obtain ⟨h2, e2⟩ := List.getElem?_eq_some_iff.1 h'
  rw [List.drop_eq_getElem_cons h1, List.drop_eq_getElem_cons h2, e1, e2]
  rfl
theorem eqV_parts (n : Nd) (k : F) (m : Nd) (q : F) : eqV n k m q = (n.kind == m.kind && n.int == m.int && n.scale == m.scale && n.text == m.text && (n.names.length == m.names.length) && (k.len == q.len) && eqL n.names m.names && eqF k q) := by
  have hl : ∀ {f g : F}, eqF f g = true → f.len = g.len := fun h => by rw [eqF_iff.1 h]
  unfold eqV eqN
  rw [eqL_iff, Bool.eq_iff_iff]
  simp only [Bool.and_eq_true, beq_iff_eq]
  constructor
  · rintro ⟨⟨⟨⟨⟨a, b⟩, c⟩, d⟩, e⟩, f⟩
    exact ⟨⟨⟨⟨⟨⟨⟨a, b⟩, c⟩, d⟩, by rw [e]⟩, hl f⟩, e⟩, f⟩
  · rintro ⟨⟨⟨⟨⟨⟨⟨a, b⟩, c⟩, d⟩, _⟩, _⟩, e⟩, f⟩
    exact ⟨⟨⟨⟨⟨a, b⟩, c⟩, d⟩, e⟩, f⟩
/-- The same, in the walk's own words. -/
def difN (n m : Nd) (kl ql : Nat) : Bool := n.kind != m.kind || n.int != m.int || n.scale != m.scale || n.text != m.text || (n.names.length : Int) != (m.names.length : Int) || (kl : Int) != (ql : Int)
theorem eqV_dif (n : Nd) (k : F) (m : Nd) (q : F) : eqV n k m q = (!difN n m k.len q.len && eqL n.names m.names && eqF k q) := by
  rw [eqV_parts]
  have h1 : ∀ a b : Nat, ((a : Int) != b) = !(a == b) := fun a b => by rw [Bool.eq_iff_iff]; simp; omega
  unfold difN
  rw [h1, h1]
  simp only [Bool.not_or, bne, Bool.not_not]
set_option maxRecDepth 100000 in
set_option maxHeartbeats 3200000 in
theorem eq_any (n : Nd) (k : F) : EqC n k := by
  refine F.node (C := EqC) ?_ n k
  clear n k
  intro n k ih m q v u w hv hu
  obtain ⟨An, cn, Ak, ck, rfl, hok, h1, h2, hn, hk⟩ := hv
  obtain ⟨Bn, dn, Bk, dk, rfl, hok', h1', h2', hn', hk'⟩ := hu
  have hbx := boxw_eq w n An cn Ak k.len ck
  have hb0 := boxw_below w n An cn Ak k.len ck
  have hz0 := boxw_size w n An cn Ak k.len ck
  have hbk := boxw_blk w n An cn Ak k.len ck
  generalize boxw w n An cn Ak k.len ck = Wb at *
  have hbx' := boxw_eq Wb m Bn dn Bk q.len dk
  have hb0' := boxw_below Wb m Bn dn Bk q.len dk
  have hz0' := boxw_size Wb m Bn dn Bk q.len dk
  have hbk' := boxw_blk Wb m Bn dn Bk q.len dk
  generalize boxw Wb m Bn dn Bk q.len dk = Wc at *
  have hbc := bseq hb0 hb0'
  have k1 := hbk.below hb0' (by omega)
  have HZ := Lib.hid (And.intro hz0 hz0')
  rw [hz0] at hbk'
  have HB1 := Lib.hid k1
  have HB2 := Lib.hid hbk'
  have IH : Hid (∀ i m j, k.get i = some (m, j) → EqC m j) := ih
  have HV : Hid (eqV n k m q = (!difN n m k.len q.len && eqL n.names m.names && eqF k q)) := eqV_dif n k m q
  generalize eqV n k m q = V at *
  obtain ⟨hk1, hk2, hk3⟩ := h2
  obtain ⟨hn1, hn2, hn3⟩ := h1
  obtain ⟨hk1', hk2', hk3'⟩ := h2'
  obtain ⟨hn1', hn2', hn3'⟩ := h1'
  have hnl := hok.2.2.2.2
  clear ih hz0 hz0' hok hok'
  obtain ⟨x0, x1, x2, x3, x4, x5⟩ := k1.six
  obtain ⟨y0, y1, y2, y3, y4, y5⟩ := hbk'.six
  clear k1 hbk hbk'
  have hz : Wb.heap.size = w.heap.size + 1 := HZ.out.1
  have e1 : Hid (difN n m k.len q.len = (n.kind != m.kind || n.int != m.int || n.scale != m.scale || (str n.text).toList != (str m.text).toList || (n.names.length : Int) != (m.names.length : Int) || (k.len : Int) != (q.len : Int))) := by show _ = _; rw [str_toList, str_toList]; rfl
  unfold ncells
  rcases d0 : (n.kind != m.kind) with _ | _
  rotate_left
  · have HR : Hid (V = false) := by show _ = _; rw [HV.out, e1.out, d0]; simp
    clear HV e1
    go_enter Try.func13, Try.ntmps13
    go_wp2_with fail
    go_ret
    exact ⟨ret_bo (by rw [HR.out]), hbc⟩
  rcases d1 : (n.int != m.int) with _ | _
  rotate_left
  · have HR : Hid (V = false) := by show _ = _; rw [HV.out, e1.out, d0, d1]; simp
    clear HV e1
    go_enter Try.func13, Try.ntmps13
    go_wp2_with fail
    go_ret
    exact ⟨ret_bo (by rw [HR.out]), hbc⟩
  rcases d2 : (n.scale != m.scale) with _ | _
  rotate_left
  · have HR : Hid (V = false) := by show _ = _; rw [HV.out, e1.out, d0, d1, d2]; simp
    clear HV e1
    go_enter Try.func13, Try.ntmps13
    go_wp2_with fail
    go_ret
    exact ⟨ret_bo (by rw [HR.out]), hbc⟩
  rcases d3 : ((str n.text).toList != (str m.text).toList) with _ | _
  rotate_left
  · have HR : Hid (V = false) := by show _ = _; rw [HV.out, e1.out, d0, d1, d2, d3]; simp
    have d3' : ((str n.text).toList == (str m.text).toList) = false := by simpa using d3
    clear HV e1
    go_enter Try.func13, Try.ntmps13
    go_wp2_with fail
    go_ret
    exact ⟨ret_bo (by rw [HR.out]), hbc⟩
  have d3' : ((str n.text).toList == (str m.text).toList) = true := by simpa using d3
  rcases d4 : ((n.names.length : Int) != (m.names.length : Int)) with _ | _
  rotate_left
  · have HR : Hid (V = false) := by show _ = _; rw [HV.out, e1.out, d0, d1, d2, d3, d4]; simp
    clear HV e1
    go_enter Try.func13, Try.ntmps13
    go_wp2_with fail
    go_ret
    exact ⟨ret_bo (by rw [HR.out]), hbc⟩
  rcases d5 : ((k.len : Int) != (q.len : Int)) with _ | _
  rotate_left
  · have HR : Hid (V = false) := by show _ = _; rw [HV.out, e1.out, d0, d1, d2, d3, d4, d5]; simp
    clear HV e1
    go_enter Try.func13, Try.ntmps13
    go_wp2_with fail
    go_ret
    exact ⟨ret_bo (by rw [HR.out]), hbc⟩
  have HW : Hid (V = (eqL n.names m.names && eqF k q)) := by show _ = _; rw [HV.out, e1.out, d0, d1, d2, d3, d4, d5]; simp
  have L4 : Hid (m.names.length = n.names.length) := by show _ = _; simp at d4; omega
  have L5 : Hid (q.len = k.len) := by show _ = _; simp at d5; omega
  clear HV e1
  go_enter Try.func13, Try.ntmps13
  go_wp2_with fail
  clear x0 x1 x2 x3 x4 x5 y0 y1 y2 y3 y4 y5
  have ALL : EqW w n An cn Ak k.len ck m Bn dn Bk q.len dk Wc := ⟨hbc, HB1.out, HB2.out, by have := HZ.out; omega⟩
  clear HB1 HB2 HZ hb0 hb0' hbc hz
  subst hbx'
  subst hbx
  clear d0 d1 d2 d3 d3' d4 d5
  have HE0 : Hid (eqL n.names m.names = eqL (n.names.drop 0) (m.names.drop 0)) := by show _ = _; simp
  rw [L4.out] at hn1' hn3'
  rw [L5.out] at hk1' hk3'
  go_loopw [5] (fun s5 wr => ∃ i : Nat, i ≤ n.names.length ∧ s5 = .int .i64 i ∧ Hid (eqL n.names m.names = eqL (n.names.drop i) (m.names.drop i)) ∧ EqW w n An cn Ak k.len ck m Bn dn Bk q.len dk wr) (fun s5 _ => n.names.length - (intOf s5).toNat)
  case atStart => exact ⟨0, Nat.zero_le _, rfl, HE0.out, ALL⟩
  case round =>
    obtain ⟨i, hi, rfl, HI, hdr⟩ := hrel
    have HEW := Lib.hid hdr
    obtain ⟨bdr, B1, B2, hsz⟩ := hdr
    have x4 : wr.cell? ⟨w.heap.size, 4, none⟩ = some (.slice An n.names.length cn) := B1.cell 4
    have y4 : wr.cell? ⟨w.heap.size + 1, 4, none⟩ = some (.slice Bn n.names.length dn) := by rw [← L4.out]; exact B2.cell 4
    clear B1 B2
    by_cases hlt : i < n.names.length
    · obtain ⟨g, off, a, hA, _, ha, hca⟩ := names_at (RdS.rd (hn.keep (w' := wr) (fun b hbb => bdr.block b hbb) (fun _ h => h))) hlt
      obtain ⟨g', off', b, hB, _, hb, hcb⟩ := names_at (RdS.rd (hn'.keep (w' := wr) (fun b hbb => bdr.block b hbb) (fun _ h => h))) (k := i) (by rw [L4.out]; exact hlt)
      have hd := HI.out.trans (eqL_drop ha hb)
      have hi0 : (0 : Int) ≤ (i : Int) := by omega
      have hi1 : (i : Int) < (n.names.length : Int) := by omega
      subst hA
      subst hB
      rcases hab : (a == b) with _ | _
      · have HR : Hid (eqL n.names m.names = false) := by show _ = _; rw [hd, hab]; rfl
        have t1 : ((str a).toList == (str b).toList) = false := by rw [str_toList, str_toList]; exact hab
        clear hd hab HI ha hb
        go_wp2_with fail
        go_quiet (fail)
        go_wp2_with fail
        go_ret
        exact ⟨ret_bo (by rw [HW.out, HR.out]; rfl), below_drewN bdr _⟩
      · have HR : Hid (eqL n.names m.names = eqL (n.names.drop (i + 1)) (m.names.drop (i + 1))) := by show _ = _; rw [hd, hab]; rfl
        have t1 : ((str a).toList == (str b).toList) = true := by rw [str_toList, str_toList]; exact hab
        clear hd hab HI ha hb
        go_wp2_with fail
        go_quiet (fail)
        go_wp2_with fail
        go_roundw
        case rel => exact ⟨i + 1, by omega, by go_num, HR.out, HEW.out.drewN _⟩
        case measure => simp [intOf]; omega
    · have HR : Hid (V = eqF k q) := by
        show _ = _
        rw [HW.out, HI.out, List.drop_of_length_le (by omega), List.drop_of_length_le (by rw [L4.out]; omega)]; rfl
      clear HI HW
      go_wp2_with fail
      obtain ⟨wo, rfl⟩ : ∃ wo : World, wo = wr := ⟨_, rfl⟩
      go_loopw [6] (fun s6 wr => ∃ i : Nat, i ≤ k.len ∧ s6 = .int .i64 i ∧ Hid (V = eqF (k.drop i) (q.drop i)) ∧ EqW w n An cn Ak k.len ck m Bn dn Bk q.len dk wr) (fun s6 _ => k.len - (intOf s6).toNat)
      case atStart => exact ⟨0, Nat.zero_le _, rfl, by rw [F.drop0, F.drop0]; exact HR.out, HEW.out⟩
      case round =>
        obtain ⟨i, hi, rfl, HI, hdr⟩ := hrel
        have HEW' := Lib.hid hdr
        obtain ⟨bds, B1, B2, hsz'⟩ := hdr
        have x5 : wr.cell? ⟨w.heap.size, 5, none⟩ = some (.slice Ak k.len ck) := B1.cell 5
        have y5 : wr.cell? ⟨w.heap.size + 1, 5, none⟩ = some (.slice Bk k.len dk) := by rw [← L5.out]; exact B2.cell 5
        clear x4 y4 B1 B2
        by_cases hlt' : i < k.len
        · obtain ⟨n', k', hg⟩ := F.get_lt k i hlt'
          obtain ⟨m', q', hg'⟩ := F.get_lt q i (by rw [L5.out]; exact hlt')
          obtain ⟨b, off, Cn, en, Ck, ek, rfl, _, ⟨z0, z1, z2, z3, z4, z5⟩, hvk⟩ := (hk.keep (w' := wr) (S' := (· < wr.heap.size)) (fun b hbb => bds.block b hbb) (fun b hbb => Nat.lt_of_lt_of_le hbb bds.size)).at_ hg hlt'
          obtain ⟨b', off', Dn, fn, Dk, fk, rfl, _, ⟨t0, t1, t2, t3, t4, t5⟩, hvq⟩ := (hk'.keep (w' := wr) (S' := (· < wr.heap.size)) (fun b hbb => bds.block b hbb) (fun b hbb => Nat.lt_of_lt_of_le hbb bds.size)).at_ hg' (by rw [L5.out]; exact hlt')
          have hd := HI.out.trans (eqF_drop hg hg')
          have HD := Lib.hid hd
          have HJ : Hid (EqC n' k') := (unhide IH) i n' k' hg
          have HV1 := Lib.hid hvk
          have HV2 := Lib.hid hvq
          have hi0 : (0 : Int) ≤ (i : Int) := by omega
          have hi1 : (i : Int) < (k.len : Int) := by omega
          clear hd hvk hvq HI hg hg'
          go_wp2_with fail
          go_still_tail 10, (by kernel_rfl)
          go_wp2_with fail
          refine ((unhide HJ) m' q' _ _ wr.drew (HV1.out.keep (w' := wr.drew) (fun _ _ => rfl) (fun _ h => h)) (HV2.out.keep (w' := wr.drew) (fun _ _ => rfl) (fun _ h => h))).mono ?_
          rintro e w2 ⟨rfl, b2⟩
          have HEW2 := HEW'.out.drew.below b2
          rcases hr : eqV n' k' m' q' with _ | _
          · have HR2 : Hid (V = false) := by show _ = _; rw [HD.out, hr]; rfl
            clear HD hr HV1 HV2
            go_wp2_with fail
            go_ret
            exact ⟨ret_bo (by rw [HR2.out]), HEW2.1⟩
          · have HR2 : Hid (V = eqF (k.drop (i + 1)) (q.drop (i + 1))) := by show _ = _; rw [HD.out, hr]; rfl
            clear HD hr HV1 HV2
            go_wp2_with fail
            go_roundw
            case rel => exact ⟨i + 1, by omega, by go_num, HR2.out, HEW2⟩
            case measure => simp [intOf]; omega
        · have HR2 : Hid (V = true) := by
            show _ = _
            rw [HI.out, F.drop_len k i (by omega), F.drop_len q i (by rw [L5.out]; omega)]; rfl
          clear HI HR
          go_wp2_with fail
          go_ret
          exact ⟨ret_bo (by rw [HR2.out]), bds⟩
end Go.Proofs.Ytfcbcbpnlnkpcaa
