/- slices.Equal of texts; value.same, slices.EqualFunc over it: are two values one. -/
import Derived.Test.YtfcbcbpnlnkpcaaComparep
namespace Go.Proofs.Ytfcbcbpnlnkpcaa
set_option linter.all false
open Go.RowKit
set_option maxRecDepth 100000 in
set_option maxHeartbeats 1600000 in
theorem eqS_any (A B : Option Addr) (n c m d : Nat) (l r : List (List UInt8)) (w : World) (h : Rd w w.heap.size 1 A n (l.map sv)) (h' : Rd w w.heap.size 1 B m (r.map sv)) (hn : n ≤ 8796093021952) (hm : m ≤ 8796093021952) :
    Calls Try.prog 47 #[.slice A n c, .slice B m d] w (Ret (.bool (eqL l r)) w) := by
  have hl : Hid (l.length = n) := by show _ = _; simpa using h.1
  have hr : Hid (r.length = m) := by show _ = _; simpa using h'.1
  have HV : Hid (eqL l r = (l == r)) := eqL_iff
  by_cases hnm : n = m
  · have q0 : ((n : Int) != (m : Int)) = false := by simp; omega
    have HNM := Lib.hid hnm
    have HE : Hid (eqL l r = eqL (l.drop 0) (r.drop 0)) := by show _ = _; simp
    clear hnm HV
    generalize eqL l r = V at *
    go_enter Try.func47, Try.ntmps47
    go_wp2_with fail
    go_loopw [13] (fun s13 wr => ∃ i : Nat, i ≤ n ∧ s13 = .int .i64 i ∧ Hid (V = eqL (l.drop i) (r.drop i)) ∧ Drew w wr) (fun s13 _ => n - (intOf s13).toNat)
    case atStart => exact ⟨0, Nat.zero_le _, rfl, HE.out, Drew.refl _⟩
    case round =>
      obtain ⟨i, hi, rfl, HI, hdr⟩ := hrel
      have bdr := hdr.below w.heap.size
      by_cases hlt : i < n
      · obtain ⟨g, off, a, hA, _, ha, hca⟩ := names_at (h.below bdr) hlt
        obtain ⟨g', off', b, hB, _, hb, hcb⟩ := names_at (h'.below bdr) (k := i) (by have := HNM.out; omega)
        have hd := HI.out.trans (eqL_drop ha hb)
        have hi0 : (0 : Int) ≤ (i : Int) := by omega
        have hi1 : (i : Int) < (n : Int) := by omega
        have hi2 : (i : Int) < (m : Int) := by have := HNM.out; omega
        subst hA
        subst hB
        rcases hab : (a == b) with _ | _
        · have HR : Hid (V = false) := by show _ = _; rw [hd, hab]; rfl
          have t1 : ((str a).toList == (str b).toList) = false := by rw [str_toList, str_toList]; exact hab
          clear hd hab HI ha hb
          go_wp2_with fail
          go_quiet (fail)
          go_wp2_with fail
          go_ret
          exact ⟨ret_bo (by rw [HR.out]), below_drewN bdr _⟩
        · have HR : Hid (V = eqL (l.drop (i + 1)) (r.drop (i + 1))) := by show _ = _; rw [hd, hab]; rfl
          have t1 : ((str a).toList == (str b).toList) = true := by rw [str_toList, str_toList]; exact hab
          clear hd hab HI ha hb
          go_wp2_with fail
          go_quiet (fail)
          go_wp2_with fail
          go_roundw
          case rel => exact ⟨i + 1, by omega, by go_num, HR.out, hdr.more _⟩
          case measure => simp [intOf]; omega
      · have HR : Hid (V = true) := by
          show _ = _
          rw [HI.out, List.drop_of_length_le (by rw [hl.out]; omega), List.drop_of_length_le (by rw [hr.out, ← HNM.out]; omega)]; rfl
        go_wp2_with fail
        go_ret
        exact ⟨ret_bo (by rw [HR.out]), bdr⟩
  · have q0 : ((n : Int) != (m : Int)) = true := by simp; omega
    have HR : Hid (eqL l r = false) := by
      show _ = _
      rw [HV.out, beq_eq_false_iff_ne]
      rintro rfl
      exact hnm (hl.out.symm.trans hr.out)
    clear hnm HV
    go_enter Try.func47, Try.ntmps47
    go_wp2_with fail
    go_ret
    exact ⟨ret_bo (by rw [HR.out]), Below.refl _ _⟩
def SmC (n : Nd) (k : F) : Prop := ∀ (m : Nd) (q : F) (v u : Value) (w : World), Vo w (· < w.heap.size) n k v → Vo w (· < w.heap.size) m q u →
  Calls Try.prog 31 #[v, u] w (Ret (.bool (eqV n k m q)) w)
theorem eqF_len {f g : F} (h : eqF f g = true) : f.len = g.len := by rw [eqF_iff.1 h]
set_option maxRecDepth 100000 in
set_option maxHeartbeats 1600000 in
theorem eqFn_any (k q : F) (IH : Hid (∀ i m j, k.get i = some (m, j) → SmC m j)) (A B : Option Addr) (c d : Nat) (w : World) (hk : Kids w (· < w.heap.size) A k) (hq : Kids w (· < w.heap.size) B q) (h1 : okl k.len c) (h2 : okl q.len d) :
    Calls Try.prog 48 #[.slice A k.len c, .slice B q.len d, .func (.func 31) #[] #[]] w (Ret (.bool (eqF k q)) w) := by
  obtain ⟨hk1, hk2, hk3⟩ := h1
  obtain ⟨hq1, hq2, hq3⟩ := h2
  by_cases hl : k.len = q.len
  · have HL := Lib.hid hl
    have q0 : ((k.len : Int) != (q.len : Int)) = false := by simp; omega
    have HE : Hid (eqF k q = eqF (k.drop 0) (q.drop 0)) := by show _ = _; rw [F.drop0, F.drop0]
    clear hl
    generalize eqF k q = V at *
    go_enter Try.func48, Try.ntmps48
    go_wp2_with fail
    go_loopw [17] (fun s17 wr => ∃ i : Nat, i ≤ k.len ∧ s17 = .int .i64 i ∧ Hid (V = eqF (k.drop i) (q.drop i)) ∧ Below w.heap.size w wr) (fun s17 _ => k.len - (intOf s17).toNat)
    case atStart => exact ⟨0, Nat.zero_le _, rfl, HE.out, Below.refl _ _⟩
    case round =>
      obtain ⟨i, hi, rfl, HI, hb⟩ := hrel
      by_cases hlt : i < k.len
      · obtain ⟨n', k', hg⟩ := F.get_lt k i hlt
        obtain ⟨m', q', hg'⟩ := F.get_lt q i (by have := HL.out; omega)
        obtain ⟨b, off, Cn, en, Ck, ek, rfl, _, ⟨z0, z1, z2, z3, z4, z5⟩, hvk⟩ := (hk.keep (w' := wr) (S' := (· < wr.heap.size)) (fun b hbb => hb.block b hbb) (fun b hbb => Nat.lt_of_lt_of_le hbb hb.size)).at_ hg hlt
        obtain ⟨b', off', Dn, fn, Dk, fk, rfl, _, ⟨t0, t1, t2, t3, t4, t5⟩, hvq⟩ := (hq.keep (w' := wr) (S' := (· < wr.heap.size)) (fun b hbb => hb.block b hbb) (fun b hbb => Nat.lt_of_lt_of_le hbb hb.size)).at_ hg' (by have := HL.out; omega)
        have hd := HI.out.trans (eqF_drop hg hg')
        have HD := Lib.hid hd
        have HJ : Hid (SmC n' k') := (unhide IH) i n' k' hg
        have HV1 := Lib.hid hvk
        have HV2 := Lib.hid hvq
        have hi2 : (i : Int) < (q.len : Int) := by have := HL.out; omega
        clear hd hvk hvq HI hg hg'
        go_wp2_with fail
        have EB := EqW.of_box wr n' Cn en Ck k'.len ek m' Dn fn Dk q'.len fk
        generalize hWb : (wr.alloc (.cells #[.int .i64 n'.kind, .int .i64 n'.int, .int .i64 n'.scale, .string (str n'.text), .slice Cn n'.names.length en, .slice Ck k'.len ek] 25)).alloc
          (.cells #[.int .i64 m'.kind, .int .i64 m'.int, .int .i64 m'.scale, .string (str m'.text), .slice Dn m'.names.length fn, .slice Dk q'.len fk] 25) = Wb at *
        have hb2 := hb.trans (EB.1.mono hb.size)
        have hsz := EB.1.size
        refine ((unhide HJ) m' q' _ _ _ (HV1.out.upto EB.1) (HV2.out.upto EB.1)).mono ?_
        rintro e w2 ⟨rfl, b2⟩
        have hb3 := hb2.trans (b2.mono hb2.size)
        clear EB b2 hb2 hWb
        rcases hr : eqV n' k' m' q' with _ | _
        · have HR2 : Hid (V = false) := by show _ = _; rw [HD.out, hr]; rfl
          clear HD hr HV1 HV2
          go_wp2_with fail
          go_ret
          exact ⟨ret_bo (by rw [HR2.out]), hb3⟩
        · have HR2 : Hid (V = eqF (k.drop (i + 1)) (q.drop (i + 1))) := by show _ = _; rw [HD.out, hr]; rfl
          clear HD hr HV1 HV2
          go_wp2_with fail
          go_roundw
          case rel => exact ⟨i + 1, by omega, by go_num, HR2.out, hb3⟩
          case measure => simp [intOf]; omega
      · have HR : Hid (V = true) := by
          show _ = _
          rw [HI.out, F.drop_len k i (by omega), F.drop_len q i (by have := HL.out; omega)]; rfl
        clear HI
        go_wp2_with fail
        go_ret
        exact ⟨ret_bo (by rw [HR.out]), hb⟩
  · have q0 : ((k.len : Int) != (q.len : Int)) = true := by simp; omega
    have HR : Hid (eqF k q = false) := by
      show _ = _
      rcases h : eqF k q with _ | _
      · rfl
      · exact absurd (eqF_len h) hl
    clear hl
    go_enter Try.func48, Try.ntmps48
    go_wp2_with fail
    go_ret
    exact ⟨ret_bo (by rw [HR.out]), Below.refl _ _⟩
theorem eqV_same (n : Nd) (k : F) (m : Nd) (q : F) : eqV n k m q = ((n.kind == m.kind) && (n.int == m.int) && (n.scale == m.scale) && ((str n.text).toList == (str m.text).toList) && eqL n.names m.names && eqF k q) := by
  unfold eqV eqN
  rw [eqL_iff, str_toList, str_toList]
set_option maxRecDepth 100000 in
set_option maxHeartbeats 3200000 in
theorem same_any (n : Nd) (k : F) : SmC n k := by
  refine F.node (C := SmC) ?_ n k
  clear n k
  intro n k ih m q v u w hv hu
  have IH : Hid (∀ i m j, k.get i = some (m, j) → SmC m j) := ih
  clear ih
  have hV := Lib.hid hv
  have hU := Lib.hid hu
  obtain ⟨An, cn, Ak, ck, rfl, _, h1, h2, hn, hk⟩ := hv
  obtain ⟨Bn, dn, Bk, dk, rfl, _, h1', h2', hn', hk'⟩ := hu
  have HV : Hid (eqV n k m q = ((n.kind == m.kind) && (n.int == m.int) && (n.scale == m.scale) && ((str n.text).toList == (str m.text).toList) && eqL n.names m.names && eqF k q)) := eqV_same n k m q
  have HEF : Hid (∀ w', Below w.heap.size w w' → Calls Try.prog 48 #[.slice Ak k.len ck, .slice Bk q.len dk, .func (.func 31) #[] #[]] w' (Ret (.bool (eqF k q)) w')) := fun w' b =>
    eqFn_any k q IH Ak Bk ck dk w' (hk.upto b) (hk'.upto b) h2 h2'
  have HES : Hid (∀ w', Below w.heap.size w w' → Calls Try.prog 47 #[.slice An n.names.length cn, .slice Bn m.names.length dn] w' (Ret (.bool (eqL n.names m.names)) w')) := fun w' b =>
    eqS_any An Bn _ cn _ dn _ _ w' ((Rd.below (RdS.rd hn) b).more b.size) ((Rd.below (RdS.rd hn') b).more b.size) h1.2.2 h1'.2.2
  generalize eqF k q = V1 at *
  generalize eqL n.names m.names = V2 at *
  generalize eqV n k m q = V at *
  have EW := EqW.of_box w n An cn Ak k.len ck m Bn dn Bk q.len dk
  generalize hW : (w.alloc (.cells #[.int .i64 n.kind, .int .i64 n.int, .int .i64 n.scale, .string (str n.text), .slice An n.names.length cn, .slice Ak k.len ck] 25)).alloc (.cells #[.int .i64 m.kind, .int .i64 m.int, .int .i64 m.scale, .string (str m.text), .slice Bn m.names.length dn, .slice Bk q.len dk] 25) = W at *
  have HE := Lib.hid EW
  have hws : w.heap.size + 1 < W.heap.size := EW.2.2.2
  have hws0 : w.heap.size < W.heap.size := Nat.lt_of_succ_lt hws
  obtain ⟨⟨x0, x1, x2, x3, x4, x5⟩, ⟨y0, y1, y2, y3, y4, y5⟩⟩ := EW.cells
  clear EW hn hn' hk hk' h1 h2 h1' h2' hV hU IH
  unfold ncells
  rcases d0 : (n.kind == m.kind) with _ | _
  · have HR : Hid (V = false) := by show _ = _; rw [HV.out, d0]; simp
    clear HV
    go_enter Try.func31, Try.ntmps31
    go_wp2_with fail
    go_ret
    exact ⟨ret_bo (by rw [HR.out]), HE.out.1⟩
  rcases d1 : (n.int == m.int) with _ | _
  · have HR : Hid (V = false) := by show _ = _; rw [HV.out, d0, d1]; simp
    clear HV
    go_enter Try.func31, Try.ntmps31
    go_wp2_with fail
    go_ret
    exact ⟨ret_bo (by rw [HR.out]), HE.out.1⟩
  rcases d2 : (n.scale == m.scale) with _ | _
  · have HR : Hid (V = false) := by show _ = _; rw [HV.out, d0, d1, d2]; simp
    clear HV
    go_enter Try.func31, Try.ntmps31
    go_wp2_with fail
    go_ret
    exact ⟨ret_bo (by rw [HR.out]), HE.out.1⟩
  rcases d3 : ((str n.text).toList == (str m.text).toList) with _ | _
  · have HR : Hid (V = false) := by show _ = _; rw [HV.out, d0, d1, d2, d3]; simp
    clear HV
    go_enter Try.func31, Try.ntmps31
    go_wp2_with fail
    go_ret
    exact ⟨ret_bo (by rw [HR.out]), HE.out.1⟩
  have HR : Hid (V = (V2 && V1)) := by show _ = _; rw [HV.out, d0, d1, d2, d3]; simp
  clear HV
  go_enter Try.func31, Try.ntmps31
  go_wp2_with fail
  refine (HES.out _ HE.out.1).mono ?_
  rintro e w2 ⟨rfl, b2⟩
  have E2 := HE.out.below b2
  have HE2 := Lib.hid E2
  clear x0 x1 x2 x3 x4 x5 y0 y1 y2 y3 y4 y5
  obtain ⟨⟨x0, x1, x2, x3, x4, x5⟩, ⟨y0, y1, y2, y3, y4, y5⟩⟩ := E2.cells
  clear E2 b2 d0 d1 d2 d3 hW
  rcases V2 with _ | _
  · go_wp2_with fail
    go_ret
    exact ⟨ret_bo (by rw [HR.out]; rfl), HE2.out.1⟩
  · go_wp2_with fail
    refine (HEF.out _ HE2.out.1).mono ?_
    rintro e w3 ⟨rfl, b3⟩
    have HE3 := HE2.out.below b3
    clear x0 x1 x2 x3 x4 x5 y0 y1 y2 y3 y4 y5
    go_wp2_with fail
    go_ret
    exact ⟨ret_bo (by rw [HR.out]; simp), HE3.1⟩
end Go.Proofs.Ytfcbcbpnlnkpcaa
