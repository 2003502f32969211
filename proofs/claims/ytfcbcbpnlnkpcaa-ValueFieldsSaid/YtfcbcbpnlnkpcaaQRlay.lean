/- scrivenerref5.Lay: a struct with a field, new rows. (Printed by gen/vlay.py.) -/
import Derived.Test.YtfcbcbpnlnkpcaaQWithS
import Derived.LoopTactic
import Derived.Outline
namespace Go.Proofs.Ytfcbcbpnlnkpcaa
set_option linter.all false
open Go.RowKit
section
variable {ops : Array Oper} {rest : List Oper} {o : Oper} {a : Act} {Q : Exit → Act → World → Prop} {w : World}
theorem wpSg_append (hgd : o.guard = none) (s x : Operand)
    (ho : o.op = .call { callee := .builtin .append, args := #[s, x], argTypes := #[22, 22] })
    (base : Nat) (v : Value) (n : Nat) (l : List (List UInt8)) (hs : a.eval s = v) (hown : w.ownsRow base 9 1 v n (l.map sv))
    (B : Nat) (A : Option Addr) (m c : Nat) (l' : List (List UInt8)) (hx : a.eval x = .slice A m c) (hr : Rd w B 1 A m (l'.map sv))
    (N : Nat) (L : List (List UInt8)) (hN : N = n + m) (hL : L = l ++ l') (hsm : N ≤ 8796093022207) (hbase : base ≤ w.heap.size)
    (h : ∀ A' c' w', w'.ownsRow base 9 1 (.slice A' N c') N (L.map sv) → Below base w w' → w.grownBy w' v.ownBlock → wpList Try.prog ops Q rest (a.put o.dst (.slice A' N c')) w') : wpList Try.prog ops Q (o :: rest) a w := by
  subst hN
  subst hL
  obtain ⟨i0, hi, hz0, hz1, hz2⟩ := info_parts infoStr
  refine wpList_append_rg w hgd s x _ ho base 9 i0 _ 1 16 Try.underlying22 hi hz0 hz1 hz2 rfl (by omega) v n _ hs hown B A m c _ hx hr (sv_one _) (by simp only [maxLen]; omega) (by omega) hbase ?_
  rw [List.map_append] at h
  intro A' c' w' h1 h2 h3
  exact h A' c' w' h1 h2 h3
end
/-- Behind scrivenerref5.Lay. -/
def RetLay (S : Nat → Prop) (n : Nd) (k : F) (w : World) (e : Ending) (w' : World) : Prop := ∃ v, e = .returned v ∧ Vo w' (fun b => b < w'.heap.size ∧ (S b ∨ w.heap.size ≤ b)) n k v ∧ Below w.heap.size w w'

theorem lay_fin {w W : World} {S : Nat → Prop} (hS : ∀ b, S b → b < w.heap.size) {n : Nd} {k : F} {m : Nd} {q : F} {x : List UInt8} {xs : List Value} {j d : Nat} {Bn : Option Addr} {dn : Nat} {Bk : Option Addr} {dk : Nat} {A1 A2 : Option Addr} {N c1 M c2 : Nat} (hB : Below w.heap.size w W) (hok : n.ok) (hx : x.length ≤ 500) (hd : j + d ≤ n.names.length) (hd1 : d ≤ 1) (hnl : n.names.length = k.len) (hkl : k.len ≤ 200)
    (hk : Kc w S k xs) (hu : Vo w S m q (.agg (ncells m Bn dn Bk q.len dk).toArray)) (hN : N = j + 1 + (n.names.length - (j + d))) (hM : M = j + 1 + (k.len - (j + d)))
    (hn : W.ownsRow (w.heap.size + 3) 9 1 (.slice A1 N c1) N (((n.names.take j ++ [x]) ++ n.names.drop (j + d)).map sv)) (hkr : W.ownsRow (w.heap.size + 3) 25 6 (.slice A2 M c2) M ((xs.take (j * 6) ++ ncells m Bn dn Bk q.len dk) ++ xs.drop ((j + d) * 6))) :
    Vo W (fun b => b < W.heap.size ∧ (S b ∨ w.heap.size ≤ b)) ⟨n.kind, n.int, n.scale, n.text, layL n.names j d x⟩ (layF k j d m q) (.agg #[.int .i64 n.kind, .int .i64 n.int, .int .i64 n.scale, .string (str n.text), .slice A1 N c1, .slice A2 M c2]) := by
  have h1 : (layL n.names j d x).length = N := by rw [layL_len hd]; omega
  have h2 : (layF k j d m q).len = M := by rw [layF_len (by omega)]; omega
  have o1 := own_cap hn
  have o2 := own_cap hkr
  have hk' := Kc.keep (w' := W) (S' := fun b => b < W.heap.size ∧ (S b ∨ w.heap.size ≤ b)) (fun b hb => hB.block b (hS b hb)) (fun b hb => ⟨Nat.lt_of_lt_of_le (hS b hb) hB.size, .inl hb⟩) _ _ hk
  have hu' := hu.keep (w' := W) (S' := fun b => b < W.heap.size ∧ (S b ∨ w.heap.size ≤ b)) (fun b hb => hB.block b (hS b hb)) (fun b hb => ⟨Nat.lt_of_lt_of_le (hS b hb) hB.size, .inl hb⟩)
  refine ⟨A1, c1, A2, c2, ?_, nd_ok_lay hok (by omega), ?_, ?_, ?_, lay6 xs j d (ncells m Bn dn Bk q.len dk), ?_, Kc.lay j d hk' (kc_one hu')⟩
  · show _ = Value.agg #[_, _, _, _, .slice A1 (layL n.names j d x).length c1, .slice A2 (layF k j d m q).len c2]
    rw [h1, h2]
  · show okl (layL n.names j d x).length c1
    rw [h1]; exact ⟨o1.1, o1.2, by omega⟩
  · rw [h2]; exact ⟨o2.1, o2.2, by omega⟩
  · show RdS W _ 1 A1 (layL n.names j d x).length ((layL n.names j d x).map sv)
    rw [h1]; exact (rdS_of_own hn).keep (fun _ _ => rfl) (fun b hb => ⟨hb.2, .inr (by have := hb.1; omega)⟩)
  · rw [h2]; exact (rdS_of_own hkr).keep (fun _ _ => rfl) (fun b hb => ⟨hb.2, .inr (by have := hb.1; omega)⟩)

set_option maxRecDepth 100000 in
set_option maxHeartbeats 6400000 in
theorem rlay_in (n : Nd) (k : F) (m : Nd) (q : F) (v u : Value) (x : List UInt8) (w : World) (hx : x.length ≤ 500) (S : Nat → Prop) (hS : ∀ b, S b → b < w.heap.size) (hv0 : Vo w S n k v) (hu0 : Vo w S m q u) (hnl : n.names.length = k.len) (hkl : k.len ≤ 200) (hh : hitB x n.names = 0) (hin : cntB x n.names < n.names.length) :
    Calls Try.prog 37 #[v, .string (str x), u] w (RetLay S (layN n x) (layK n k x m q) w) := by
  have hv := hv0.keep (w' := w) (S' := (· < w.heap.size)) (fun _ _ => rfl) hS
  have hu := hu0.keep (w' := w) (S' := (· < w.heap.size)) (fun _ _ => rfl) hS
  obtain ⟨An, cn, Ak, ck, rfl, hok0, l0, l1, hn1, xs, hr1, hk1⟩ := hv0
  have hn0 := hn1.keep (w' := w) (S' := (· < w.heap.size)) (fun _ _ => rfl) hS
  have hr0 := hr1.keep (w' := w) (S' := (· < w.heap.size)) (fun _ _ => rfl) hS
  obtain ⟨Bn, dn, Bk, dk, rfl, hok1, l2, l3, _, _⟩ := id hu
  have HSS := Lib.hid hS
  have HN0 := Lib.hid hn0
  have HR0 := Lib.hid hr0
  have HK0 := Lib.hid hk1
  have HU := Lib.hid hu0
  have hxl := Kc.len _ _ hk1
  have HXL := Lib.hid hxl
  have ST0 := St.box_new (St.box_new (St.nil w) hv) hu
  clear hv hu hu0 hok1 l2 l3 hn0 hr0 hn1 hr1 hk1 hxl hS
  unfold ncells at *
  generalize hW1 : (w.alloc (.cells #[.int .i64 n.kind, .int .i64 n.int, .int .i64 n.scale, .string (str n.text), .slice An n.names.length cn, .slice Ak k.len ck] 25)).alloc (.cells #[.int .i64 m.kind, .int .i64 m.int, .int .i64 m.scale, .string (str m.text), .slice Bn m.names.length dn, .slice Bk q.len dk] 25) = W1
  have ST : St w [⟨w.heap.size, n, k, An, cn, Ak, ck⟩, ⟨w.heap.size + 1, m, q, Bn, dn, Bk, dk⟩] W1 := by rw [← hW1]; have := ST0; simpa using this
  clear ST0
  have hs1 : W1.heap.size = w.heap.size + 2 := by rw [← hW1]; simp
  generalize hW2 : W1.alloc (.cells #[.int .i64 0, .int .i64 0, .int .i64 0, .string ⟨#[]⟩, .slice none 0 0, .slice none 0 0] 25) = W2
  have b12 : Below W1.heap.size W1 W2 := by rw [← hW2]; exact (Below.refl _ _).alloc (Nat.le_refl _) _
  have B_W2 : Hid (Below w.heap.size w W2) := (ST.step b12).1
  have V_W2 : Hid (Blk W2 w.heap.size #[.int .i64 n.kind, .int .i64 n.int, .int .i64 n.scale, .string (str n.text), .slice An n.names.length cn, .slice Ak k.len ck] 25) := ((ST.step b12).box 0 rfl).1
  have X_W2 : Hid (Blk W2 (w.heap.size + 1) #[.int .i64 m.kind, .int .i64 m.int, .int .i64 m.scale, .string (str m.text), .slice Bn m.names.length dn, .slice Bk q.len dk] 25) := ((ST.step b12).box 1 rfl).1
  have R_W2 : Hid (Blk W2 (w.heap.size + 2) #[.int .i64 0, .int .i64 0, .int .i64 0, .string ⟨#[]⟩, .slice none 0 0, .slice none 0 0] 25) := by show Blk _ _ _ _; rw [← hs1, ← hW2]; exact Blk.new _ _ _
  have z_W2 : w.heap.size + 3 ≤ W2.heap.size := by have := R_W2.out.lt; omega
  clear b12 ST
  have HL := Lib.hid (hitB_le x n.names)
  have HE1 : Hid (layN n x = ⟨n.kind, n.int, n.scale, n.text, layL n.names (cntB x n.names) 0 x⟩) := by show _ = _; unfold layN; rw [hh]
  have HE2 : Hid (layK n k x m q = layF k (cntB x n.names) 0 m q) := by show _ = _; unfold layK; rw [hh]
  rw [hh] at HL
  have HLT := Lib.hid (cntB_lt x n.names)
  have HAT := Lib.hid (cntB_at x n.names)
  have HHIT : Hid (hitB x n.names = 0) := hh
  unfold hitB at HHIT
  obtain ⟨i, hi⟩ : ∃ i, cntB x n.names = i := ⟨_, rfl⟩
  rw [hi] at HE1 HE2 HL HLT HAT HHIT hin
  have HOK := Lib.hid (And.intro hok0 (And.intro l0 l1))
  have hl1 : n.names.length ≤ 200 := by omega
  have hil : i + 0 ≤ n.names.length := HL.out.1
  have hcn : n.names.length ≤ cn := l0.1
  have hcn2 : cn ≤ 9223372036854775807 := l0.2.1
  have hck : k.len ≤ ck := l1.1
  have hck2 : ck ≤ 9223372036854775807 := l1.2.1
  have hik : i + 0 ≤ k.len := by omega
  have ND : Hid (∀ (W : World) (j : Nat), j ≤ n.names.length → Below w.heap.size w W → Rd W w.heap.size 1 An j ((n.names.take j).map sv)) := fun W j hj hB => by
    have := Rd.take (RdS.rd (HN0.out.keep (fun b hb => hB.block b hb) (fun _ h => h))) hj
    rw [Nat.mul_one, ← List.map_take] at this
    exact this
  have NC : Hid (∀ (W : World) (j : Nat), j ≤ n.names.length → Below w.heap.size w W → Rd W w.heap.size 1 (if cn = j then An else An.map (·.add j)) (n.names.length - j) ((n.names.drop j).map sv)) := fun W j hj hB => by
    have := Rd.cut (cap := cn) (RdS.rd (HN0.out.keep (fun b hb => hB.block b hb) (fun _ h => h))) hj hcn
    rw [Nat.mul_one, ← List.map_drop] at this
    exact this
  have KD : Hid (∀ (W : World) (j : Nat), j ≤ k.len → Below w.heap.size w W → Rd W w.heap.size 6 Ak j (xs.take (j * 6))) := fun W j hj hB => Rd.take (RdS.rd (HR0.out.keep (fun b hb => hB.block b hb) (fun _ h => h))) hj
  have KC : Hid (∀ (W : World) (j : Nat), j ≤ k.len → Below w.heap.size w W → Rd W w.heap.size 6 (if ck = j then Ak else Ak.map (·.add (j * 6))) (k.len - j) (xs.drop (j * 6))) := fun W j hj hB => Rd.cut (cap := ck) (RdS.rd (HR0.out.keep (fun b hb => hB.block b hb) (fun _ h => h))) hj hck
  have HONE : Hid (∀ u ∈ xs, u.oneCell' = true) := Kc.one _ _ HK0.out
  have HI := Lib.hid hi
  have HNL := Lib.hid hnl
  clear hh hi HL HN0 HR0 l0 l1 hok0 hnl
  have x4 : W2.cell? ⟨w.heap.size, 4, none⟩ = some (.slice An n.names.length cn) := V_W2.out.cell 4
  go_enter Try.func37, Try.ntmps37
  go_wp2_with fail
  clear hW1 hW2
  go_loopw [7] (fun s7 wr => ∃ j : Nat, s7 = .int .i64 j ∧ j ≤ i ∧ wr = W2) (fun s7 _ => i - (intOf s7).toNat)
  case atStart => exact ⟨0, rfl, Nat.zero_le _, rfl⟩
  case round =>
    obtain ⟨j, rfl, hj, rfl⟩ := hrel
    by_cases hlt : j < i
    · obtain ⟨a, ha, hax⟩ := HLT.out j hlt
      obtain ⟨g, off, u, rfl, hg, hu, hc⟩ := Rd.at_ (ND.out wr n.names.length (Nat.le_refl _) B_W2.out) (k := j) (by omega)
      have hua : u = .string (str a) := by
        rw [List.take_length, List.getElem?_map, ha] at hu
        exact (Option.some.inj hu).symm
      subst hua
      have hb1 : Op.bytesLess (str a).toList (str x).toList = true := by rw [str_toList, str_toList]; exact hax
      have hjn : (j : Int) < (n.names.length : Int) := by omega
      clear ha hax hu
      go_wp2_with fail
      go_roundw
      case rel => exact ⟨j + 1, by go_num, by omega, by first | rfl | trivial⟩
      case measure => simp [intOf]; omega
    · obtain rfl : j = i := by omega
      clear hlt hj HLT
      obtain ⟨a, ha⟩ : ∃ a, n.names[j]? = some a := ⟨_, List.getElem?_eq_getElem (by omega)⟩
      obtain ⟨g, off, u, rfl, hg, hu, hc⟩ := Rd.at_ (ND.out wr n.names.length (Nat.le_refl _) B_W2.out) (k := j) (by omega)
      have hua : u = .string (str a) := by
        rw [List.take_length, List.getElem?_map, ha] at hu
        exact (Option.some.inj hu).symm
      subst hua
      have hb1 : Op.bytesLess (str a).toList (str x).toList = false := by rw [str_toList, str_toList]; exact HAT.out a ha
      have hjn : (j : Int) < (n.names.length : Int) := by omega
      have hcc := Lib.hid (And.intro hg hc)
      have HA := Lib.hid ha
      clear hu ha
      go_upto_region 4 with fail
      clear hb1 hc
      obtain ⟨wa, h_wa⟩ : ∃ v, wr.alloc (.cells #[] 9) = v := ⟨_, rfl⟩
      have b_wa : Below wr.heap.size wr wa := by rw [← h_wa]; exact (Below.refl _ _).alloc (Nat.le_refl _) _
      have T_wa : Hid (Blk wa wr.heap.size #[] 9) := by show Blk _ _ _ _; rw [← h_wa]; exact Blk.new _ _ _
      have B_wa : Hid (Below w.heap.size w wa) := B_W2.out.trans (b_wa.mono (by omega))
      have z_wa : w.heap.size + 3 ≤ wa.heap.size := Nat.le_trans z_W2 b_wa.size
      have V_wa := Lib.hid (V_W2.out.below b_wa (by omega))
      have X_wa := Lib.hid (X_W2.out.below b_wa (by omega))
      have R_wa := Lib.hid (R_W2.out.below b_wa (by omega))
      have no0 : wa.ownsRow (w.heap.size + 3) 9 1 (.slice (some ⟨wr.heap.size, 0, none⟩) 0 0) 0 (([] : List (List UInt8)).map sv) := by rw [← h_wa]; exact own_more (own_empty _ _ _) z_W2
      have y4 : wa.cell? ⟨w.heap.size, 4, none⟩ = some (.slice (some ⟨g, off, none⟩) n.names.length cn) := V_wa.out.cell 4
      have D1 := ND.out wa j (by omega) B_wa.out
      go_upto_region 5 with (at_builtin
                             refine wpSg_append rfl (.tmp 26) (.tmp 30) rfl (w.heap.size + 3) _ 0 [] rfl no0 w.heap.size (some ⟨g, off, none⟩) j cn (n.names.take j) rfl D1 j (n.names.take j) (Nat.zero_add _).symm rfl (by omega) z_wa ?_
                             intro A3 c3 wb o3h b3h g3h
                             have o3 := Lib.hid o3h; have b3 := Lib.hid b3h; have g3 := Lib.hid g3h
                             clear o3h b3h g3h)
      replace o3 := o3.out
      replace b3 := b3.out
      replace g3 := g3.out
      have B_wb : Hid (Below w.heap.size w wb) := B_wa.out.trans (b3.mono (by omega))
      have z_wb : w.heap.size + 3 ≤ wb.heap.size := Nat.le_trans z_wa b3.size
      have V_wb := Lib.hid (V_wa.out.below b3 (by omega))
      have X_wb := Lib.hid (X_wa.out.below b3 (by omega))
      have R_wb := Lib.hid (R_wa.out.below b3 (by omega))
      have NO_wb := Lib.hid o3
      clear y4 x4 no0 D1 h_wa b_wa T_wa B_wa V_wa X_wa R_wa o3 b3 g3
      obtain ⟨wc, h_wc⟩ : ∃ v, wb.alloc (.cells #[] 25) = v := ⟨_, rfl⟩
      have b_wc : Below wb.heap.size wb wc := by rw [← h_wc]; exact (Below.refl _ _).alloc (Nat.le_refl _) _
      have T_wc : Hid (Blk wc wb.heap.size #[] 25) := by show Blk _ _ _ _; rw [← h_wc]; exact Blk.new _ _ _
      have B_wc : Hid (Below w.heap.size w wc) := B_wb.out.trans (b_wc.mono (by omega))
      have z_wc : w.heap.size + 3 ≤ wc.heap.size := Nat.le_trans z_wb b_wc.size
      have V_wc := Lib.hid (V_wb.out.below b_wc (by omega))
      have X_wc := Lib.hid (X_wb.out.below b_wc (by omega))
      have R_wc := Lib.hid (R_wb.out.below b_wc (by omega))
      have NO_wc := Lib.hid (own_below NO_wb.out b_wc)
      have ko0 : wc.ownsRow (w.heap.size + 3) 25 6 (.slice (some ⟨wb.heap.size, 0, none⟩) 0 0) 0 [] := by rw [← h_wc]; exact own_more (own_empty _ _ _) z_wb
      have y5 : wc.cell? ⟨w.heap.size, 5, none⟩ = some (.slice Ak k.len ck) := V_wc.out.cell 5
      have hjk : j ≤ k.len := by omega
      have D1 := KD.out wc j hjk B_wc.out
      have D2 : ∀ u ∈ xs.take (j * 6), u.oneCell' = true := fun u hu => HONE.out u (List.mem_of_mem_take hu)
      go_upto_region 6 with (at_builtin
                             refine wpV_append rfl (.tmp 32) (.tmp 36) rfl (w.heap.size + 3) _ 0 [] rfl ko0 w.heap.size Ak j ck (xs.take (j * 6)) rfl D1 D2 j (Nat.zero_add _).symm (by omega) z_wc ?_
                             intro A4 c4 wd o4h g4h ob4h b4h _ _
                             have o4 := Lib.hid o4h; have g4 := Lib.hid g4h; have ob4 := Lib.hid ob4h; have b4 := Lib.hid b4h
                             clear o4h g4h ob4h b4h)
      replace o4 := o4.out
      replace g4 := g4.out
      replace ob4 := ob4.out
      replace b4 := b4.out
      have B_wd : Hid (Below w.heap.size w wd) := B_wc.out.trans (b4.mono (by omega))
      have z_wd : w.heap.size + 3 ≤ wd.heap.size := Nat.le_trans z_wc b4.size
      have V_wd := Lib.hid (V_wc.out.below b4 (by omega))
      have X_wd := Lib.hid (X_wc.out.below b4 (by omega))
      have R_wd := Lib.hid (R_wc.out.below b4 (by omega))
      have NO_wd := Lib.hid (own_blk NO_wc.out (fun p hp => g4.block p (NO_wc.out.lt p hp).2 (fun e => own_ne ko0 NO_wc.out (by decide) e.symm hp)))
      have KO_wd := Lib.hid o4
      clear y5 ko0 D1 D2 h_wc b_wc T_wc B_wc V_wc X_wc R_wc NO_wc o4 b4 g4 ob4 B_wb V_wb X_wb R_wb NO_wb
      obtain ⟨we, h_we⟩ : ∃ v, wd.alloc (.cells #[.string (str x)] 9) = v := ⟨_, rfl⟩
      have b_we : Below wd.heap.size wd we := by rw [← h_we]; exact (Below.refl _ _).alloc (Nat.le_refl _) _
      have T_we : Hid (Blk we wd.heap.size #[.string (str x)] 9) := by show Blk _ _ _ _; rw [← h_we]; exact Blk.new _ _ _
      have B_we : Hid (Below w.heap.size w we) := B_wd.out.trans (b_we.mono (by omega))
      have z_we : w.heap.size + 3 ≤ we.heap.size := Nat.le_trans z_wd b_we.size
      have V_we := Lib.hid (V_wd.out.below b_we (by omega))
      have X_we := Lib.hid (X_wd.out.below b_we (by omega))
      have R_we := Lib.hid (R_wd.out.below b_we (by omega))
      have NO_we := Lib.hid (own_below NO_wd.out b_we)
      have KO_we := Lib.hid (own_below KO_wd.out b_we)
      have no0 := NO_we.out
      have rd1 : Rd we (wd.heap.size + 1) 1 (some ⟨wd.heap.size, 0, none⟩) 1 (([x] : List (List UInt8)).map sv) := Rd.one wd.heap.size (sv x) 9 _ (Nat.lt_succ_self _) T_we.out
      go_upto_region 7 with (at_builtin
                             refine wpSg_append rfl (.tmp 38) (.tmp 40) rfl (w.heap.size + 3) _ j _ rfl no0 (wd.heap.size + 1) (some ⟨wd.heap.size, 0, none⟩) 1 1 [x] rfl rd1 (j + 1) _ rfl rfl (by omega) z_we ?_
                             intro A5 c5 wf o5h b5h g5h
                             have o5 := Lib.hid o5h; have b5 := Lib.hid b5h; have g5 := Lib.hid g5h
                             clear o5h b5h g5h)
      replace o5 := o5.out
      replace b5 := b5.out
      replace g5 := g5.out
      have B_wf : Hid (Below w.heap.size w wf) := B_we.out.trans (b5.mono (by omega))
      have z_wf : w.heap.size + 3 ≤ wf.heap.size := Nat.le_trans z_we b5.size
      have V_wf := Lib.hid (V_we.out.below b5 (by omega))
      have X_wf := Lib.hid (X_we.out.below b5 (by omega))
      have R_wf := Lib.hid (R_we.out.below b5 (by omega))
      have KO_wf := Lib.hid (own_blk KO_we.out (fun p hp => g5.block p (KO_we.out.lt p hp).2 (fun e => own_ne no0 KO_we.out (by decide) e.symm hp)))
      have NO_wf := Lib.hid o5
      clear no0 rd1 h_we b_we T_we B_we V_we X_we R_we NO_we KO_we o5 b5 g5 B_wd V_wd X_wd R_wd NO_wd KO_wd
      obtain ⟨wg, h_wg⟩ : ∃ v, wf.alloc (.cells #[.int .i64 m.kind, .int .i64 m.int, .int .i64 m.scale, .string (str m.text), .slice Bn m.names.length dn, .slice Bk q.len dk] 25) = v := ⟨_, rfl⟩
      have b_wg : Below wf.heap.size wf wg := by rw [← h_wg]; exact (Below.refl _ _).alloc (Nat.le_refl _) _
      have T_wg : Hid (Blk wg wf.heap.size #[.int .i64 m.kind, .int .i64 m.int, .int .i64 m.scale, .string (str m.text), .slice Bn m.names.length dn, .slice Bk q.len dk] 25) := by show Blk _ _ _ _; rw [← h_wg]; exact Blk.new _ _ _
      have B_wg : Hid (Below w.heap.size w wg) := B_wf.out.trans (b_wg.mono (by omega))
      have z_wg : w.heap.size + 3 ≤ wg.heap.size := Nat.le_trans z_wf b_wg.size
      have V_wg := Lib.hid (V_wf.out.below b_wg (by omega))
      have X_wg := Lib.hid (X_wf.out.below b_wg (by omega))
      have R_wg := Lib.hid (R_wf.out.below b_wg (by omega))
      have NO_wg := Lib.hid (own_below NO_wf.out b_wg)
      have KO_wg := Lib.hid (own_below KO_wf.out b_wg)
      have ko0 := KO_wg.out
      have x0 : wf.cell? ⟨(w.heap.size + 1), 0, none⟩ = some (.int .i64 m.kind) := X_wf.out.cell 0
      have x1 : wf.cell? ⟨(w.heap.size + 1), 1, none⟩ = some (.int .i64 m.int) := X_wf.out.cell 1
      have x2 : wf.cell? ⟨(w.heap.size + 1), 2, none⟩ = some (.int .i64 m.scale) := X_wf.out.cell 2
      have x3 : wf.cell? ⟨(w.heap.size + 1), 3, none⟩ = some (.string (str m.text)) := X_wf.out.cell 3
      have x4 : wf.cell? ⟨(w.heap.size + 1), 4, none⟩ = some (.slice Bn m.names.length dn) := X_wf.out.cell 4
      have x5 : wf.cell? ⟨(w.heap.size + 1), 5, none⟩ = some (.slice Bk q.len dk) := X_wf.out.cell 5
      have rd1 : Rd wg (wf.heap.size + 1) 6 (some ⟨wf.heap.size, 0, none⟩) 1 [.int .i64 m.kind, .int .i64 m.int, .int .i64 m.scale, .string (str m.text), .slice Bn m.names.length dn, .slice Bk q.len dk] := by rw [← h_wg]; exact Rd.elem_new wf [.int .i64 m.kind, .int .i64 m.int, .int .i64 m.scale, .string (str m.text), .slice Bn m.names.length dn, .slice Bk q.len dk] 25
      go_upto_region 8 with (at_builtin
                             refine wpV_append rfl (.tmp 42) (.tmp 44) rfl (w.heap.size + 3) _ j _ rfl ko0 (wf.heap.size + 1) (some ⟨wf.heap.size, 0, none⟩) 1 1 [.int .i64 m.kind, .int .i64 m.int, .int .i64 m.scale, .string (str m.text), .slice Bn m.names.length dn, .slice Bk q.len dk] rfl rd1 (ncells_one m Bn dn Bk q.len dk) (j + 1) rfl (by omega) z_wg ?_
                             intro A6 c6 wh o6h g6h ob6h b6h _ _
                             have o6 := Lib.hid o6h; have g6 := Lib.hid g6h; have ob6 := Lib.hid ob6h; have b6 := Lib.hid b6h
                             clear o6h g6h ob6h b6h)
      replace o6 := o6.out
      replace g6 := g6.out
      replace ob6 := ob6.out
      replace b6 := b6.out
      have B_wh : Hid (Below w.heap.size w wh) := B_wg.out.trans (b6.mono (by omega))
      have z_wh : w.heap.size + 3 ≤ wh.heap.size := Nat.le_trans z_wg b6.size
      have V_wh := Lib.hid (V_wg.out.below b6 (by omega))
      have X_wh := Lib.hid (X_wg.out.below b6 (by omega))
      have R_wh := Lib.hid (R_wg.out.below b6 (by omega))
      have NO_wh := Lib.hid (own_blk NO_wg.out (fun p hp => g6.block p (NO_wg.out.lt p hp).2 (fun e => own_ne ko0 NO_wg.out (by decide) e.symm hp)))
      have KO_wh := Lib.hid o6
      clear ko0 rd1 h_wg b_wg T_wg B_wg V_wg X_wg R_wg NO_wg KO_wg o6 b6 g6 ob6 B_wf V_wf X_wf R_wf NO_wf KO_wf x0 x1 x2 x3 x4 x5
      have y4 : wh.cell? ⟨w.heap.size, 4, none⟩ = some (.slice (some ⟨g, off, none⟩) n.names.length cn) := V_wh.out.cell 4
      have hc2 : wh.cell? ⟨g, off + j, none⟩ = some (.string (str a)) := (World.cell?_of_block (B_wh.out.block g hcc.out.1)).trans ((World.cell?_of_block (B_W2.out.block g hcc.out.1)).symm.trans hcc.out.2)
      have hax : a ≠ x := by
        intro e
        have := HHIT.out
        rw [HA.out, e, if_pos rfl] at this
        cases this
      have q1 : ((str a).toList == (str x).toList) = false := by rw [str_toList, str_toList, beq_eq_false_iff_ne]; exact hax
      have q1' : ¬ (str a).toList = (str x).toList := by rw [str_toList, str_toList]; exact hax
      clear hax
      go_upto_region 10 with fail
      clear y4 hc2 q1 q1'
      have e1' : ¬ cn = j := by omega
      have e2' : ¬ ck = j := by have := HNL.out; omega
      have no0 := NO_wh.out
      have D1 := NC.out wh j (by omega) B_wh.out
      rw [if_neg e1'] at D1
      simp only [Option.map_some, add_mk] at D1
      have x4 : wh.cell? ⟨w.heap.size, 4, none⟩ = some (.slice (some ⟨g, off, none⟩) n.names.length cn) := V_wh.out.cell 4
      have hJc : n.names.length - j ≤ 200 := by omega
      have hJn : j ≤ n.names.length := by omega
      have hJk : j ≤ k.len := by omega
      go_upto_region 11 with (at_builtin
                              refine wpSg_append rfl (.tmp 62) (.tmp 66) rfl (w.heap.size + 3) _ (j + 1) _ rfl no0 w.heap.size _ (n.names.length - j) _ (n.names.drop j) rfl D1 (j + 1 + (n.names.length - j)) _ (by omega) rfl (by omega) z_wh ?_
                              intro A7 c7 wi o7h b7h g7h
                              have y4 : wi.cell? ⟨w.heap.size, 4, none⟩ = some (.slice (some ⟨g, off, none⟩) n.names.length cn) := (V_wh.out.below b7h (by omega)).cell 4
                              have f4 : wi.frozen? ⟨w.heap.size, 4, none⟩ = false := (V_wh.out.below b7h (by omega)).free 4
                              have o7 := Lib.hid o7h; have b7 := Lib.hid b7h; have g7 := Lib.hid g7h
                              clear o7h b7h g7h x4)
      replace o7 := o7.out
      replace b7 := b7.out
      replace g7 := g7.out
      have B_wi : Hid (Below w.heap.size w wi) := B_wh.out.trans (b7.mono (by omega))
      have z_wi : w.heap.size + 3 ≤ wi.heap.size := Nat.le_trans z_wh b7.size
      have V_wi := Lib.hid (V_wh.out.below b7 (by omega))
      have X_wi := Lib.hid (X_wh.out.below b7 (by omega))
      have R_wi := Lib.hid (R_wh.out.below b7 (by omega))
      have KO_wi := Lib.hid (own_blk KO_wh.out (fun p hp => g7.block p (KO_wh.out.lt p hp).2 (fun e => own_ne no0 KO_wh.out (by decide) e.symm hp)))
      have NO_wi := Lib.hid o7
      clear y4 f4 no0 D1 o7 b7 g7 B_wh V_wh X_wh R_wh NO_wh KO_wh
      obtain ⟨wj, h_wj⟩ : ∃ v, wi.setCell ⟨w.heap.size, 4, none⟩ (.slice A7 (j + 1 + (n.names.length - j)) c7) = v := ⟨_, rfl⟩
      rw [h_wj]
      have B_wj : Hid (Below w.heap.size w wj) := by show Below _ _ _; rw [← h_wj]; exact B_wi.out.setCell (Nat.le_refl _) _
      have z_wj : w.heap.size + 3 ≤ wj.heap.size := by rw [← h_wj]; simpa using z_wi
      have V_wj : Hid (Blk wj w.heap.size #[.int .i64 n.kind, .int .i64 n.int, .int .i64 n.scale, .string (str n.text), .slice A7 (j + 1 + (n.names.length - j)) c7, .slice Ak k.len ck] 25) := by show Blk _ _ _ _; rw [← h_wj]; exact Blk.set V_wi.out 4 _
      have X_wj := Lib.hid (show Blk wj _ _ _ from by rw [← h_wj]; exact Blk.set_other X_wi.out 4 _ (by omega))
      have R_wj := Lib.hid (show Blk wj _ _ _ from by rw [← h_wj]; exact Blk.set_other R_wi.out 4 _ (by omega))
      have NO_wj := Lib.hid (own_blk (w' := wj) NO_wi.out (fun p hp => by rw [← h_wj]; exact Below.heap_setCell _ _ _ _ (by have := (NO_wi.out.lt p hp).1; show p ≠ w.heap.size; omega)))
      have KO_wj := Lib.hid (own_blk (w' := wj) KO_wi.out (fun p hp => by rw [← h_wj]; exact Below.heap_setCell _ _ _ _ (by have := (KO_wi.out.lt p hp).1; show p ≠ w.heap.size; omega)))
      clear h_wj B_wi V_wi X_wi R_wi NO_wi KO_wi
      have ko0 := KO_wj.out
      have D1 := KC.out wj j hJk B_wj.out
      rw [if_neg e2'] at D1
      have D2 : ∀ u ∈ xs.drop (j * 6), u.oneCell' = true := fun u hu => HONE.out u (List.mem_of_mem_drop hu)
      have x5 : wj.cell? ⟨w.heap.size, 5, none⟩ = some (.slice Ak k.len ck) := V_wj.out.cell 5
      go_upto_region 12 with (at_builtin
                              refine wpV_append rfl (.tmp 69) (.tmp 73) rfl (w.heap.size + 3) _ (j + 1) _ rfl ko0 w.heap.size _ (k.len - j) _ (xs.drop (j * 6)) rfl D1 D2 (j + 1 + (k.len - j)) (by omega) (by omega) z_wj ?_
                              intro A8 c8 wk o8h g8h _ b8h _ _
                              have y5 : wk.cell? ⟨w.heap.size, 5, none⟩ = some (.slice Ak k.len ck) := (V_wj.out.below b8h (by omega)).cell 5
                              have f5 : wk.frozen? ⟨w.heap.size, 5, none⟩ = false := (V_wj.out.below b8h (by omega)).free 5
                              have o8 := Lib.hid o8h; have b8 := Lib.hid b8h; have g8 := Lib.hid g8h
                              clear o8h b8h g8h x5)
      replace o8 := o8.out
      replace b8 := b8.out
      replace g8 := g8.out
      have B_wk : Hid (Below w.heap.size w wk) := B_wj.out.trans (b8.mono (by omega))
      have z_wk : w.heap.size + 3 ≤ wk.heap.size := Nat.le_trans z_wj b8.size
      have V_wk := Lib.hid (V_wj.out.below b8 (by omega))
      have X_wk := Lib.hid (X_wj.out.below b8 (by omega))
      have R_wk := Lib.hid (R_wj.out.below b8 (by omega))
      have NO_wk := Lib.hid (own_blk NO_wj.out (fun p hp => g8.block p (NO_wj.out.lt p hp).2 (fun e => own_ne ko0 NO_wj.out (by decide) e.symm hp)))
      have KO_wk := Lib.hid o8
      clear y5 f5 ko0 D1 D2 o8 b8 g8 B_wj V_wj X_wj R_wj NO_wj KO_wj
      obtain ⟨wl, h_wl⟩ : ∃ v, wk.setCell ⟨w.heap.size, 5, none⟩ (.slice A8 (j + 1 + (k.len - j)) c8) = v := ⟨_, rfl⟩
      rw [h_wl]
      have B_wl : Hid (Below w.heap.size w wl) := by show Below _ _ _; rw [← h_wl]; exact B_wk.out.setCell (Nat.le_refl _) _
      have z_wl : w.heap.size + 3 ≤ wl.heap.size := by rw [← h_wl]; simpa using z_wk
      have V_wl : Hid (Blk wl w.heap.size #[.int .i64 n.kind, .int .i64 n.int, .int .i64 n.scale, .string (str n.text), .slice A7 (j + 1 + (n.names.length - j)) c7, .slice A8 (j + 1 + (k.len - j)) c8] 25) := by show Blk _ _ _ _; rw [← h_wl]; exact Blk.set V_wk.out 5 _
      have X_wl := Lib.hid (show Blk wl _ _ _ from by rw [← h_wl]; exact Blk.set_other X_wk.out 5 _ (by omega))
      have R_wl := Lib.hid (show Blk wl _ _ _ from by rw [← h_wl]; exact Blk.set_other R_wk.out 5 _ (by omega))
      have NO_wl := Lib.hid (own_blk (w' := wl) NO_wk.out (fun p hp => by rw [← h_wl]; exact Below.heap_setCell _ _ _ _ (by have := (NO_wk.out.lt p hp).1; show p ≠ w.heap.size; omega)))
      have KO_wl := Lib.hid (own_blk (w' := wl) KO_wk.out (fun p hp => by rw [← h_wl]; exact Below.heap_setCell _ _ _ _ (by have := (KO_wk.out.lt p hp).1; show p ≠ w.heap.size; omega)))
      clear h_wl B_wk V_wk X_wk R_wk NO_wk KO_wk
      have x0 : wl.cell? ⟨w.heap.size, 0, none⟩ = some (.int .i64 n.kind) := V_wl.out.cell 0
      have r0 : wl.cell? ⟨(w.heap.size + 2), 0, none⟩ = some (.int .i64 0) := R_wl.out.cell 0
      have s0 := R_wl.out.free 0
      have x1 : wl.cell? ⟨w.heap.size, 1, none⟩ = some (.int .i64 n.int) := V_wl.out.cell 1
      have r1 : wl.cell? ⟨(w.heap.size + 2), 1, none⟩ = some (.int .i64 0) := R_wl.out.cell 1
      have s1 := R_wl.out.free 1
      have x2 : wl.cell? ⟨w.heap.size, 2, none⟩ = some (.int .i64 n.scale) := V_wl.out.cell 2
      have r2 : wl.cell? ⟨(w.heap.size + 2), 2, none⟩ = some (.int .i64 0) := R_wl.out.cell 2
      have s2 := R_wl.out.free 2
      have x3 : wl.cell? ⟨w.heap.size, 3, none⟩ = some (.string (str n.text)) := V_wl.out.cell 3
      have r3 : wl.cell? ⟨(w.heap.size + 2), 3, none⟩ = some (.string ⟨#[]⟩) := R_wl.out.cell 3
      have s3 := R_wl.out.free 3
      have x4 : wl.cell? ⟨w.heap.size, 4, none⟩ = some (.slice A7 (j + 1 + (n.names.length - j)) c7) := V_wl.out.cell 4
      have r4 : wl.cell? ⟨(w.heap.size + 2), 4, none⟩ = some (.slice none 0 0) := R_wl.out.cell 4
      have s4 := R_wl.out.free 4
      have x5 : wl.cell? ⟨w.heap.size, 5, none⟩ = some (.slice A8 (j + 1 + (k.len - j)) c8) := V_wl.out.cell 5
      have r5 : wl.cell? ⟨(w.heap.size + 2), 5, none⟩ = some (.slice none 0 0) := R_wl.out.cell 5
      have s5 := R_wl.out.free 5
      go_wp2_with fail
      obtain ⟨wz, h_wz⟩ : ∃ v, ((((((wl.setCell ⟨(w.heap.size + 2), 0, none⟩ (.int .i64 n.kind)).setCell ⟨(w.heap.size + 2), 1, none⟩ (.int .i64 n.int)).setCell ⟨(w.heap.size + 2), 2, none⟩ (.int .i64 n.scale)).setCell ⟨(w.heap.size + 2), 3, none⟩ (.string (str n.text))).setCell ⟨(w.heap.size + 2), 4, none⟩ (.slice A7 (j + 1 + (n.names.length - j)) c7)).setCell ⟨(w.heap.size + 2), 5, none⟩ (.slice A8 (j + 1 + (k.len - j)) c8)) = v := ⟨_, rfl⟩
      rw [h_wz]
      have RZ : Hid (Blk wz (w.heap.size + 2) #[.int .i64 n.kind, .int .i64 n.int, .int .i64 n.scale, .string (str n.text), .slice A7 (j + 1 + (n.names.length - j)) c7, .slice A8 (j + 1 + (k.len - j)) c8] 25) := by show Blk _ _ _ _; rw [← h_wz]; exact Blk.put6 R_wl.out
      have BZ : Hid (Below w.heap.size w wz) := by show Below _ _ _; rw [← h_wz]; exact below_six B_wl.out (by omega)
      have NO_wz := Lib.hid (own_blk (w' := wz) NO_wl.out (fun p hp => by
        have hne : p ≠ (w.heap.size + 2) := by have := (NO_wl.out.lt p hp).1; omega
        rw [← h_wz]
        repeat rw [Below.heap_setCell _ _ _ _ (by exact hne)]))
      have KO_wz := Lib.hid (own_blk (w' := wz) KO_wl.out (fun p hp => by
        have hne : p ≠ (w.heap.size + 2) := by have := (KO_wl.out.lt p hp).1; omega
        rw [← h_wz]
        repeat rw [Below.heap_setCell _ _ _ _ (by exact hne)]))
      clear h_wz x0 r0 s0 x1 r1 s1 x2 r2 s2 x3 r3 s3 x4 r4 s4 x5 r5 s5
      have r0 : wz.cell? ⟨(w.heap.size + 2), 0, none⟩ = some (.int .i64 n.kind) := RZ.out.cell 0
      have r1 : wz.cell? ⟨(w.heap.size + 2), 1, none⟩ = some (.int .i64 n.int) := RZ.out.cell 1
      have r2 : wz.cell? ⟨(w.heap.size + 2), 2, none⟩ = some (.int .i64 n.scale) := RZ.out.cell 2
      have r3 : wz.cell? ⟨(w.heap.size + 2), 3, none⟩ = some (.string (str n.text)) := RZ.out.cell 3
      have r4 : wz.cell? ⟨(w.heap.size + 2), 4, none⟩ = some (.slice A7 (j + 1 + (n.names.length - j)) c7) := RZ.out.cell 4
      have r5 : wz.cell? ⟨(w.heap.size + 2), 5, none⟩ = some (.slice A8 (j + 1 + (k.len - j)) c8) := RZ.out.cell 5
      refine bodyPost_ret (v := .agg #[.int .i64 n.kind, .int .i64 n.int, .int .i64 n.scale, .string (str n.text), .slice A7 (j + 1 + (n.names.length - j)) c7, .slice A8 (j + 1 + (k.len - j)) c8]) (by simp [results, Try.results37, go_sem, r0, r1, r2, r3, r4, r5]) rfl ?_
      rw [HE1.out, HE2.out]
      exact ⟨_, rfl, lay_fin HSS.out BZ.out HOK.out.1 hx (by omega) (by omega) HNL.out hkl HK0.out HU.out (by omega) (by omega) NO_wz.out KO_wz.out, BZ.out⟩
set_option maxRecDepth 100000 in
set_option maxHeartbeats 6400000 in
theorem rlay_hit (n : Nd) (k : F) (m : Nd) (q : F) (v u : Value) (x : List UInt8) (w : World) (hx : x.length ≤ 500) (S : Nat → Prop) (hS : ∀ b, S b → b < w.heap.size) (hv0 : Vo w S n k v) (hu0 : Vo w S m q u) (hnl : n.names.length = k.len) (hkl : k.len ≤ 200) (hh : hitB x n.names = 1) :
    Calls Try.prog 37 #[v, .string (str x), u] w (RetLay S (layN n x) (layK n k x m q) w) := by
  have hv := hv0.keep (w' := w) (S' := (· < w.heap.size)) (fun _ _ => rfl) hS
  have hu := hu0.keep (w' := w) (S' := (· < w.heap.size)) (fun _ _ => rfl) hS
  obtain ⟨An, cn, Ak, ck, rfl, hok0, l0, l1, hn1, xs, hr1, hk1⟩ := hv0
  have hn0 := hn1.keep (w' := w) (S' := (· < w.heap.size)) (fun _ _ => rfl) hS
  have hr0 := hr1.keep (w' := w) (S' := (· < w.heap.size)) (fun _ _ => rfl) hS
  obtain ⟨Bn, dn, Bk, dk, rfl, hok1, l2, l3, _, _⟩ := id hu
  have HSS := Lib.hid hS
  have HN0 := Lib.hid hn0
  have HR0 := Lib.hid hr0
  have HK0 := Lib.hid hk1
  have HU := Lib.hid hu0
  have hxl := Kc.len _ _ hk1
  have HXL := Lib.hid hxl
  have ST0 := St.box_new (St.box_new (St.nil w) hv) hu
  clear hv hu hu0 hok1 l2 l3 hn0 hr0 hn1 hr1 hk1 hxl hS
  unfold ncells at *
  generalize hW1 : (w.alloc (.cells #[.int .i64 n.kind, .int .i64 n.int, .int .i64 n.scale, .string (str n.text), .slice An n.names.length cn, .slice Ak k.len ck] 25)).alloc (.cells #[.int .i64 m.kind, .int .i64 m.int, .int .i64 m.scale, .string (str m.text), .slice Bn m.names.length dn, .slice Bk q.len dk] 25) = W1
  have ST : St w [⟨w.heap.size, n, k, An, cn, Ak, ck⟩, ⟨w.heap.size + 1, m, q, Bn, dn, Bk, dk⟩] W1 := by rw [← hW1]; have := ST0; simpa using this
  clear ST0
  have hs1 : W1.heap.size = w.heap.size + 2 := by rw [← hW1]; simp
  generalize hW2 : W1.alloc (.cells #[.int .i64 0, .int .i64 0, .int .i64 0, .string ⟨#[]⟩, .slice none 0 0, .slice none 0 0] 25) = W2
  have b12 : Below W1.heap.size W1 W2 := by rw [← hW2]; exact (Below.refl _ _).alloc (Nat.le_refl _) _
  have B_W2 : Hid (Below w.heap.size w W2) := (ST.step b12).1
  have V_W2 : Hid (Blk W2 w.heap.size #[.int .i64 n.kind, .int .i64 n.int, .int .i64 n.scale, .string (str n.text), .slice An n.names.length cn, .slice Ak k.len ck] 25) := ((ST.step b12).box 0 rfl).1
  have X_W2 : Hid (Blk W2 (w.heap.size + 1) #[.int .i64 m.kind, .int .i64 m.int, .int .i64 m.scale, .string (str m.text), .slice Bn m.names.length dn, .slice Bk q.len dk] 25) := ((ST.step b12).box 1 rfl).1
  have R_W2 : Hid (Blk W2 (w.heap.size + 2) #[.int .i64 0, .int .i64 0, .int .i64 0, .string ⟨#[]⟩, .slice none 0 0, .slice none 0 0] 25) := by show Blk _ _ _ _; rw [← hs1, ← hW2]; exact Blk.new _ _ _
  have z_W2 : w.heap.size + 3 ≤ W2.heap.size := by have := R_W2.out.lt; omega
  clear b12 ST
  have HL := Lib.hid (hitB_le x n.names)
  have HE1 : Hid (layN n x = ⟨n.kind, n.int, n.scale, n.text, layL n.names (cntB x n.names) 1 x⟩) := by show _ = _; unfold layN; rw [hh]
  have HE2 : Hid (layK n k x m q = layF k (cntB x n.names) 1 m q) := by show _ = _; unfold layK; rw [hh]
  rw [hh] at HL
  have HLT := Lib.hid (cntB_lt x n.names)
  have HAT := Lib.hid (cntB_at x n.names)
  have HHIT : Hid (hitB x n.names = 1) := hh
  unfold hitB at HHIT
  obtain ⟨i, hi⟩ : ∃ i, cntB x n.names = i := ⟨_, rfl⟩
  rw [hi] at HE1 HE2 HL HLT HAT HHIT
  have HOK := Lib.hid (And.intro hok0 (And.intro l0 l1))
  have hl1 : n.names.length ≤ 200 := by omega
  have hil : i + 1 ≤ n.names.length := HL.out.1
  have hcn : n.names.length ≤ cn := l0.1
  have hcn2 : cn ≤ 9223372036854775807 := l0.2.1
  have hck : k.len ≤ ck := l1.1
  have hck2 : ck ≤ 9223372036854775807 := l1.2.1
  have hik : i + 1 ≤ k.len := by omega
  have ND : Hid (∀ (W : World) (j : Nat), j ≤ n.names.length → Below w.heap.size w W → Rd W w.heap.size 1 An j ((n.names.take j).map sv)) := fun W j hj hB => by
    have := Rd.take (RdS.rd (HN0.out.keep (fun b hb => hB.block b hb) (fun _ h => h))) hj
    rw [Nat.mul_one, ← List.map_take] at this
    exact this
  have NC : Hid (∀ (W : World) (j : Nat), j ≤ n.names.length → Below w.heap.size w W → Rd W w.heap.size 1 (if cn = j then An else An.map (·.add j)) (n.names.length - j) ((n.names.drop j).map sv)) := fun W j hj hB => by
    have := Rd.cut (cap := cn) (RdS.rd (HN0.out.keep (fun b hb => hB.block b hb) (fun _ h => h))) hj hcn
    rw [Nat.mul_one, ← List.map_drop] at this
    exact this
  have KD : Hid (∀ (W : World) (j : Nat), j ≤ k.len → Below w.heap.size w W → Rd W w.heap.size 6 Ak j (xs.take (j * 6))) := fun W j hj hB => Rd.take (RdS.rd (HR0.out.keep (fun b hb => hB.block b hb) (fun _ h => h))) hj
  have KC : Hid (∀ (W : World) (j : Nat), j ≤ k.len → Below w.heap.size w W → Rd W w.heap.size 6 (if ck = j then Ak else Ak.map (·.add (j * 6))) (k.len - j) (xs.drop (j * 6))) := fun W j hj hB => Rd.cut (cap := ck) (RdS.rd (HR0.out.keep (fun b hb => hB.block b hb) (fun _ h => h))) hj hck
  have HONE : Hid (∀ u ∈ xs, u.oneCell' = true) := Kc.one _ _ HK0.out
  have HI := Lib.hid hi
  have HNL := Lib.hid hnl
  clear hh hi HL HN0 HR0 l0 l1 hok0 hnl
  have x4 : W2.cell? ⟨w.heap.size, 4, none⟩ = some (.slice An n.names.length cn) := V_W2.out.cell 4
  go_enter Try.func37, Try.ntmps37
  go_wp2_with fail
  clear hW1 hW2
  go_loopw [7] (fun s7 wr => ∃ j : Nat, s7 = .int .i64 j ∧ j ≤ i ∧ wr = W2) (fun s7 _ => i - (intOf s7).toNat)
  case atStart => exact ⟨0, rfl, Nat.zero_le _, rfl⟩
  case round =>
    obtain ⟨j, rfl, hj, rfl⟩ := hrel
    by_cases hlt : j < i
    · obtain ⟨a, ha, hax⟩ := HLT.out j hlt
      obtain ⟨g, off, u, rfl, hg, hu, hc⟩ := Rd.at_ (ND.out wr n.names.length (Nat.le_refl _) B_W2.out) (k := j) (by omega)
      have hua : u = .string (str a) := by
        rw [List.take_length, List.getElem?_map, ha] at hu
        exact (Option.some.inj hu).symm
      subst hua
      have hb1 : Op.bytesLess (str a).toList (str x).toList = true := by rw [str_toList, str_toList]; exact hax
      have hjn : (j : Int) < (n.names.length : Int) := by omega
      clear ha hax hu
      go_wp2_with fail
      go_roundw
      case rel => exact ⟨j + 1, by go_num, by omega, by first | rfl | trivial⟩
      case measure => simp [intOf]; omega
    · obtain rfl : j = i := by omega
      clear hlt hj HLT
      obtain ⟨a, ha⟩ : ∃ a, n.names[j]? = some a := ⟨_, List.getElem?_eq_getElem (by omega)⟩
      obtain ⟨g, off, u, rfl, hg, hu, hc⟩ := Rd.at_ (ND.out wr n.names.length (Nat.le_refl _) B_W2.out) (k := j) (by omega)
      have hua : u = .string (str a) := by
        rw [List.take_length, List.getElem?_map, ha] at hu
        exact (Option.some.inj hu).symm
      subst hua
      have hb1 : Op.bytesLess (str a).toList (str x).toList = false := by rw [str_toList, str_toList]; exact HAT.out a ha
      have hjn : (j : Int) < (n.names.length : Int) := by omega
      have hcc := Lib.hid (And.intro hg hc)
      have HA := Lib.hid ha
      clear hu ha
      go_upto_region 4 with fail
      clear hb1 hc
      obtain ⟨wa, h_wa⟩ : ∃ v, wr.alloc (.cells #[] 9) = v := ⟨_, rfl⟩
      have b_wa : Below wr.heap.size wr wa := by rw [← h_wa]; exact (Below.refl _ _).alloc (Nat.le_refl _) _
      have T_wa : Hid (Blk wa wr.heap.size #[] 9) := by show Blk _ _ _ _; rw [← h_wa]; exact Blk.new _ _ _
      have B_wa : Hid (Below w.heap.size w wa) := B_W2.out.trans (b_wa.mono (by omega))
      have z_wa : w.heap.size + 3 ≤ wa.heap.size := Nat.le_trans z_W2 b_wa.size
      have V_wa := Lib.hid (V_W2.out.below b_wa (by omega))
      have X_wa := Lib.hid (X_W2.out.below b_wa (by omega))
      have R_wa := Lib.hid (R_W2.out.below b_wa (by omega))
      have no0 : wa.ownsRow (w.heap.size + 3) 9 1 (.slice (some ⟨wr.heap.size, 0, none⟩) 0 0) 0 (([] : List (List UInt8)).map sv) := by rw [← h_wa]; exact own_more (own_empty _ _ _) z_W2
      have y4 : wa.cell? ⟨w.heap.size, 4, none⟩ = some (.slice (some ⟨g, off, none⟩) n.names.length cn) := V_wa.out.cell 4
      have D1 := ND.out wa j (by omega) B_wa.out
      go_upto_region 5 with (at_builtin
                             refine wpSg_append rfl (.tmp 26) (.tmp 30) rfl (w.heap.size + 3) _ 0 [] rfl no0 w.heap.size (some ⟨g, off, none⟩) j cn (n.names.take j) rfl D1 j (n.names.take j) (Nat.zero_add _).symm rfl (by omega) z_wa ?_
                             intro A3 c3 wb o3h b3h g3h
                             have o3 := Lib.hid o3h; have b3 := Lib.hid b3h; have g3 := Lib.hid g3h
                             clear o3h b3h g3h)
      replace o3 := o3.out
      replace b3 := b3.out
      replace g3 := g3.out
      have B_wb : Hid (Below w.heap.size w wb) := B_wa.out.trans (b3.mono (by omega))
      have z_wb : w.heap.size + 3 ≤ wb.heap.size := Nat.le_trans z_wa b3.size
      have V_wb := Lib.hid (V_wa.out.below b3 (by omega))
      have X_wb := Lib.hid (X_wa.out.below b3 (by omega))
      have R_wb := Lib.hid (R_wa.out.below b3 (by omega))
      have NO_wb := Lib.hid o3
      clear y4 x4 no0 D1 h_wa b_wa T_wa B_wa V_wa X_wa R_wa o3 b3 g3
      obtain ⟨wc, h_wc⟩ : ∃ v, wb.alloc (.cells #[] 25) = v := ⟨_, rfl⟩
      have b_wc : Below wb.heap.size wb wc := by rw [← h_wc]; exact (Below.refl _ _).alloc (Nat.le_refl _) _
      have T_wc : Hid (Blk wc wb.heap.size #[] 25) := by show Blk _ _ _ _; rw [← h_wc]; exact Blk.new _ _ _
      have B_wc : Hid (Below w.heap.size w wc) := B_wb.out.trans (b_wc.mono (by omega))
      have z_wc : w.heap.size + 3 ≤ wc.heap.size := Nat.le_trans z_wb b_wc.size
      have V_wc := Lib.hid (V_wb.out.below b_wc (by omega))
      have X_wc := Lib.hid (X_wb.out.below b_wc (by omega))
      have R_wc := Lib.hid (R_wb.out.below b_wc (by omega))
      have NO_wc := Lib.hid (own_below NO_wb.out b_wc)
      have ko0 : wc.ownsRow (w.heap.size + 3) 25 6 (.slice (some ⟨wb.heap.size, 0, none⟩) 0 0) 0 [] := by rw [← h_wc]; exact own_more (own_empty _ _ _) z_wb
      have y5 : wc.cell? ⟨w.heap.size, 5, none⟩ = some (.slice Ak k.len ck) := V_wc.out.cell 5
      have hjk : j ≤ k.len := by omega
      have D1 := KD.out wc j hjk B_wc.out
      have D2 : ∀ u ∈ xs.take (j * 6), u.oneCell' = true := fun u hu => HONE.out u (List.mem_of_mem_take hu)
      go_upto_region 6 with (at_builtin
                             refine wpV_append rfl (.tmp 32) (.tmp 36) rfl (w.heap.size + 3) _ 0 [] rfl ko0 w.heap.size Ak j ck (xs.take (j * 6)) rfl D1 D2 j (Nat.zero_add _).symm (by omega) z_wc ?_
                             intro A4 c4 wd o4h g4h ob4h b4h _ _
                             have o4 := Lib.hid o4h; have g4 := Lib.hid g4h; have ob4 := Lib.hid ob4h; have b4 := Lib.hid b4h
                             clear o4h g4h ob4h b4h)
      replace o4 := o4.out
      replace g4 := g4.out
      replace ob4 := ob4.out
      replace b4 := b4.out
      have B_wd : Hid (Below w.heap.size w wd) := B_wc.out.trans (b4.mono (by omega))
      have z_wd : w.heap.size + 3 ≤ wd.heap.size := Nat.le_trans z_wc b4.size
      have V_wd := Lib.hid (V_wc.out.below b4 (by omega))
      have X_wd := Lib.hid (X_wc.out.below b4 (by omega))
      have R_wd := Lib.hid (R_wc.out.below b4 (by omega))
      have NO_wd := Lib.hid (own_blk NO_wc.out (fun p hp => g4.block p (NO_wc.out.lt p hp).2 (fun e => own_ne ko0 NO_wc.out (by decide) e.symm hp)))
      have KO_wd := Lib.hid o4
      clear y5 ko0 D1 D2 h_wc b_wc T_wc B_wc V_wc X_wc R_wc NO_wc o4 b4 g4 ob4 B_wb V_wb X_wb R_wb NO_wb
      obtain ⟨we, h_we⟩ : ∃ v, wd.alloc (.cells #[.string (str x)] 9) = v := ⟨_, rfl⟩
      have b_we : Below wd.heap.size wd we := by rw [← h_we]; exact (Below.refl _ _).alloc (Nat.le_refl _) _
      have T_we : Hid (Blk we wd.heap.size #[.string (str x)] 9) := by show Blk _ _ _ _; rw [← h_we]; exact Blk.new _ _ _
      have B_we : Hid (Below w.heap.size w we) := B_wd.out.trans (b_we.mono (by omega))
      have z_we : w.heap.size + 3 ≤ we.heap.size := Nat.le_trans z_wd b_we.size
      have V_we := Lib.hid (V_wd.out.below b_we (by omega))
      have X_we := Lib.hid (X_wd.out.below b_we (by omega))
      have R_we := Lib.hid (R_wd.out.below b_we (by omega))
      have NO_we := Lib.hid (own_below NO_wd.out b_we)
      have KO_we := Lib.hid (own_below KO_wd.out b_we)
      have no0 := NO_we.out
      have rd1 : Rd we (wd.heap.size + 1) 1 (some ⟨wd.heap.size, 0, none⟩) 1 (([x] : List (List UInt8)).map sv) := Rd.one wd.heap.size (sv x) 9 _ (Nat.lt_succ_self _) T_we.out
      go_upto_region 7 with (at_builtin
                             refine wpSg_append rfl (.tmp 38) (.tmp 40) rfl (w.heap.size + 3) _ j _ rfl no0 (wd.heap.size + 1) (some ⟨wd.heap.size, 0, none⟩) 1 1 [x] rfl rd1 (j + 1) _ rfl rfl (by omega) z_we ?_
                             intro A5 c5 wf o5h b5h g5h
                             have o5 := Lib.hid o5h; have b5 := Lib.hid b5h; have g5 := Lib.hid g5h
                             clear o5h b5h g5h)
      replace o5 := o5.out
      replace b5 := b5.out
      replace g5 := g5.out
      have B_wf : Hid (Below w.heap.size w wf) := B_we.out.trans (b5.mono (by omega))
      have z_wf : w.heap.size + 3 ≤ wf.heap.size := Nat.le_trans z_we b5.size
      have V_wf := Lib.hid (V_we.out.below b5 (by omega))
      have X_wf := Lib.hid (X_we.out.below b5 (by omega))
      have R_wf := Lib.hid (R_we.out.below b5 (by omega))
      have KO_wf := Lib.hid (own_blk KO_we.out (fun p hp => g5.block p (KO_we.out.lt p hp).2 (fun e => own_ne no0 KO_we.out (by decide) e.symm hp)))
      have NO_wf := Lib.hid o5
      clear no0 rd1 h_we b_we T_we B_we V_we X_we R_we NO_we KO_we o5 b5 g5 B_wd V_wd X_wd R_wd NO_wd KO_wd
      obtain ⟨wg, h_wg⟩ : ∃ v, wf.alloc (.cells #[.int .i64 m.kind, .int .i64 m.int, .int .i64 m.scale, .string (str m.text), .slice Bn m.names.length dn, .slice Bk q.len dk] 25) = v := ⟨_, rfl⟩
      have b_wg : Below wf.heap.size wf wg := by rw [← h_wg]; exact (Below.refl _ _).alloc (Nat.le_refl _) _
      have T_wg : Hid (Blk wg wf.heap.size #[.int .i64 m.kind, .int .i64 m.int, .int .i64 m.scale, .string (str m.text), .slice Bn m.names.length dn, .slice Bk q.len dk] 25) := by show Blk _ _ _ _; rw [← h_wg]; exact Blk.new _ _ _
      have B_wg : Hid (Below w.heap.size w wg) := B_wf.out.trans (b_wg.mono (by omega))
      have z_wg : w.heap.size + 3 ≤ wg.heap.size := Nat.le_trans z_wf b_wg.size
      have V_wg := Lib.hid (V_wf.out.below b_wg (by omega))
      have X_wg := Lib.hid (X_wf.out.below b_wg (by omega))
      have R_wg := Lib.hid (R_wf.out.below b_wg (by omega))
      have NO_wg := Lib.hid (own_below NO_wf.out b_wg)
      have KO_wg := Lib.hid (own_below KO_wf.out b_wg)
      have ko0 := KO_wg.out
      have x0 : wf.cell? ⟨(w.heap.size + 1), 0, none⟩ = some (.int .i64 m.kind) := X_wf.out.cell 0
      have x1 : wf.cell? ⟨(w.heap.size + 1), 1, none⟩ = some (.int .i64 m.int) := X_wf.out.cell 1
      have x2 : wf.cell? ⟨(w.heap.size + 1), 2, none⟩ = some (.int .i64 m.scale) := X_wf.out.cell 2
      have x3 : wf.cell? ⟨(w.heap.size + 1), 3, none⟩ = some (.string (str m.text)) := X_wf.out.cell 3
      have x4 : wf.cell? ⟨(w.heap.size + 1), 4, none⟩ = some (.slice Bn m.names.length dn) := X_wf.out.cell 4
      have x5 : wf.cell? ⟨(w.heap.size + 1), 5, none⟩ = some (.slice Bk q.len dk) := X_wf.out.cell 5
      have rd1 : Rd wg (wf.heap.size + 1) 6 (some ⟨wf.heap.size, 0, none⟩) 1 [.int .i64 m.kind, .int .i64 m.int, .int .i64 m.scale, .string (str m.text), .slice Bn m.names.length dn, .slice Bk q.len dk] := by rw [← h_wg]; exact Rd.elem_new wf [.int .i64 m.kind, .int .i64 m.int, .int .i64 m.scale, .string (str m.text), .slice Bn m.names.length dn, .slice Bk q.len dk] 25
      go_upto_region 8 with (at_builtin
                             refine wpV_append rfl (.tmp 42) (.tmp 44) rfl (w.heap.size + 3) _ j _ rfl ko0 (wf.heap.size + 1) (some ⟨wf.heap.size, 0, none⟩) 1 1 [.int .i64 m.kind, .int .i64 m.int, .int .i64 m.scale, .string (str m.text), .slice Bn m.names.length dn, .slice Bk q.len dk] rfl rd1 (ncells_one m Bn dn Bk q.len dk) (j + 1) rfl (by omega) z_wg ?_
                             intro A6 c6 wh o6h g6h ob6h b6h _ _
                             have o6 := Lib.hid o6h; have g6 := Lib.hid g6h; have ob6 := Lib.hid ob6h; have b6 := Lib.hid b6h
                             clear o6h g6h ob6h b6h)
      replace o6 := o6.out
      replace g6 := g6.out
      replace ob6 := ob6.out
      replace b6 := b6.out
      have B_wh : Hid (Below w.heap.size w wh) := B_wg.out.trans (b6.mono (by omega))
      have z_wh : w.heap.size + 3 ≤ wh.heap.size := Nat.le_trans z_wg b6.size
      have V_wh := Lib.hid (V_wg.out.below b6 (by omega))
      have X_wh := Lib.hid (X_wg.out.below b6 (by omega))
      have R_wh := Lib.hid (R_wg.out.below b6 (by omega))
      have NO_wh := Lib.hid (own_blk NO_wg.out (fun p hp => g6.block p (NO_wg.out.lt p hp).2 (fun e => own_ne ko0 NO_wg.out (by decide) e.symm hp)))
      have KO_wh := Lib.hid o6
      clear ko0 rd1 h_wg b_wg T_wg B_wg V_wg X_wg R_wg NO_wg KO_wg o6 b6 g6 ob6 B_wf V_wf X_wf R_wf NO_wf KO_wf x0 x1 x2 x3 x4 x5
      have y4 : wh.cell? ⟨w.heap.size, 4, none⟩ = some (.slice (some ⟨g, off, none⟩) n.names.length cn) := V_wh.out.cell 4
      have hc2 : wh.cell? ⟨g, off + j, none⟩ = some (.string (str a)) := (World.cell?_of_block (B_wh.out.block g hcc.out.1)).trans ((World.cell?_of_block (B_W2.out.block g hcc.out.1)).symm.trans hcc.out.2)
      have hax : a = x := by
        have := HHIT.out
        rw [HA.out] at this
        split at this
        · rename_i h; exact Option.some.inj h
        · cases this
      have q1 : ((str a).toList == (str x).toList) = true := by rw [hax]; simp
      have q1' : (str a).toList = (str x).toList := by rw [hax]
      clear hax
      go_upto_region 10 with fail
      clear y4 hc2 q1 q1'
      by_cases e1 : (j + 1) = cn
      · subst e1
        by_cases e2 : (j + 1) = ck
        · subst e2
          have no0 := NO_wh.out
          have D1 := NC.out wh (j + 1) (by omega) B_wh.out
          rw [if_pos rfl, show n.names.length - (j + 1) = 0 by omega] at D1
          have x4 : wh.cell? ⟨w.heap.size, 4, none⟩ = some (.slice (some ⟨g, off, none⟩) n.names.length (j + 1)) := V_wh.out.cell 4
          have hJc : n.names.length - (j + 1) ≤ 200 := by omega
          have hJn : (j + 1) ≤ n.names.length := by omega
          have hJk : (j + 1) ≤ k.len := by omega
          go_upto_region 11 with (at_builtin
                                  refine wpSg_append rfl (.tmp 62) (.tmp 66) rfl (w.heap.size + 3) _ (j + 1) _ rfl no0 w.heap.size _ 0 _ (n.names.drop (j + 1)) rfl D1 (j + 1) _ (by omega) rfl (by omega) z_wh ?_
                                  intro A7 c7 wi o7h b7h g7h
                                  have y4 : wi.cell? ⟨w.heap.size, 4, none⟩ = some (.slice (some ⟨g, off, none⟩) n.names.length (j + 1)) := (V_wh.out.below b7h (by omega)).cell 4
                                  have f4 : wi.frozen? ⟨w.heap.size, 4, none⟩ = false := (V_wh.out.below b7h (by omega)).free 4
                                  have o7 := Lib.hid o7h; have b7 := Lib.hid b7h; have g7 := Lib.hid g7h
                                  clear o7h b7h g7h x4)
          replace o7 := o7.out
          replace b7 := b7.out
          replace g7 := g7.out
          have B_wi : Hid (Below w.heap.size w wi) := B_wh.out.trans (b7.mono (by omega))
          have z_wi : w.heap.size + 3 ≤ wi.heap.size := Nat.le_trans z_wh b7.size
          have V_wi := Lib.hid (V_wh.out.below b7 (by omega))
          have X_wi := Lib.hid (X_wh.out.below b7 (by omega))
          have R_wi := Lib.hid (R_wh.out.below b7 (by omega))
          have KO_wi := Lib.hid (own_blk KO_wh.out (fun p hp => g7.block p (KO_wh.out.lt p hp).2 (fun e => own_ne no0 KO_wh.out (by decide) e.symm hp)))
          have NO_wi := Lib.hid o7
          clear y4 f4 no0 D1 o7 b7 g7 B_wh V_wh X_wh R_wh NO_wh KO_wh
          obtain ⟨wj, h_wj⟩ : ∃ v, wi.setCell ⟨w.heap.size, 4, none⟩ (.slice A7 (j + 1) c7) = v := ⟨_, rfl⟩
          rw [h_wj]
          have B_wj : Hid (Below w.heap.size w wj) := by show Below _ _ _; rw [← h_wj]; exact B_wi.out.setCell (Nat.le_refl _) _
          have z_wj : w.heap.size + 3 ≤ wj.heap.size := by rw [← h_wj]; simpa using z_wi
          have V_wj : Hid (Blk wj w.heap.size #[.int .i64 n.kind, .int .i64 n.int, .int .i64 n.scale, .string (str n.text), .slice A7 (j + 1) c7, .slice Ak k.len (j + 1)] 25) := by show Blk _ _ _ _; rw [← h_wj]; exact Blk.set V_wi.out 4 _
          have X_wj := Lib.hid (show Blk wj _ _ _ from by rw [← h_wj]; exact Blk.set_other X_wi.out 4 _ (by omega))
          have R_wj := Lib.hid (show Blk wj _ _ _ from by rw [← h_wj]; exact Blk.set_other R_wi.out 4 _ (by omega))
          have NO_wj := Lib.hid (own_blk (w' := wj) NO_wi.out (fun p hp => by rw [← h_wj]; exact Below.heap_setCell _ _ _ _ (by have := (NO_wi.out.lt p hp).1; show p ≠ w.heap.size; omega)))
          have KO_wj := Lib.hid (own_blk (w' := wj) KO_wi.out (fun p hp => by rw [← h_wj]; exact Below.heap_setCell _ _ _ _ (by have := (KO_wi.out.lt p hp).1; show p ≠ w.heap.size; omega)))
          clear h_wj B_wi V_wi X_wi R_wi NO_wi KO_wi
          have ko0 := KO_wj.out
          have D1 := KC.out wj (j + 1) hJk B_wj.out
          rw [if_pos rfl, show k.len - (j + 1) = 0 by omega] at D1
          have D2 : ∀ u ∈ xs.drop ((j + 1) * 6), u.oneCell' = true := fun u hu => HONE.out u (List.mem_of_mem_drop hu)
          have x5 : wj.cell? ⟨w.heap.size, 5, none⟩ = some (.slice Ak k.len (j + 1)) := V_wj.out.cell 5
          go_upto_region 12 with (at_builtin
                                  refine wpV_append rfl (.tmp 69) (.tmp 73) rfl (w.heap.size + 3) _ (j + 1) _ rfl ko0 w.heap.size _ 0 _ (xs.drop ((j + 1) * 6)) rfl D1 D2 (j + 1) (by omega) (by omega) z_wj ?_
                                  intro A8 c8 wk o8h g8h _ b8h _ _
                                  have y5 : wk.cell? ⟨w.heap.size, 5, none⟩ = some (.slice Ak k.len (j + 1)) := (V_wj.out.below b8h (by omega)).cell 5
                                  have f5 : wk.frozen? ⟨w.heap.size, 5, none⟩ = false := (V_wj.out.below b8h (by omega)).free 5
                                  have o8 := Lib.hid o8h; have b8 := Lib.hid b8h; have g8 := Lib.hid g8h
                                  clear o8h b8h g8h x5)
          replace o8 := o8.out
          replace b8 := b8.out
          replace g8 := g8.out
          have B_wk : Hid (Below w.heap.size w wk) := B_wj.out.trans (b8.mono (by omega))
          have z_wk : w.heap.size + 3 ≤ wk.heap.size := Nat.le_trans z_wj b8.size
          have V_wk := Lib.hid (V_wj.out.below b8 (by omega))
          have X_wk := Lib.hid (X_wj.out.below b8 (by omega))
          have R_wk := Lib.hid (R_wj.out.below b8 (by omega))
          have NO_wk := Lib.hid (own_blk NO_wj.out (fun p hp => g8.block p (NO_wj.out.lt p hp).2 (fun e => own_ne ko0 NO_wj.out (by decide) e.symm hp)))
          have KO_wk := Lib.hid o8
          clear y5 f5 ko0 D1 D2 o8 b8 g8 B_wj V_wj X_wj R_wj NO_wj KO_wj
          obtain ⟨wl, h_wl⟩ : ∃ v, wk.setCell ⟨w.heap.size, 5, none⟩ (.slice A8 (j + 1) c8) = v := ⟨_, rfl⟩
          rw [h_wl]
          have B_wl : Hid (Below w.heap.size w wl) := by show Below _ _ _; rw [← h_wl]; exact B_wk.out.setCell (Nat.le_refl _) _
          have z_wl : w.heap.size + 3 ≤ wl.heap.size := by rw [← h_wl]; simpa using z_wk
          have V_wl : Hid (Blk wl w.heap.size #[.int .i64 n.kind, .int .i64 n.int, .int .i64 n.scale, .string (str n.text), .slice A7 (j + 1) c7, .slice A8 (j + 1) c8] 25) := by show Blk _ _ _ _; rw [← h_wl]; exact Blk.set V_wk.out 5 _
          have X_wl := Lib.hid (show Blk wl _ _ _ from by rw [← h_wl]; exact Blk.set_other X_wk.out 5 _ (by omega))
          have R_wl := Lib.hid (show Blk wl _ _ _ from by rw [← h_wl]; exact Blk.set_other R_wk.out 5 _ (by omega))
          have NO_wl := Lib.hid (own_blk (w' := wl) NO_wk.out (fun p hp => by rw [← h_wl]; exact Below.heap_setCell _ _ _ _ (by have := (NO_wk.out.lt p hp).1; show p ≠ w.heap.size; omega)))
          have KO_wl := Lib.hid (own_blk (w' := wl) KO_wk.out (fun p hp => by rw [← h_wl]; exact Below.heap_setCell _ _ _ _ (by have := (KO_wk.out.lt p hp).1; show p ≠ w.heap.size; omega)))
          clear h_wl B_wk V_wk X_wk R_wk NO_wk KO_wk
          have x0 : wl.cell? ⟨w.heap.size, 0, none⟩ = some (.int .i64 n.kind) := V_wl.out.cell 0
          have r0 : wl.cell? ⟨(w.heap.size + 2), 0, none⟩ = some (.int .i64 0) := R_wl.out.cell 0
          have s0 := R_wl.out.free 0
          have x1 : wl.cell? ⟨w.heap.size, 1, none⟩ = some (.int .i64 n.int) := V_wl.out.cell 1
          have r1 : wl.cell? ⟨(w.heap.size + 2), 1, none⟩ = some (.int .i64 0) := R_wl.out.cell 1
          have s1 := R_wl.out.free 1
          have x2 : wl.cell? ⟨w.heap.size, 2, none⟩ = some (.int .i64 n.scale) := V_wl.out.cell 2
          have r2 : wl.cell? ⟨(w.heap.size + 2), 2, none⟩ = some (.int .i64 0) := R_wl.out.cell 2
          have s2 := R_wl.out.free 2
          have x3 : wl.cell? ⟨w.heap.size, 3, none⟩ = some (.string (str n.text)) := V_wl.out.cell 3
          have r3 : wl.cell? ⟨(w.heap.size + 2), 3, none⟩ = some (.string ⟨#[]⟩) := R_wl.out.cell 3
          have s3 := R_wl.out.free 3
          have x4 : wl.cell? ⟨w.heap.size, 4, none⟩ = some (.slice A7 (j + 1) c7) := V_wl.out.cell 4
          have r4 : wl.cell? ⟨(w.heap.size + 2), 4, none⟩ = some (.slice none 0 0) := R_wl.out.cell 4
          have s4 := R_wl.out.free 4
          have x5 : wl.cell? ⟨w.heap.size, 5, none⟩ = some (.slice A8 (j + 1) c8) := V_wl.out.cell 5
          have r5 : wl.cell? ⟨(w.heap.size + 2), 5, none⟩ = some (.slice none 0 0) := R_wl.out.cell 5
          have s5 := R_wl.out.free 5
          go_wp2_with fail
          obtain ⟨wz, h_wz⟩ : ∃ v, ((((((wl.setCell ⟨(w.heap.size + 2), 0, none⟩ (.int .i64 n.kind)).setCell ⟨(w.heap.size + 2), 1, none⟩ (.int .i64 n.int)).setCell ⟨(w.heap.size + 2), 2, none⟩ (.int .i64 n.scale)).setCell ⟨(w.heap.size + 2), 3, none⟩ (.string (str n.text))).setCell ⟨(w.heap.size + 2), 4, none⟩ (.slice A7 (j + 1) c7)).setCell ⟨(w.heap.size + 2), 5, none⟩ (.slice A8 (j + 1) c8)) = v := ⟨_, rfl⟩
          rw [h_wz]
          have RZ : Hid (Blk wz (w.heap.size + 2) #[.int .i64 n.kind, .int .i64 n.int, .int .i64 n.scale, .string (str n.text), .slice A7 (j + 1) c7, .slice A8 (j + 1) c8] 25) := by show Blk _ _ _ _; rw [← h_wz]; exact Blk.put6 R_wl.out
          have BZ : Hid (Below w.heap.size w wz) := by show Below _ _ _; rw [← h_wz]; exact below_six B_wl.out (by omega)
          have NO_wz := Lib.hid (own_blk (w' := wz) NO_wl.out (fun p hp => by
            have hne : p ≠ (w.heap.size + 2) := by have := (NO_wl.out.lt p hp).1; omega
            rw [← h_wz]
            repeat rw [Below.heap_setCell _ _ _ _ (by exact hne)]))
          have KO_wz := Lib.hid (own_blk (w' := wz) KO_wl.out (fun p hp => by
            have hne : p ≠ (w.heap.size + 2) := by have := (KO_wl.out.lt p hp).1; omega
            rw [← h_wz]
            repeat rw [Below.heap_setCell _ _ _ _ (by exact hne)]))
          clear h_wz x0 r0 s0 x1 r1 s1 x2 r2 s2 x3 r3 s3 x4 r4 s4 x5 r5 s5
          have r0 : wz.cell? ⟨(w.heap.size + 2), 0, none⟩ = some (.int .i64 n.kind) := RZ.out.cell 0
          have r1 : wz.cell? ⟨(w.heap.size + 2), 1, none⟩ = some (.int .i64 n.int) := RZ.out.cell 1
          have r2 : wz.cell? ⟨(w.heap.size + 2), 2, none⟩ = some (.int .i64 n.scale) := RZ.out.cell 2
          have r3 : wz.cell? ⟨(w.heap.size + 2), 3, none⟩ = some (.string (str n.text)) := RZ.out.cell 3
          have r4 : wz.cell? ⟨(w.heap.size + 2), 4, none⟩ = some (.slice A7 (j + 1) c7) := RZ.out.cell 4
          have r5 : wz.cell? ⟨(w.heap.size + 2), 5, none⟩ = some (.slice A8 (j + 1) c8) := RZ.out.cell 5
          refine bodyPost_ret (v := .agg #[.int .i64 n.kind, .int .i64 n.int, .int .i64 n.scale, .string (str n.text), .slice A7 (j + 1) c7, .slice A8 (j + 1) c8]) (by simp [results, Try.results37, go_sem, r0, r1, r2, r3, r4, r5]) rfl ?_
          rw [HE1.out, HE2.out]
          exact ⟨_, rfl, lay_fin HSS.out BZ.out HOK.out.1 hx (by omega) (by omega) HNL.out hkl HK0.out HU.out (by omega) (by omega) NO_wz.out KO_wz.out, BZ.out⟩
        · have e2' : ¬ ck = (j + 1) := fun h => e2 h.symm
          have no0 := NO_wh.out
          have D1 := NC.out wh (j + 1) (by omega) B_wh.out
          rw [if_pos rfl, show n.names.length - (j + 1) = 0 by omega] at D1
          have x4 : wh.cell? ⟨w.heap.size, 4, none⟩ = some (.slice (some ⟨g, off, none⟩) n.names.length (j + 1)) := V_wh.out.cell 4
          have hJc : n.names.length - (j + 1) ≤ 200 := by omega
          have hJn : (j + 1) ≤ n.names.length := by omega
          have hJk : (j + 1) ≤ k.len := by omega
          go_upto_region 11 with (at_builtin
                                  refine wpSg_append rfl (.tmp 62) (.tmp 66) rfl (w.heap.size + 3) _ (j + 1) _ rfl no0 w.heap.size _ 0 _ (n.names.drop (j + 1)) rfl D1 (j + 1) _ (by omega) rfl (by omega) z_wh ?_
                                  intro A7 c7 wi o7h b7h g7h
                                  have y4 : wi.cell? ⟨w.heap.size, 4, none⟩ = some (.slice (some ⟨g, off, none⟩) n.names.length (j + 1)) := (V_wh.out.below b7h (by omega)).cell 4
                                  have f4 : wi.frozen? ⟨w.heap.size, 4, none⟩ = false := (V_wh.out.below b7h (by omega)).free 4
                                  have o7 := Lib.hid o7h; have b7 := Lib.hid b7h; have g7 := Lib.hid g7h
                                  clear o7h b7h g7h x4)
          replace o7 := o7.out
          replace b7 := b7.out
          replace g7 := g7.out
          have B_wi : Hid (Below w.heap.size w wi) := B_wh.out.trans (b7.mono (by omega))
          have z_wi : w.heap.size + 3 ≤ wi.heap.size := Nat.le_trans z_wh b7.size
          have V_wi := Lib.hid (V_wh.out.below b7 (by omega))
          have X_wi := Lib.hid (X_wh.out.below b7 (by omega))
          have R_wi := Lib.hid (R_wh.out.below b7 (by omega))
          have KO_wi := Lib.hid (own_blk KO_wh.out (fun p hp => g7.block p (KO_wh.out.lt p hp).2 (fun e => own_ne no0 KO_wh.out (by decide) e.symm hp)))
          have NO_wi := Lib.hid o7
          clear y4 f4 no0 D1 o7 b7 g7 B_wh V_wh X_wh R_wh NO_wh KO_wh
          obtain ⟨wj, h_wj⟩ : ∃ v, wi.setCell ⟨w.heap.size, 4, none⟩ (.slice A7 (j + 1) c7) = v := ⟨_, rfl⟩
          rw [h_wj]
          have B_wj : Hid (Below w.heap.size w wj) := by show Below _ _ _; rw [← h_wj]; exact B_wi.out.setCell (Nat.le_refl _) _
          have z_wj : w.heap.size + 3 ≤ wj.heap.size := by rw [← h_wj]; simpa using z_wi
          have V_wj : Hid (Blk wj w.heap.size #[.int .i64 n.kind, .int .i64 n.int, .int .i64 n.scale, .string (str n.text), .slice A7 (j + 1) c7, .slice Ak k.len ck] 25) := by show Blk _ _ _ _; rw [← h_wj]; exact Blk.set V_wi.out 4 _
          have X_wj := Lib.hid (show Blk wj _ _ _ from by rw [← h_wj]; exact Blk.set_other X_wi.out 4 _ (by omega))
          have R_wj := Lib.hid (show Blk wj _ _ _ from by rw [← h_wj]; exact Blk.set_other R_wi.out 4 _ (by omega))
          have NO_wj := Lib.hid (own_blk (w' := wj) NO_wi.out (fun p hp => by rw [← h_wj]; exact Below.heap_setCell _ _ _ _ (by have := (NO_wi.out.lt p hp).1; show p ≠ w.heap.size; omega)))
          have KO_wj := Lib.hid (own_blk (w' := wj) KO_wi.out (fun p hp => by rw [← h_wj]; exact Below.heap_setCell _ _ _ _ (by have := (KO_wi.out.lt p hp).1; show p ≠ w.heap.size; omega)))
          clear h_wj B_wi V_wi X_wi R_wi NO_wi KO_wi
          have ko0 := KO_wj.out
          have D1 := KC.out wj (j + 1) hJk B_wj.out
          rw [if_neg e2'] at D1
          have D2 : ∀ u ∈ xs.drop ((j + 1) * 6), u.oneCell' = true := fun u hu => HONE.out u (List.mem_of_mem_drop hu)
          have x5 : wj.cell? ⟨w.heap.size, 5, none⟩ = some (.slice Ak k.len ck) := V_wj.out.cell 5
          go_upto_region 12 with (at_builtin
                                  refine wpV_append rfl (.tmp 69) (.tmp 73) rfl (w.heap.size + 3) _ (j + 1) _ rfl ko0 w.heap.size _ (k.len - (j + 1)) _ (xs.drop ((j + 1) * 6)) rfl D1 D2 k.len (by omega) (by omega) z_wj ?_
                                  intro A8 c8 wk o8h g8h _ b8h _ _
                                  have y5 : wk.cell? ⟨w.heap.size, 5, none⟩ = some (.slice Ak k.len ck) := (V_wj.out.below b8h (by omega)).cell 5
                                  have f5 : wk.frozen? ⟨w.heap.size, 5, none⟩ = false := (V_wj.out.below b8h (by omega)).free 5
                                  have o8 := Lib.hid o8h; have b8 := Lib.hid b8h; have g8 := Lib.hid g8h
                                  clear o8h b8h g8h x5)
          replace o8 := o8.out
          replace b8 := b8.out
          replace g8 := g8.out
          have B_wk : Hid (Below w.heap.size w wk) := B_wj.out.trans (b8.mono (by omega))
          have z_wk : w.heap.size + 3 ≤ wk.heap.size := Nat.le_trans z_wj b8.size
          have V_wk := Lib.hid (V_wj.out.below b8 (by omega))
          have X_wk := Lib.hid (X_wj.out.below b8 (by omega))
          have R_wk := Lib.hid (R_wj.out.below b8 (by omega))
          have NO_wk := Lib.hid (own_blk NO_wj.out (fun p hp => g8.block p (NO_wj.out.lt p hp).2 (fun e => own_ne ko0 NO_wj.out (by decide) e.symm hp)))
          have KO_wk := Lib.hid o8
          clear y5 f5 ko0 D1 D2 o8 b8 g8 B_wj V_wj X_wj R_wj NO_wj KO_wj
          obtain ⟨wl, h_wl⟩ : ∃ v, wk.setCell ⟨w.heap.size, 5, none⟩ (.slice A8 k.len c8) = v := ⟨_, rfl⟩
          rw [h_wl]
          have B_wl : Hid (Below w.heap.size w wl) := by show Below _ _ _; rw [← h_wl]; exact B_wk.out.setCell (Nat.le_refl _) _
          have z_wl : w.heap.size + 3 ≤ wl.heap.size := by rw [← h_wl]; simpa using z_wk
          have V_wl : Hid (Blk wl w.heap.size #[.int .i64 n.kind, .int .i64 n.int, .int .i64 n.scale, .string (str n.text), .slice A7 (j + 1) c7, .slice A8 k.len c8] 25) := by show Blk _ _ _ _; rw [← h_wl]; exact Blk.set V_wk.out 5 _
          have X_wl := Lib.hid (show Blk wl _ _ _ from by rw [← h_wl]; exact Blk.set_other X_wk.out 5 _ (by omega))
          have R_wl := Lib.hid (show Blk wl _ _ _ from by rw [← h_wl]; exact Blk.set_other R_wk.out 5 _ (by omega))
          have NO_wl := Lib.hid (own_blk (w' := wl) NO_wk.out (fun p hp => by rw [← h_wl]; exact Below.heap_setCell _ _ _ _ (by have := (NO_wk.out.lt p hp).1; show p ≠ w.heap.size; omega)))
          have KO_wl := Lib.hid (own_blk (w' := wl) KO_wk.out (fun p hp => by rw [← h_wl]; exact Below.heap_setCell _ _ _ _ (by have := (KO_wk.out.lt p hp).1; show p ≠ w.heap.size; omega)))
          clear h_wl B_wk V_wk X_wk R_wk NO_wk KO_wk
          have x0 : wl.cell? ⟨w.heap.size, 0, none⟩ = some (.int .i64 n.kind) := V_wl.out.cell 0
          have r0 : wl.cell? ⟨(w.heap.size + 2), 0, none⟩ = some (.int .i64 0) := R_wl.out.cell 0
          have s0 := R_wl.out.free 0
          have x1 : wl.cell? ⟨w.heap.size, 1, none⟩ = some (.int .i64 n.int) := V_wl.out.cell 1
          have r1 : wl.cell? ⟨(w.heap.size + 2), 1, none⟩ = some (.int .i64 0) := R_wl.out.cell 1
          have s1 := R_wl.out.free 1
          have x2 : wl.cell? ⟨w.heap.size, 2, none⟩ = some (.int .i64 n.scale) := V_wl.out.cell 2
          have r2 : wl.cell? ⟨(w.heap.size + 2), 2, none⟩ = some (.int .i64 0) := R_wl.out.cell 2
          have s2 := R_wl.out.free 2
          have x3 : wl.cell? ⟨w.heap.size, 3, none⟩ = some (.string (str n.text)) := V_wl.out.cell 3
          have r3 : wl.cell? ⟨(w.heap.size + 2), 3, none⟩ = some (.string ⟨#[]⟩) := R_wl.out.cell 3
          have s3 := R_wl.out.free 3
          have x4 : wl.cell? ⟨w.heap.size, 4, none⟩ = some (.slice A7 (j + 1) c7) := V_wl.out.cell 4
          have r4 : wl.cell? ⟨(w.heap.size + 2), 4, none⟩ = some (.slice none 0 0) := R_wl.out.cell 4
          have s4 := R_wl.out.free 4
          have x5 : wl.cell? ⟨w.heap.size, 5, none⟩ = some (.slice A8 k.len c8) := V_wl.out.cell 5
          have r5 : wl.cell? ⟨(w.heap.size + 2), 5, none⟩ = some (.slice none 0 0) := R_wl.out.cell 5
          have s5 := R_wl.out.free 5
          go_wp2_with fail
          obtain ⟨wz, h_wz⟩ : ∃ v, ((((((wl.setCell ⟨(w.heap.size + 2), 0, none⟩ (.int .i64 n.kind)).setCell ⟨(w.heap.size + 2), 1, none⟩ (.int .i64 n.int)).setCell ⟨(w.heap.size + 2), 2, none⟩ (.int .i64 n.scale)).setCell ⟨(w.heap.size + 2), 3, none⟩ (.string (str n.text))).setCell ⟨(w.heap.size + 2), 4, none⟩ (.slice A7 (j + 1) c7)).setCell ⟨(w.heap.size + 2), 5, none⟩ (.slice A8 k.len c8)) = v := ⟨_, rfl⟩
          rw [h_wz]
          have RZ : Hid (Blk wz (w.heap.size + 2) #[.int .i64 n.kind, .int .i64 n.int, .int .i64 n.scale, .string (str n.text), .slice A7 (j + 1) c7, .slice A8 k.len c8] 25) := by show Blk _ _ _ _; rw [← h_wz]; exact Blk.put6 R_wl.out
          have BZ : Hid (Below w.heap.size w wz) := by show Below _ _ _; rw [← h_wz]; exact below_six B_wl.out (by omega)
          have NO_wz := Lib.hid (own_blk (w' := wz) NO_wl.out (fun p hp => by
            have hne : p ≠ (w.heap.size + 2) := by have := (NO_wl.out.lt p hp).1; omega
            rw [← h_wz]
            repeat rw [Below.heap_setCell _ _ _ _ (by exact hne)]))
          have KO_wz := Lib.hid (own_blk (w' := wz) KO_wl.out (fun p hp => by
            have hne : p ≠ (w.heap.size + 2) := by have := (KO_wl.out.lt p hp).1; omega
            rw [← h_wz]
            repeat rw [Below.heap_setCell _ _ _ _ (by exact hne)]))
          clear h_wz x0 r0 s0 x1 r1 s1 x2 r2 s2 x3 r3 s3 x4 r4 s4 x5 r5 s5
          have r0 : wz.cell? ⟨(w.heap.size + 2), 0, none⟩ = some (.int .i64 n.kind) := RZ.out.cell 0
          have r1 : wz.cell? ⟨(w.heap.size + 2), 1, none⟩ = some (.int .i64 n.int) := RZ.out.cell 1
          have r2 : wz.cell? ⟨(w.heap.size + 2), 2, none⟩ = some (.int .i64 n.scale) := RZ.out.cell 2
          have r3 : wz.cell? ⟨(w.heap.size + 2), 3, none⟩ = some (.string (str n.text)) := RZ.out.cell 3
          have r4 : wz.cell? ⟨(w.heap.size + 2), 4, none⟩ = some (.slice A7 (j + 1) c7) := RZ.out.cell 4
          have r5 : wz.cell? ⟨(w.heap.size + 2), 5, none⟩ = some (.slice A8 k.len c8) := RZ.out.cell 5
          refine bodyPost_ret (v := .agg #[.int .i64 n.kind, .int .i64 n.int, .int .i64 n.scale, .string (str n.text), .slice A7 (j + 1) c7, .slice A8 k.len c8]) (by simp [results, Try.results37, go_sem, r0, r1, r2, r3, r4, r5]) rfl ?_
          rw [HE1.out, HE2.out]
          exact ⟨_, rfl, lay_fin HSS.out BZ.out HOK.out.1 hx (by omega) (by omega) HNL.out hkl HK0.out HU.out (by omega) (by omega) NO_wz.out KO_wz.out, BZ.out⟩
      · have e1' : ¬ cn = (j + 1) := fun h => e1 h.symm
        by_cases e2 : (j + 1) = ck
        · subst e2
          have no0 := NO_wh.out
          have D1 := NC.out wh (j + 1) (by omega) B_wh.out
          rw [if_neg e1'] at D1
          simp only [Option.map_some, add_mk] at D1
          have x4 : wh.cell? ⟨w.heap.size, 4, none⟩ = some (.slice (some ⟨g, off, none⟩) n.names.length cn) := V_wh.out.cell 4
          have hJc : n.names.length - (j + 1) ≤ 200 := by omega
          have hJn : (j + 1) ≤ n.names.length := by omega
          have hJk : (j + 1) ≤ k.len := by omega
          go_upto_region 11 with (at_builtin
                                  refine wpSg_append rfl (.tmp 62) (.tmp 66) rfl (w.heap.size + 3) _ (j + 1) _ rfl no0 w.heap.size _ (n.names.length - (j + 1)) _ (n.names.drop (j + 1)) rfl D1 n.names.length _ (by omega) rfl (by omega) z_wh ?_
                                  intro A7 c7 wi o7h b7h g7h
                                  have y4 : wi.cell? ⟨w.heap.size, 4, none⟩ = some (.slice (some ⟨g, off, none⟩) n.names.length cn) := (V_wh.out.below b7h (by omega)).cell 4
                                  have f4 : wi.frozen? ⟨w.heap.size, 4, none⟩ = false := (V_wh.out.below b7h (by omega)).free 4
                                  have o7 := Lib.hid o7h; have b7 := Lib.hid b7h; have g7 := Lib.hid g7h
                                  clear o7h b7h g7h x4)
          replace o7 := o7.out
          replace b7 := b7.out
          replace g7 := g7.out
          have B_wi : Hid (Below w.heap.size w wi) := B_wh.out.trans (b7.mono (by omega))
          have z_wi : w.heap.size + 3 ≤ wi.heap.size := Nat.le_trans z_wh b7.size
          have V_wi := Lib.hid (V_wh.out.below b7 (by omega))
          have X_wi := Lib.hid (X_wh.out.below b7 (by omega))
          have R_wi := Lib.hid (R_wh.out.below b7 (by omega))
          have KO_wi := Lib.hid (own_blk KO_wh.out (fun p hp => g7.block p (KO_wh.out.lt p hp).2 (fun e => own_ne no0 KO_wh.out (by decide) e.symm hp)))
          have NO_wi := Lib.hid o7
          clear y4 f4 no0 D1 o7 b7 g7 B_wh V_wh X_wh R_wh NO_wh KO_wh
          obtain ⟨wj, h_wj⟩ : ∃ v, wi.setCell ⟨w.heap.size, 4, none⟩ (.slice A7 n.names.length c7) = v := ⟨_, rfl⟩
          rw [h_wj]
          have B_wj : Hid (Below w.heap.size w wj) := by show Below _ _ _; rw [← h_wj]; exact B_wi.out.setCell (Nat.le_refl _) _
          have z_wj : w.heap.size + 3 ≤ wj.heap.size := by rw [← h_wj]; simpa using z_wi
          have V_wj : Hid (Blk wj w.heap.size #[.int .i64 n.kind, .int .i64 n.int, .int .i64 n.scale, .string (str n.text), .slice A7 n.names.length c7, .slice Ak k.len (j + 1)] 25) := by show Blk _ _ _ _; rw [← h_wj]; exact Blk.set V_wi.out 4 _
          have X_wj := Lib.hid (show Blk wj _ _ _ from by rw [← h_wj]; exact Blk.set_other X_wi.out 4 _ (by omega))
          have R_wj := Lib.hid (show Blk wj _ _ _ from by rw [← h_wj]; exact Blk.set_other R_wi.out 4 _ (by omega))
          have NO_wj := Lib.hid (own_blk (w' := wj) NO_wi.out (fun p hp => by rw [← h_wj]; exact Below.heap_setCell _ _ _ _ (by have := (NO_wi.out.lt p hp).1; show p ≠ w.heap.size; omega)))
          have KO_wj := Lib.hid (own_blk (w' := wj) KO_wi.out (fun p hp => by rw [← h_wj]; exact Below.heap_setCell _ _ _ _ (by have := (KO_wi.out.lt p hp).1; show p ≠ w.heap.size; omega)))
          clear h_wj B_wi V_wi X_wi R_wi NO_wi KO_wi
          have ko0 := KO_wj.out
          have D1 := KC.out wj (j + 1) hJk B_wj.out
          rw [if_pos rfl, show k.len - (j + 1) = 0 by omega] at D1
          have D2 : ∀ u ∈ xs.drop ((j + 1) * 6), u.oneCell' = true := fun u hu => HONE.out u (List.mem_of_mem_drop hu)
          have x5 : wj.cell? ⟨w.heap.size, 5, none⟩ = some (.slice Ak k.len (j + 1)) := V_wj.out.cell 5
          go_upto_region 12 with (at_builtin
                                  refine wpV_append rfl (.tmp 69) (.tmp 73) rfl (w.heap.size + 3) _ (j + 1) _ rfl ko0 w.heap.size _ 0 _ (xs.drop ((j + 1) * 6)) rfl D1 D2 (j + 1) (by omega) (by omega) z_wj ?_
                                  intro A8 c8 wk o8h g8h _ b8h _ _
                                  have y5 : wk.cell? ⟨w.heap.size, 5, none⟩ = some (.slice Ak k.len (j + 1)) := (V_wj.out.below b8h (by omega)).cell 5
                                  have f5 : wk.frozen? ⟨w.heap.size, 5, none⟩ = false := (V_wj.out.below b8h (by omega)).free 5
                                  have o8 := Lib.hid o8h; have b8 := Lib.hid b8h; have g8 := Lib.hid g8h
                                  clear o8h b8h g8h x5)
          replace o8 := o8.out
          replace b8 := b8.out
          replace g8 := g8.out
          have B_wk : Hid (Below w.heap.size w wk) := B_wj.out.trans (b8.mono (by omega))
          have z_wk : w.heap.size + 3 ≤ wk.heap.size := Nat.le_trans z_wj b8.size
          have V_wk := Lib.hid (V_wj.out.below b8 (by omega))
          have X_wk := Lib.hid (X_wj.out.below b8 (by omega))
          have R_wk := Lib.hid (R_wj.out.below b8 (by omega))
          have NO_wk := Lib.hid (own_blk NO_wj.out (fun p hp => g8.block p (NO_wj.out.lt p hp).2 (fun e => own_ne ko0 NO_wj.out (by decide) e.symm hp)))
          have KO_wk := Lib.hid o8
          clear y5 f5 ko0 D1 D2 o8 b8 g8 B_wj V_wj X_wj R_wj NO_wj KO_wj
          obtain ⟨wl, h_wl⟩ : ∃ v, wk.setCell ⟨w.heap.size, 5, none⟩ (.slice A8 (j + 1) c8) = v := ⟨_, rfl⟩
          rw [h_wl]
          have B_wl : Hid (Below w.heap.size w wl) := by show Below _ _ _; rw [← h_wl]; exact B_wk.out.setCell (Nat.le_refl _) _
          have z_wl : w.heap.size + 3 ≤ wl.heap.size := by rw [← h_wl]; simpa using z_wk
          have V_wl : Hid (Blk wl w.heap.size #[.int .i64 n.kind, .int .i64 n.int, .int .i64 n.scale, .string (str n.text), .slice A7 n.names.length c7, .slice A8 (j + 1) c8] 25) := by show Blk _ _ _ _; rw [← h_wl]; exact Blk.set V_wk.out 5 _
          have X_wl := Lib.hid (show Blk wl _ _ _ from by rw [← h_wl]; exact Blk.set_other X_wk.out 5 _ (by omega))
          have R_wl := Lib.hid (show Blk wl _ _ _ from by rw [← h_wl]; exact Blk.set_other R_wk.out 5 _ (by omega))
          have NO_wl := Lib.hid (own_blk (w' := wl) NO_wk.out (fun p hp => by rw [← h_wl]; exact Below.heap_setCell _ _ _ _ (by have := (NO_wk.out.lt p hp).1; show p ≠ w.heap.size; omega)))
          have KO_wl := Lib.hid (own_blk (w' := wl) KO_wk.out (fun p hp => by rw [← h_wl]; exact Below.heap_setCell _ _ _ _ (by have := (KO_wk.out.lt p hp).1; show p ≠ w.heap.size; omega)))
          clear h_wl B_wk V_wk X_wk R_wk NO_wk KO_wk
          have x0 : wl.cell? ⟨w.heap.size, 0, none⟩ = some (.int .i64 n.kind) := V_wl.out.cell 0
          have r0 : wl.cell? ⟨(w.heap.size + 2), 0, none⟩ = some (.int .i64 0) := R_wl.out.cell 0
          have s0 := R_wl.out.free 0
          have x1 : wl.cell? ⟨w.heap.size, 1, none⟩ = some (.int .i64 n.int) := V_wl.out.cell 1
          have r1 : wl.cell? ⟨(w.heap.size + 2), 1, none⟩ = some (.int .i64 0) := R_wl.out.cell 1
          have s1 := R_wl.out.free 1
          have x2 : wl.cell? ⟨w.heap.size, 2, none⟩ = some (.int .i64 n.scale) := V_wl.out.cell 2
          have r2 : wl.cell? ⟨(w.heap.size + 2), 2, none⟩ = some (.int .i64 0) := R_wl.out.cell 2
          have s2 := R_wl.out.free 2
          have x3 : wl.cell? ⟨w.heap.size, 3, none⟩ = some (.string (str n.text)) := V_wl.out.cell 3
          have r3 : wl.cell? ⟨(w.heap.size + 2), 3, none⟩ = some (.string ⟨#[]⟩) := R_wl.out.cell 3
          have s3 := R_wl.out.free 3
          have x4 : wl.cell? ⟨w.heap.size, 4, none⟩ = some (.slice A7 n.names.length c7) := V_wl.out.cell 4
          have r4 : wl.cell? ⟨(w.heap.size + 2), 4, none⟩ = some (.slice none 0 0) := R_wl.out.cell 4
          have s4 := R_wl.out.free 4
          have x5 : wl.cell? ⟨w.heap.size, 5, none⟩ = some (.slice A8 (j + 1) c8) := V_wl.out.cell 5
          have r5 : wl.cell? ⟨(w.heap.size + 2), 5, none⟩ = some (.slice none 0 0) := R_wl.out.cell 5
          have s5 := R_wl.out.free 5
          go_wp2_with fail
          obtain ⟨wz, h_wz⟩ : ∃ v, ((((((wl.setCell ⟨(w.heap.size + 2), 0, none⟩ (.int .i64 n.kind)).setCell ⟨(w.heap.size + 2), 1, none⟩ (.int .i64 n.int)).setCell ⟨(w.heap.size + 2), 2, none⟩ (.int .i64 n.scale)).setCell ⟨(w.heap.size + 2), 3, none⟩ (.string (str n.text))).setCell ⟨(w.heap.size + 2), 4, none⟩ (.slice A7 n.names.length c7)).setCell ⟨(w.heap.size + 2), 5, none⟩ (.slice A8 (j + 1) c8)) = v := ⟨_, rfl⟩
          rw [h_wz]
          have RZ : Hid (Blk wz (w.heap.size + 2) #[.int .i64 n.kind, .int .i64 n.int, .int .i64 n.scale, .string (str n.text), .slice A7 n.names.length c7, .slice A8 (j + 1) c8] 25) := by show Blk _ _ _ _; rw [← h_wz]; exact Blk.put6 R_wl.out
          have BZ : Hid (Below w.heap.size w wz) := by show Below _ _ _; rw [← h_wz]; exact below_six B_wl.out (by omega)
          have NO_wz := Lib.hid (own_blk (w' := wz) NO_wl.out (fun p hp => by
            have hne : p ≠ (w.heap.size + 2) := by have := (NO_wl.out.lt p hp).1; omega
            rw [← h_wz]
            repeat rw [Below.heap_setCell _ _ _ _ (by exact hne)]))
          have KO_wz := Lib.hid (own_blk (w' := wz) KO_wl.out (fun p hp => by
            have hne : p ≠ (w.heap.size + 2) := by have := (KO_wl.out.lt p hp).1; omega
            rw [← h_wz]
            repeat rw [Below.heap_setCell _ _ _ _ (by exact hne)]))
          clear h_wz x0 r0 s0 x1 r1 s1 x2 r2 s2 x3 r3 s3 x4 r4 s4 x5 r5 s5
          have r0 : wz.cell? ⟨(w.heap.size + 2), 0, none⟩ = some (.int .i64 n.kind) := RZ.out.cell 0
          have r1 : wz.cell? ⟨(w.heap.size + 2), 1, none⟩ = some (.int .i64 n.int) := RZ.out.cell 1
          have r2 : wz.cell? ⟨(w.heap.size + 2), 2, none⟩ = some (.int .i64 n.scale) := RZ.out.cell 2
          have r3 : wz.cell? ⟨(w.heap.size + 2), 3, none⟩ = some (.string (str n.text)) := RZ.out.cell 3
          have r4 : wz.cell? ⟨(w.heap.size + 2), 4, none⟩ = some (.slice A7 n.names.length c7) := RZ.out.cell 4
          have r5 : wz.cell? ⟨(w.heap.size + 2), 5, none⟩ = some (.slice A8 (j + 1) c8) := RZ.out.cell 5
          refine bodyPost_ret (v := .agg #[.int .i64 n.kind, .int .i64 n.int, .int .i64 n.scale, .string (str n.text), .slice A7 n.names.length c7, .slice A8 (j + 1) c8]) (by simp [results, Try.results37, go_sem, r0, r1, r2, r3, r4, r5]) rfl ?_
          rw [HE1.out, HE2.out]
          exact ⟨_, rfl, lay_fin HSS.out BZ.out HOK.out.1 hx (by omega) (by omega) HNL.out hkl HK0.out HU.out (by omega) (by omega) NO_wz.out KO_wz.out, BZ.out⟩
        · have e2' : ¬ ck = (j + 1) := fun h => e2 h.symm
          have no0 := NO_wh.out
          have D1 := NC.out wh (j + 1) (by omega) B_wh.out
          rw [if_neg e1'] at D1
          simp only [Option.map_some, add_mk] at D1
          have x4 : wh.cell? ⟨w.heap.size, 4, none⟩ = some (.slice (some ⟨g, off, none⟩) n.names.length cn) := V_wh.out.cell 4
          have hJc : n.names.length - (j + 1) ≤ 200 := by omega
          have hJn : (j + 1) ≤ n.names.length := by omega
          have hJk : (j + 1) ≤ k.len := by omega
          go_upto_region 11 with (at_builtin
                                  refine wpSg_append rfl (.tmp 62) (.tmp 66) rfl (w.heap.size + 3) _ (j + 1) _ rfl no0 w.heap.size _ (n.names.length - (j + 1)) _ (n.names.drop (j + 1)) rfl D1 n.names.length _ (by omega) rfl (by omega) z_wh ?_
                                  intro A7 c7 wi o7h b7h g7h
                                  have y4 : wi.cell? ⟨w.heap.size, 4, none⟩ = some (.slice (some ⟨g, off, none⟩) n.names.length cn) := (V_wh.out.below b7h (by omega)).cell 4
                                  have f4 : wi.frozen? ⟨w.heap.size, 4, none⟩ = false := (V_wh.out.below b7h (by omega)).free 4
                                  have o7 := Lib.hid o7h; have b7 := Lib.hid b7h; have g7 := Lib.hid g7h
                                  clear o7h b7h g7h x4)
          replace o7 := o7.out
          replace b7 := b7.out
          replace g7 := g7.out
          have B_wi : Hid (Below w.heap.size w wi) := B_wh.out.trans (b7.mono (by omega))
          have z_wi : w.heap.size + 3 ≤ wi.heap.size := Nat.le_trans z_wh b7.size
          have V_wi := Lib.hid (V_wh.out.below b7 (by omega))
          have X_wi := Lib.hid (X_wh.out.below b7 (by omega))
          have R_wi := Lib.hid (R_wh.out.below b7 (by omega))
          have KO_wi := Lib.hid (own_blk KO_wh.out (fun p hp => g7.block p (KO_wh.out.lt p hp).2 (fun e => own_ne no0 KO_wh.out (by decide) e.symm hp)))
          have NO_wi := Lib.hid o7
          clear y4 f4 no0 D1 o7 b7 g7 B_wh V_wh X_wh R_wh NO_wh KO_wh
          obtain ⟨wj, h_wj⟩ : ∃ v, wi.setCell ⟨w.heap.size, 4, none⟩ (.slice A7 n.names.length c7) = v := ⟨_, rfl⟩
          rw [h_wj]
          have B_wj : Hid (Below w.heap.size w wj) := by show Below _ _ _; rw [← h_wj]; exact B_wi.out.setCell (Nat.le_refl _) _
          have z_wj : w.heap.size + 3 ≤ wj.heap.size := by rw [← h_wj]; simpa using z_wi
          have V_wj : Hid (Blk wj w.heap.size #[.int .i64 n.kind, .int .i64 n.int, .int .i64 n.scale, .string (str n.text), .slice A7 n.names.length c7, .slice Ak k.len ck] 25) := by show Blk _ _ _ _; rw [← h_wj]; exact Blk.set V_wi.out 4 _
          have X_wj := Lib.hid (show Blk wj _ _ _ from by rw [← h_wj]; exact Blk.set_other X_wi.out 4 _ (by omega))
          have R_wj := Lib.hid (show Blk wj _ _ _ from by rw [← h_wj]; exact Blk.set_other R_wi.out 4 _ (by omega))
          have NO_wj := Lib.hid (own_blk (w' := wj) NO_wi.out (fun p hp => by rw [← h_wj]; exact Below.heap_setCell _ _ _ _ (by have := (NO_wi.out.lt p hp).1; show p ≠ w.heap.size; omega)))
          have KO_wj := Lib.hid (own_blk (w' := wj) KO_wi.out (fun p hp => by rw [← h_wj]; exact Below.heap_setCell _ _ _ _ (by have := (KO_wi.out.lt p hp).1; show p ≠ w.heap.size; omega)))
          clear h_wj B_wi V_wi X_wi R_wi NO_wi KO_wi
          have ko0 := KO_wj.out
          have D1 := KC.out wj (j + 1) hJk B_wj.out
          rw [if_neg e2'] at D1
          have D2 : ∀ u ∈ xs.drop ((j + 1) * 6), u.oneCell' = true := fun u hu => HONE.out u (List.mem_of_mem_drop hu)
          have x5 : wj.cell? ⟨w.heap.size, 5, none⟩ = some (.slice Ak k.len ck) := V_wj.out.cell 5
          go_upto_region 12 with (at_builtin
                                  refine wpV_append rfl (.tmp 69) (.tmp 73) rfl (w.heap.size + 3) _ (j + 1) _ rfl ko0 w.heap.size _ (k.len - (j + 1)) _ (xs.drop ((j + 1) * 6)) rfl D1 D2 k.len (by omega) (by omega) z_wj ?_
                                  intro A8 c8 wk o8h g8h _ b8h _ _
                                  have y5 : wk.cell? ⟨w.heap.size, 5, none⟩ = some (.slice Ak k.len ck) := (V_wj.out.below b8h (by omega)).cell 5
                                  have f5 : wk.frozen? ⟨w.heap.size, 5, none⟩ = false := (V_wj.out.below b8h (by omega)).free 5
                                  have o8 := Lib.hid o8h; have b8 := Lib.hid b8h; have g8 := Lib.hid g8h
                                  clear o8h b8h g8h x5)
          replace o8 := o8.out
          replace b8 := b8.out
          replace g8 := g8.out
          have B_wk : Hid (Below w.heap.size w wk) := B_wj.out.trans (b8.mono (by omega))
          have z_wk : w.heap.size + 3 ≤ wk.heap.size := Nat.le_trans z_wj b8.size
          have V_wk := Lib.hid (V_wj.out.below b8 (by omega))
          have X_wk := Lib.hid (X_wj.out.below b8 (by omega))
          have R_wk := Lib.hid (R_wj.out.below b8 (by omega))
          have NO_wk := Lib.hid (own_blk NO_wj.out (fun p hp => g8.block p (NO_wj.out.lt p hp).2 (fun e => own_ne ko0 NO_wj.out (by decide) e.symm hp)))
          have KO_wk := Lib.hid o8
          clear y5 f5 ko0 D1 D2 o8 b8 g8 B_wj V_wj X_wj R_wj NO_wj KO_wj
          obtain ⟨wl, h_wl⟩ : ∃ v, wk.setCell ⟨w.heap.size, 5, none⟩ (.slice A8 k.len c8) = v := ⟨_, rfl⟩
          rw [h_wl]
          have B_wl : Hid (Below w.heap.size w wl) := by show Below _ _ _; rw [← h_wl]; exact B_wk.out.setCell (Nat.le_refl _) _
          have z_wl : w.heap.size + 3 ≤ wl.heap.size := by rw [← h_wl]; simpa using z_wk
          have V_wl : Hid (Blk wl w.heap.size #[.int .i64 n.kind, .int .i64 n.int, .int .i64 n.scale, .string (str n.text), .slice A7 n.names.length c7, .slice A8 k.len c8] 25) := by show Blk _ _ _ _; rw [← h_wl]; exact Blk.set V_wk.out 5 _
          have X_wl := Lib.hid (show Blk wl _ _ _ from by rw [← h_wl]; exact Blk.set_other X_wk.out 5 _ (by omega))
          have R_wl := Lib.hid (show Blk wl _ _ _ from by rw [← h_wl]; exact Blk.set_other R_wk.out 5 _ (by omega))
          have NO_wl := Lib.hid (own_blk (w' := wl) NO_wk.out (fun p hp => by rw [← h_wl]; exact Below.heap_setCell _ _ _ _ (by have := (NO_wk.out.lt p hp).1; show p ≠ w.heap.size; omega)))
          have KO_wl := Lib.hid (own_blk (w' := wl) KO_wk.out (fun p hp => by rw [← h_wl]; exact Below.heap_setCell _ _ _ _ (by have := (KO_wk.out.lt p hp).1; show p ≠ w.heap.size; omega)))
          clear h_wl B_wk V_wk X_wk R_wk NO_wk KO_wk
          have x0 : wl.cell? ⟨w.heap.size, 0, none⟩ = some (.int .i64 n.kind) := V_wl.out.cell 0
          have r0 : wl.cell? ⟨(w.heap.size + 2), 0, none⟩ = some (.int .i64 0) := R_wl.out.cell 0
          have s0 := R_wl.out.free 0
          have x1 : wl.cell? ⟨w.heap.size, 1, none⟩ = some (.int .i64 n.int) := V_wl.out.cell 1
          have r1 : wl.cell? ⟨(w.heap.size + 2), 1, none⟩ = some (.int .i64 0) := R_wl.out.cell 1
          have s1 := R_wl.out.free 1
          have x2 : wl.cell? ⟨w.heap.size, 2, none⟩ = some (.int .i64 n.scale) := V_wl.out.cell 2
          have r2 : wl.cell? ⟨(w.heap.size + 2), 2, none⟩ = some (.int .i64 0) := R_wl.out.cell 2
          have s2 := R_wl.out.free 2
          have x3 : wl.cell? ⟨w.heap.size, 3, none⟩ = some (.string (str n.text)) := V_wl.out.cell 3
          have r3 : wl.cell? ⟨(w.heap.size + 2), 3, none⟩ = some (.string ⟨#[]⟩) := R_wl.out.cell 3
          have s3 := R_wl.out.free 3
          have x4 : wl.cell? ⟨w.heap.size, 4, none⟩ = some (.slice A7 n.names.length c7) := V_wl.out.cell 4
          have r4 : wl.cell? ⟨(w.heap.size + 2), 4, none⟩ = some (.slice none 0 0) := R_wl.out.cell 4
          have s4 := R_wl.out.free 4
          have x5 : wl.cell? ⟨w.heap.size, 5, none⟩ = some (.slice A8 k.len c8) := V_wl.out.cell 5
          have r5 : wl.cell? ⟨(w.heap.size + 2), 5, none⟩ = some (.slice none 0 0) := R_wl.out.cell 5
          have s5 := R_wl.out.free 5
          go_wp2_with fail
          obtain ⟨wz, h_wz⟩ : ∃ v, ((((((wl.setCell ⟨(w.heap.size + 2), 0, none⟩ (.int .i64 n.kind)).setCell ⟨(w.heap.size + 2), 1, none⟩ (.int .i64 n.int)).setCell ⟨(w.heap.size + 2), 2, none⟩ (.int .i64 n.scale)).setCell ⟨(w.heap.size + 2), 3, none⟩ (.string (str n.text))).setCell ⟨(w.heap.size + 2), 4, none⟩ (.slice A7 n.names.length c7)).setCell ⟨(w.heap.size + 2), 5, none⟩ (.slice A8 k.len c8)) = v := ⟨_, rfl⟩
          rw [h_wz]
          have RZ : Hid (Blk wz (w.heap.size + 2) #[.int .i64 n.kind, .int .i64 n.int, .int .i64 n.scale, .string (str n.text), .slice A7 n.names.length c7, .slice A8 k.len c8] 25) := by show Blk _ _ _ _; rw [← h_wz]; exact Blk.put6 R_wl.out
          have BZ : Hid (Below w.heap.size w wz) := by show Below _ _ _; rw [← h_wz]; exact below_six B_wl.out (by omega)
          have NO_wz := Lib.hid (own_blk (w' := wz) NO_wl.out (fun p hp => by
            have hne : p ≠ (w.heap.size + 2) := by have := (NO_wl.out.lt p hp).1; omega
            rw [← h_wz]
            repeat rw [Below.heap_setCell _ _ _ _ (by exact hne)]))
          have KO_wz := Lib.hid (own_blk (w' := wz) KO_wl.out (fun p hp => by
            have hne : p ≠ (w.heap.size + 2) := by have := (KO_wl.out.lt p hp).1; omega
            rw [← h_wz]
            repeat rw [Below.heap_setCell _ _ _ _ (by exact hne)]))
          clear h_wz x0 r0 s0 x1 r1 s1 x2 r2 s2 x3 r3 s3 x4 r4 s4 x5 r5 s5
          have r0 : wz.cell? ⟨(w.heap.size + 2), 0, none⟩ = some (.int .i64 n.kind) := RZ.out.cell 0
          have r1 : wz.cell? ⟨(w.heap.size + 2), 1, none⟩ = some (.int .i64 n.int) := RZ.out.cell 1
          have r2 : wz.cell? ⟨(w.heap.size + 2), 2, none⟩ = some (.int .i64 n.scale) := RZ.out.cell 2
          have r3 : wz.cell? ⟨(w.heap.size + 2), 3, none⟩ = some (.string (str n.text)) := RZ.out.cell 3
          have r4 : wz.cell? ⟨(w.heap.size + 2), 4, none⟩ = some (.slice A7 n.names.length c7) := RZ.out.cell 4
          have r5 : wz.cell? ⟨(w.heap.size + 2), 5, none⟩ = some (.slice A8 k.len c8) := RZ.out.cell 5
          refine bodyPost_ret (v := .agg #[.int .i64 n.kind, .int .i64 n.int, .int .i64 n.scale, .string (str n.text), .slice A7 n.names.length c7, .slice A8 k.len c8]) (by simp [results, Try.results37, go_sem, r0, r1, r2, r3, r4, r5]) rfl ?_
          rw [HE1.out, HE2.out]
          exact ⟨_, rfl, lay_fin HSS.out BZ.out HOK.out.1 hx (by omega) (by omega) HNL.out hkl HK0.out HU.out (by omega) (by omega) NO_wz.out KO_wz.out, BZ.out⟩
set_option maxRecDepth 100000 in
set_option maxHeartbeats 6400000 in
theorem rlay_end (n : Nd) (k : F) (m : Nd) (q : F) (v u : Value) (x : List UInt8) (w : World) (hx : x.length ≤ 500) (S : Nat → Prop) (hS : ∀ b, S b → b < w.heap.size) (hv0 : Vo w S n k v) (hu0 : Vo w S m q u) (hnl : n.names.length = k.len) (hkl : k.len ≤ 200) (hh : hitB x n.names = 0) (hin : cntB x n.names = n.names.length) :
    Calls Try.prog 37 #[v, .string (str x), u] w (RetLay S (layN n x) (layK n k x m q) w) := by
  have hv := hv0.keep (w' := w) (S' := (· < w.heap.size)) (fun _ _ => rfl) hS
  have hu := hu0.keep (w' := w) (S' := (· < w.heap.size)) (fun _ _ => rfl) hS
  obtain ⟨An, cn, Ak, ck, rfl, hok0, l0, l1, hn1, xs, hr1, hk1⟩ := hv0
  have hn0 := hn1.keep (w' := w) (S' := (· < w.heap.size)) (fun _ _ => rfl) hS
  have hr0 := hr1.keep (w' := w) (S' := (· < w.heap.size)) (fun _ _ => rfl) hS
  obtain ⟨Bn, dn, Bk, dk, rfl, hok1, l2, l3, _, _⟩ := id hu
  have HSS := Lib.hid hS
  have HN0 := Lib.hid hn0
  have HR0 := Lib.hid hr0
  have HK0 := Lib.hid hk1
  have HU := Lib.hid hu0
  have hxl := Kc.len _ _ hk1
  have HXL := Lib.hid hxl
  have ST0 := St.box_new (St.box_new (St.nil w) hv) hu
  clear hv hu hu0 hok1 l2 l3 hn0 hr0 hn1 hr1 hk1 hxl hS
  unfold ncells at *
  generalize hW1 : (w.alloc (.cells #[.int .i64 n.kind, .int .i64 n.int, .int .i64 n.scale, .string (str n.text), .slice An n.names.length cn, .slice Ak k.len ck] 25)).alloc (.cells #[.int .i64 m.kind, .int .i64 m.int, .int .i64 m.scale, .string (str m.text), .slice Bn m.names.length dn, .slice Bk q.len dk] 25) = W1
  have ST : St w [⟨w.heap.size, n, k, An, cn, Ak, ck⟩, ⟨w.heap.size + 1, m, q, Bn, dn, Bk, dk⟩] W1 := by rw [← hW1]; have := ST0; simpa using this
  clear ST0
  have hs1 : W1.heap.size = w.heap.size + 2 := by rw [← hW1]; simp
  generalize hW2 : W1.alloc (.cells #[.int .i64 0, .int .i64 0, .int .i64 0, .string ⟨#[]⟩, .slice none 0 0, .slice none 0 0] 25) = W2
  have b12 : Below W1.heap.size W1 W2 := by rw [← hW2]; exact (Below.refl _ _).alloc (Nat.le_refl _) _
  have B_W2 : Hid (Below w.heap.size w W2) := (ST.step b12).1
  have V_W2 : Hid (Blk W2 w.heap.size #[.int .i64 n.kind, .int .i64 n.int, .int .i64 n.scale, .string (str n.text), .slice An n.names.length cn, .slice Ak k.len ck] 25) := ((ST.step b12).box 0 rfl).1
  have X_W2 : Hid (Blk W2 (w.heap.size + 1) #[.int .i64 m.kind, .int .i64 m.int, .int .i64 m.scale, .string (str m.text), .slice Bn m.names.length dn, .slice Bk q.len dk] 25) := ((ST.step b12).box 1 rfl).1
  have R_W2 : Hid (Blk W2 (w.heap.size + 2) #[.int .i64 0, .int .i64 0, .int .i64 0, .string ⟨#[]⟩, .slice none 0 0, .slice none 0 0] 25) := by show Blk _ _ _ _; rw [← hs1, ← hW2]; exact Blk.new _ _ _
  have z_W2 : w.heap.size + 3 ≤ W2.heap.size := by have := R_W2.out.lt; omega
  clear b12 ST
  have HL := Lib.hid (hitB_le x n.names)
  have HE1 : Hid (layN n x = ⟨n.kind, n.int, n.scale, n.text, layL n.names (cntB x n.names) 0 x⟩) := by show _ = _; unfold layN; rw [hh]
  have HE2 : Hid (layK n k x m q = layF k (cntB x n.names) 0 m q) := by show _ = _; unfold layK; rw [hh]
  rw [hh] at HL
  have HLT := Lib.hid (cntB_lt x n.names)
  have HAT := Lib.hid (cntB_at x n.names)
  have HHIT : Hid (hitB x n.names = 0) := hh
  unfold hitB at HHIT
  obtain ⟨i, hi⟩ : ∃ i, cntB x n.names = i := ⟨_, rfl⟩
  rw [hi] at HE1 HE2 HL HLT HAT HHIT hin
  have HOK := Lib.hid (And.intro hok0 (And.intro l0 l1))
  have hl1 : n.names.length ≤ 200 := by omega
  have hil : i + 0 ≤ n.names.length := HL.out.1
  have hcn : n.names.length ≤ cn := l0.1
  have hcn2 : cn ≤ 9223372036854775807 := l0.2.1
  have hck : k.len ≤ ck := l1.1
  have hck2 : ck ≤ 9223372036854775807 := l1.2.1
  have hik : i + 0 ≤ k.len := by omega
  have ND : Hid (∀ (W : World) (j : Nat), j ≤ n.names.length → Below w.heap.size w W → Rd W w.heap.size 1 An j ((n.names.take j).map sv)) := fun W j hj hB => by
    have := Rd.take (RdS.rd (HN0.out.keep (fun b hb => hB.block b hb) (fun _ h => h))) hj
    rw [Nat.mul_one, ← List.map_take] at this
    exact this
  have NC : Hid (∀ (W : World) (j : Nat), j ≤ n.names.length → Below w.heap.size w W → Rd W w.heap.size 1 (if cn = j then An else An.map (·.add j)) (n.names.length - j) ((n.names.drop j).map sv)) := fun W j hj hB => by
    have := Rd.cut (cap := cn) (RdS.rd (HN0.out.keep (fun b hb => hB.block b hb) (fun _ h => h))) hj hcn
    rw [Nat.mul_one, ← List.map_drop] at this
    exact this
  have KD : Hid (∀ (W : World) (j : Nat), j ≤ k.len → Below w.heap.size w W → Rd W w.heap.size 6 Ak j (xs.take (j * 6))) := fun W j hj hB => Rd.take (RdS.rd (HR0.out.keep (fun b hb => hB.block b hb) (fun _ h => h))) hj
  have KC : Hid (∀ (W : World) (j : Nat), j ≤ k.len → Below w.heap.size w W → Rd W w.heap.size 6 (if ck = j then Ak else Ak.map (·.add (j * 6))) (k.len - j) (xs.drop (j * 6))) := fun W j hj hB => Rd.cut (cap := ck) (RdS.rd (HR0.out.keep (fun b hb => hB.block b hb) (fun _ h => h))) hj hck
  have HONE : Hid (∀ u ∈ xs, u.oneCell' = true) := Kc.one _ _ HK0.out
  have HI := Lib.hid hi
  have HNL := Lib.hid hnl
  clear hh hi HL HN0 HR0 l0 l1 hok0 hnl
  have HIN := Lib.hid hin
  clear hin
  have x4 : W2.cell? ⟨w.heap.size, 4, none⟩ = some (.slice An n.names.length cn) := V_W2.out.cell 4
  go_enter Try.func37, Try.ntmps37
  go_wp2_with fail
  clear hW1 hW2
  go_loopw [7] (fun s7 wr => ∃ j : Nat, s7 = .int .i64 j ∧ j ≤ i ∧ wr = W2) (fun s7 _ => i - (intOf s7).toNat)
  case atStart => exact ⟨0, rfl, Nat.zero_le _, rfl⟩
  case round =>
    obtain ⟨j, rfl, hj, rfl⟩ := hrel
    by_cases hlt : j < i
    · obtain ⟨a, ha, hax⟩ := HLT.out j hlt
      obtain ⟨g, off, u, rfl, hg, hu, hc⟩ := Rd.at_ (ND.out wr n.names.length (Nat.le_refl _) B_W2.out) (k := j) (by omega)
      have hua : u = .string (str a) := by
        rw [List.take_length, List.getElem?_map, ha] at hu
        exact (Option.some.inj hu).symm
      subst hua
      have hb1 : Op.bytesLess (str a).toList (str x).toList = true := by rw [str_toList, str_toList]; exact hax
      have hjn : (j : Int) < (n.names.length : Int) := by omega
      clear ha hax hu
      go_wp2_with fail
      go_roundw
      case rel => exact ⟨j + 1, by go_num, by omega, by first | rfl | trivial⟩
      case measure => simp [intOf]; omega
    · obtain rfl : j = i := by omega
      clear hlt hj HLT
      have hjn : ¬ (j : Int) < (n.names.length : Int) := by have := HIN.out; omega
      go_upto_region 4 with fail
      obtain ⟨wa, h_wa⟩ : ∃ v, wr.alloc (.cells #[] 9) = v := ⟨_, rfl⟩
      have b_wa : Below wr.heap.size wr wa := by rw [← h_wa]; exact (Below.refl _ _).alloc (Nat.le_refl _) _
      have T_wa : Hid (Blk wa wr.heap.size #[] 9) := by show Blk _ _ _ _; rw [← h_wa]; exact Blk.new _ _ _
      have B_wa : Hid (Below w.heap.size w wa) := B_W2.out.trans (b_wa.mono (by omega))
      have z_wa : w.heap.size + 3 ≤ wa.heap.size := Nat.le_trans z_W2 b_wa.size
      have V_wa := Lib.hid (V_W2.out.below b_wa (by omega))
      have X_wa := Lib.hid (X_W2.out.below b_wa (by omega))
      have R_wa := Lib.hid (R_W2.out.below b_wa (by omega))
      have no0 : wa.ownsRow (w.heap.size + 3) 9 1 (.slice (some ⟨wr.heap.size, 0, none⟩) 0 0) 0 (([] : List (List UInt8)).map sv) := by rw [← h_wa]; exact own_more (own_empty _ _ _) z_W2
      have y4 : wa.cell? ⟨w.heap.size, 4, none⟩ = some (.slice An n.names.length cn) := V_wa.out.cell 4
      have D1 := ND.out wa j (by omega) B_wa.out
      go_upto_region 5 with (at_builtin
                             refine wpSg_append rfl (.tmp 26) (.tmp 30) rfl (w.heap.size + 3) _ 0 [] rfl no0 w.heap.size An j cn (n.names.take j) rfl D1 j (n.names.take j) (Nat.zero_add _).symm rfl (by omega) z_wa ?_
                             intro A3 c3 wb o3h b3h g3h
                             have o3 := Lib.hid o3h; have b3 := Lib.hid b3h; have g3 := Lib.hid g3h
                             clear o3h b3h g3h)
      replace o3 := o3.out
      replace b3 := b3.out
      replace g3 := g3.out
      have B_wb : Hid (Below w.heap.size w wb) := B_wa.out.trans (b3.mono (by omega))
      have z_wb : w.heap.size + 3 ≤ wb.heap.size := Nat.le_trans z_wa b3.size
      have V_wb := Lib.hid (V_wa.out.below b3 (by omega))
      have X_wb := Lib.hid (X_wa.out.below b3 (by omega))
      have R_wb := Lib.hid (R_wa.out.below b3 (by omega))
      have NO_wb := Lib.hid o3
      clear y4 x4 no0 D1 h_wa b_wa T_wa B_wa V_wa X_wa R_wa o3 b3 g3
      obtain ⟨wc, h_wc⟩ : ∃ v, wb.alloc (.cells #[] 25) = v := ⟨_, rfl⟩
      have b_wc : Below wb.heap.size wb wc := by rw [← h_wc]; exact (Below.refl _ _).alloc (Nat.le_refl _) _
      have T_wc : Hid (Blk wc wb.heap.size #[] 25) := by show Blk _ _ _ _; rw [← h_wc]; exact Blk.new _ _ _
      have B_wc : Hid (Below w.heap.size w wc) := B_wb.out.trans (b_wc.mono (by omega))
      have z_wc : w.heap.size + 3 ≤ wc.heap.size := Nat.le_trans z_wb b_wc.size
      have V_wc := Lib.hid (V_wb.out.below b_wc (by omega))
      have X_wc := Lib.hid (X_wb.out.below b_wc (by omega))
      have R_wc := Lib.hid (R_wb.out.below b_wc (by omega))
      have NO_wc := Lib.hid (own_below NO_wb.out b_wc)
      have ko0 : wc.ownsRow (w.heap.size + 3) 25 6 (.slice (some ⟨wb.heap.size, 0, none⟩) 0 0) 0 [] := by rw [← h_wc]; exact own_more (own_empty _ _ _) z_wb
      have y5 : wc.cell? ⟨w.heap.size, 5, none⟩ = some (.slice Ak k.len ck) := V_wc.out.cell 5
      have hjk : j ≤ k.len := by omega
      have D1 := KD.out wc j hjk B_wc.out
      have D2 : ∀ u ∈ xs.take (j * 6), u.oneCell' = true := fun u hu => HONE.out u (List.mem_of_mem_take hu)
      go_upto_region 6 with (at_builtin
                             refine wpV_append rfl (.tmp 32) (.tmp 36) rfl (w.heap.size + 3) _ 0 [] rfl ko0 w.heap.size Ak j ck (xs.take (j * 6)) rfl D1 D2 j (Nat.zero_add _).symm (by omega) z_wc ?_
                             intro A4 c4 wd o4h g4h ob4h b4h _ _
                             have o4 := Lib.hid o4h; have g4 := Lib.hid g4h; have ob4 := Lib.hid ob4h; have b4 := Lib.hid b4h
                             clear o4h g4h ob4h b4h)
      replace o4 := o4.out
      replace g4 := g4.out
      replace ob4 := ob4.out
      replace b4 := b4.out
      have B_wd : Hid (Below w.heap.size w wd) := B_wc.out.trans (b4.mono (by omega))
      have z_wd : w.heap.size + 3 ≤ wd.heap.size := Nat.le_trans z_wc b4.size
      have V_wd := Lib.hid (V_wc.out.below b4 (by omega))
      have X_wd := Lib.hid (X_wc.out.below b4 (by omega))
      have R_wd := Lib.hid (R_wc.out.below b4 (by omega))
      have NO_wd := Lib.hid (own_blk NO_wc.out (fun p hp => g4.block p (NO_wc.out.lt p hp).2 (fun e => own_ne ko0 NO_wc.out (by decide) e.symm hp)))
      have KO_wd := Lib.hid o4
      clear y5 ko0 D1 D2 h_wc b_wc T_wc B_wc V_wc X_wc R_wc NO_wc o4 b4 g4 ob4 B_wb V_wb X_wb R_wb NO_wb
      obtain ⟨we, h_we⟩ : ∃ v, wd.alloc (.cells #[.string (str x)] 9) = v := ⟨_, rfl⟩
      have b_we : Below wd.heap.size wd we := by rw [← h_we]; exact (Below.refl _ _).alloc (Nat.le_refl _) _
      have T_we : Hid (Blk we wd.heap.size #[.string (str x)] 9) := by show Blk _ _ _ _; rw [← h_we]; exact Blk.new _ _ _
      have B_we : Hid (Below w.heap.size w we) := B_wd.out.trans (b_we.mono (by omega))
      have z_we : w.heap.size + 3 ≤ we.heap.size := Nat.le_trans z_wd b_we.size
      have V_we := Lib.hid (V_wd.out.below b_we (by omega))
      have X_we := Lib.hid (X_wd.out.below b_we (by omega))
      have R_we := Lib.hid (R_wd.out.below b_we (by omega))
      have NO_we := Lib.hid (own_below NO_wd.out b_we)
      have KO_we := Lib.hid (own_below KO_wd.out b_we)
      have no0 := NO_we.out
      have rd1 : Rd we (wd.heap.size + 1) 1 (some ⟨wd.heap.size, 0, none⟩) 1 (([x] : List (List UInt8)).map sv) := Rd.one wd.heap.size (sv x) 9 _ (Nat.lt_succ_self _) T_we.out
      go_upto_region 7 with (at_builtin
                             refine wpSg_append rfl (.tmp 38) (.tmp 40) rfl (w.heap.size + 3) _ j _ rfl no0 (wd.heap.size + 1) (some ⟨wd.heap.size, 0, none⟩) 1 1 [x] rfl rd1 (j + 1) _ rfl rfl (by omega) z_we ?_
                             intro A5 c5 wf o5h b5h g5h
                             have o5 := Lib.hid o5h; have b5 := Lib.hid b5h; have g5 := Lib.hid g5h
                             clear o5h b5h g5h)
      replace o5 := o5.out
      replace b5 := b5.out
      replace g5 := g5.out
      have B_wf : Hid (Below w.heap.size w wf) := B_we.out.trans (b5.mono (by omega))
      have z_wf : w.heap.size + 3 ≤ wf.heap.size := Nat.le_trans z_we b5.size
      have V_wf := Lib.hid (V_we.out.below b5 (by omega))
      have X_wf := Lib.hid (X_we.out.below b5 (by omega))
      have R_wf := Lib.hid (R_we.out.below b5 (by omega))
      have KO_wf := Lib.hid (own_blk KO_we.out (fun p hp => g5.block p (KO_we.out.lt p hp).2 (fun e => own_ne no0 KO_we.out (by decide) e.symm hp)))
      have NO_wf := Lib.hid o5
      clear no0 rd1 h_we b_we T_we B_we V_we X_we R_we NO_we KO_we o5 b5 g5 B_wd V_wd X_wd R_wd NO_wd KO_wd
      obtain ⟨wg, h_wg⟩ : ∃ v, wf.alloc (.cells #[.int .i64 m.kind, .int .i64 m.int, .int .i64 m.scale, .string (str m.text), .slice Bn m.names.length dn, .slice Bk q.len dk] 25) = v := ⟨_, rfl⟩
      have b_wg : Below wf.heap.size wf wg := by rw [← h_wg]; exact (Below.refl _ _).alloc (Nat.le_refl _) _
      have T_wg : Hid (Blk wg wf.heap.size #[.int .i64 m.kind, .int .i64 m.int, .int .i64 m.scale, .string (str m.text), .slice Bn m.names.length dn, .slice Bk q.len dk] 25) := by show Blk _ _ _ _; rw [← h_wg]; exact Blk.new _ _ _
      have B_wg : Hid (Below w.heap.size w wg) := B_wf.out.trans (b_wg.mono (by omega))
      have z_wg : w.heap.size + 3 ≤ wg.heap.size := Nat.le_trans z_wf b_wg.size
      have V_wg := Lib.hid (V_wf.out.below b_wg (by omega))
      have X_wg := Lib.hid (X_wf.out.below b_wg (by omega))
      have R_wg := Lib.hid (R_wf.out.below b_wg (by omega))
      have NO_wg := Lib.hid (own_below NO_wf.out b_wg)
      have KO_wg := Lib.hid (own_below KO_wf.out b_wg)
      have ko0 := KO_wg.out
      have x0 : wf.cell? ⟨(w.heap.size + 1), 0, none⟩ = some (.int .i64 m.kind) := X_wf.out.cell 0
      have x1 : wf.cell? ⟨(w.heap.size + 1), 1, none⟩ = some (.int .i64 m.int) := X_wf.out.cell 1
      have x2 : wf.cell? ⟨(w.heap.size + 1), 2, none⟩ = some (.int .i64 m.scale) := X_wf.out.cell 2
      have x3 : wf.cell? ⟨(w.heap.size + 1), 3, none⟩ = some (.string (str m.text)) := X_wf.out.cell 3
      have x4 : wf.cell? ⟨(w.heap.size + 1), 4, none⟩ = some (.slice Bn m.names.length dn) := X_wf.out.cell 4
      have x5 : wf.cell? ⟨(w.heap.size + 1), 5, none⟩ = some (.slice Bk q.len dk) := X_wf.out.cell 5
      have rd1 : Rd wg (wf.heap.size + 1) 6 (some ⟨wf.heap.size, 0, none⟩) 1 [.int .i64 m.kind, .int .i64 m.int, .int .i64 m.scale, .string (str m.text), .slice Bn m.names.length dn, .slice Bk q.len dk] := by rw [← h_wg]; exact Rd.elem_new wf [.int .i64 m.kind, .int .i64 m.int, .int .i64 m.scale, .string (str m.text), .slice Bn m.names.length dn, .slice Bk q.len dk] 25
      go_upto_region 8 with (at_builtin
                             refine wpV_append rfl (.tmp 42) (.tmp 44) rfl (w.heap.size + 3) _ j _ rfl ko0 (wf.heap.size + 1) (some ⟨wf.heap.size, 0, none⟩) 1 1 [.int .i64 m.kind, .int .i64 m.int, .int .i64 m.scale, .string (str m.text), .slice Bn m.names.length dn, .slice Bk q.len dk] rfl rd1 (ncells_one m Bn dn Bk q.len dk) (j + 1) rfl (by omega) z_wg ?_
                             intro A6 c6 wh o6h g6h ob6h b6h _ _
                             have o6 := Lib.hid o6h; have g6 := Lib.hid g6h; have ob6 := Lib.hid ob6h; have b6 := Lib.hid b6h
                             clear o6h g6h ob6h b6h)
      replace o6 := o6.out
      replace g6 := g6.out
      replace ob6 := ob6.out
      replace b6 := b6.out
      have B_wh : Hid (Below w.heap.size w wh) := B_wg.out.trans (b6.mono (by omega))
      have z_wh : w.heap.size + 3 ≤ wh.heap.size := Nat.le_trans z_wg b6.size
      have V_wh := Lib.hid (V_wg.out.below b6 (by omega))
      have X_wh := Lib.hid (X_wg.out.below b6 (by omega))
      have R_wh := Lib.hid (R_wg.out.below b6 (by omega))
      have NO_wh := Lib.hid (own_blk NO_wg.out (fun p hp => g6.block p (NO_wg.out.lt p hp).2 (fun e => own_ne ko0 NO_wg.out (by decide) e.symm hp)))
      have KO_wh := Lib.hid o6
      clear ko0 rd1 h_wg b_wg T_wg B_wg V_wg X_wg R_wg NO_wg KO_wg o6 b6 g6 ob6 B_wf V_wf X_wf R_wf NO_wf KO_wf x0 x1 x2 x3 x4 x5
      have y4 : wh.cell? ⟨w.heap.size, 4, none⟩ = some (.slice An n.names.length cn) := V_wh.out.cell 4
      go_upto_region 10 with fail
      clear y4
      by_cases e1 : j = cn
      · subst e1
        by_cases e2 : j = ck
        · subst e2
          have no0 := NO_wh.out
          have D1 := NC.out wh j (by omega) B_wh.out
          rw [if_pos rfl, show n.names.length - j = 0 by omega] at D1
          have x4 : wh.cell? ⟨w.heap.size, 4, none⟩ = some (.slice An n.names.length j) := V_wh.out.cell 4
          have hJc : n.names.length - j ≤ 200 := by omega
          have hJn : j ≤ n.names.length := by omega
          have hJk : j ≤ k.len := by omega
          go_upto_region 11 with (at_builtin
                                  refine wpSg_append rfl (.tmp 62) (.tmp 66) rfl (w.heap.size + 3) _ (j + 1) _ rfl no0 w.heap.size _ 0 _ (n.names.drop j) rfl D1 (j + 1) _ (by omega) rfl (by omega) z_wh ?_
                                  intro A7 c7 wi o7h b7h g7h
                                  have y4 : wi.cell? ⟨w.heap.size, 4, none⟩ = some (.slice An n.names.length j) := (V_wh.out.below b7h (by omega)).cell 4
                                  have f4 : wi.frozen? ⟨w.heap.size, 4, none⟩ = false := (V_wh.out.below b7h (by omega)).free 4
                                  have o7 := Lib.hid o7h; have b7 := Lib.hid b7h; have g7 := Lib.hid g7h
                                  clear o7h b7h g7h x4)
          replace o7 := o7.out
          replace b7 := b7.out
          replace g7 := g7.out
          have B_wi : Hid (Below w.heap.size w wi) := B_wh.out.trans (b7.mono (by omega))
          have z_wi : w.heap.size + 3 ≤ wi.heap.size := Nat.le_trans z_wh b7.size
          have V_wi := Lib.hid (V_wh.out.below b7 (by omega))
          have X_wi := Lib.hid (X_wh.out.below b7 (by omega))
          have R_wi := Lib.hid (R_wh.out.below b7 (by omega))
          have KO_wi := Lib.hid (own_blk KO_wh.out (fun p hp => g7.block p (KO_wh.out.lt p hp).2 (fun e => own_ne no0 KO_wh.out (by decide) e.symm hp)))
          have NO_wi := Lib.hid o7
          clear y4 f4 no0 D1 o7 b7 g7 B_wh V_wh X_wh R_wh NO_wh KO_wh
          obtain ⟨wj, h_wj⟩ : ∃ v, wi.setCell ⟨w.heap.size, 4, none⟩ (.slice A7 (j + 1) c7) = v := ⟨_, rfl⟩
          rw [h_wj]
          have B_wj : Hid (Below w.heap.size w wj) := by show Below _ _ _; rw [← h_wj]; exact B_wi.out.setCell (Nat.le_refl _) _
          have z_wj : w.heap.size + 3 ≤ wj.heap.size := by rw [← h_wj]; simpa using z_wi
          have V_wj : Hid (Blk wj w.heap.size #[.int .i64 n.kind, .int .i64 n.int, .int .i64 n.scale, .string (str n.text), .slice A7 (j + 1) c7, .slice Ak k.len j] 25) := by show Blk _ _ _ _; rw [← h_wj]; exact Blk.set V_wi.out 4 _
          have X_wj := Lib.hid (show Blk wj _ _ _ from by rw [← h_wj]; exact Blk.set_other X_wi.out 4 _ (by omega))
          have R_wj := Lib.hid (show Blk wj _ _ _ from by rw [← h_wj]; exact Blk.set_other R_wi.out 4 _ (by omega))
          have NO_wj := Lib.hid (own_blk (w' := wj) NO_wi.out (fun p hp => by rw [← h_wj]; exact Below.heap_setCell _ _ _ _ (by have := (NO_wi.out.lt p hp).1; show p ≠ w.heap.size; omega)))
          have KO_wj := Lib.hid (own_blk (w' := wj) KO_wi.out (fun p hp => by rw [← h_wj]; exact Below.heap_setCell _ _ _ _ (by have := (KO_wi.out.lt p hp).1; show p ≠ w.heap.size; omega)))
          clear h_wj B_wi V_wi X_wi R_wi NO_wi KO_wi
          have ko0 := KO_wj.out
          have D1 := KC.out wj j hJk B_wj.out
          rw [if_pos rfl, show k.len - j = 0 by omega] at D1
          have D2 : ∀ u ∈ xs.drop (j * 6), u.oneCell' = true := fun u hu => HONE.out u (List.mem_of_mem_drop hu)
          have x5 : wj.cell? ⟨w.heap.size, 5, none⟩ = some (.slice Ak k.len j) := V_wj.out.cell 5
          go_upto_region 12 with (at_builtin
                                  refine wpV_append rfl (.tmp 69) (.tmp 73) rfl (w.heap.size + 3) _ (j + 1) _ rfl ko0 w.heap.size _ 0 _ (xs.drop (j * 6)) rfl D1 D2 (j + 1) (by omega) (by omega) z_wj ?_
                                  intro A8 c8 wk o8h g8h _ b8h _ _
                                  have y5 : wk.cell? ⟨w.heap.size, 5, none⟩ = some (.slice Ak k.len j) := (V_wj.out.below b8h (by omega)).cell 5
                                  have f5 : wk.frozen? ⟨w.heap.size, 5, none⟩ = false := (V_wj.out.below b8h (by omega)).free 5
                                  have o8 := Lib.hid o8h; have b8 := Lib.hid b8h; have g8 := Lib.hid g8h
                                  clear o8h b8h g8h x5)
          replace o8 := o8.out
          replace b8 := b8.out
          replace g8 := g8.out
          have B_wk : Hid (Below w.heap.size w wk) := B_wj.out.trans (b8.mono (by omega))
          have z_wk : w.heap.size + 3 ≤ wk.heap.size := Nat.le_trans z_wj b8.size
          have V_wk := Lib.hid (V_wj.out.below b8 (by omega))
          have X_wk := Lib.hid (X_wj.out.below b8 (by omega))
          have R_wk := Lib.hid (R_wj.out.below b8 (by omega))
          have NO_wk := Lib.hid (own_blk NO_wj.out (fun p hp => g8.block p (NO_wj.out.lt p hp).2 (fun e => own_ne ko0 NO_wj.out (by decide) e.symm hp)))
          have KO_wk := Lib.hid o8
          clear y5 f5 ko0 D1 D2 o8 b8 g8 B_wj V_wj X_wj R_wj NO_wj KO_wj
          obtain ⟨wl, h_wl⟩ : ∃ v, wk.setCell ⟨w.heap.size, 5, none⟩ (.slice A8 (j + 1) c8) = v := ⟨_, rfl⟩
          rw [h_wl]
          have B_wl : Hid (Below w.heap.size w wl) := by show Below _ _ _; rw [← h_wl]; exact B_wk.out.setCell (Nat.le_refl _) _
          have z_wl : w.heap.size + 3 ≤ wl.heap.size := by rw [← h_wl]; simpa using z_wk
          have V_wl : Hid (Blk wl w.heap.size #[.int .i64 n.kind, .int .i64 n.int, .int .i64 n.scale, .string (str n.text), .slice A7 (j + 1) c7, .slice A8 (j + 1) c8] 25) := by show Blk _ _ _ _; rw [← h_wl]; exact Blk.set V_wk.out 5 _
          have X_wl := Lib.hid (show Blk wl _ _ _ from by rw [← h_wl]; exact Blk.set_other X_wk.out 5 _ (by omega))
          have R_wl := Lib.hid (show Blk wl _ _ _ from by rw [← h_wl]; exact Blk.set_other R_wk.out 5 _ (by omega))
          have NO_wl := Lib.hid (own_blk (w' := wl) NO_wk.out (fun p hp => by rw [← h_wl]; exact Below.heap_setCell _ _ _ _ (by have := (NO_wk.out.lt p hp).1; show p ≠ w.heap.size; omega)))
          have KO_wl := Lib.hid (own_blk (w' := wl) KO_wk.out (fun p hp => by rw [← h_wl]; exact Below.heap_setCell _ _ _ _ (by have := (KO_wk.out.lt p hp).1; show p ≠ w.heap.size; omega)))
          clear h_wl B_wk V_wk X_wk R_wk NO_wk KO_wk
          have x0 : wl.cell? ⟨w.heap.size, 0, none⟩ = some (.int .i64 n.kind) := V_wl.out.cell 0
          have r0 : wl.cell? ⟨(w.heap.size + 2), 0, none⟩ = some (.int .i64 0) := R_wl.out.cell 0
          have s0 := R_wl.out.free 0
          have x1 : wl.cell? ⟨w.heap.size, 1, none⟩ = some (.int .i64 n.int) := V_wl.out.cell 1
          have r1 : wl.cell? ⟨(w.heap.size + 2), 1, none⟩ = some (.int .i64 0) := R_wl.out.cell 1
          have s1 := R_wl.out.free 1
          have x2 : wl.cell? ⟨w.heap.size, 2, none⟩ = some (.int .i64 n.scale) := V_wl.out.cell 2
          have r2 : wl.cell? ⟨(w.heap.size + 2), 2, none⟩ = some (.int .i64 0) := R_wl.out.cell 2
          have s2 := R_wl.out.free 2
          have x3 : wl.cell? ⟨w.heap.size, 3, none⟩ = some (.string (str n.text)) := V_wl.out.cell 3
          have r3 : wl.cell? ⟨(w.heap.size + 2), 3, none⟩ = some (.string ⟨#[]⟩) := R_wl.out.cell 3
          have s3 := R_wl.out.free 3
          have x4 : wl.cell? ⟨w.heap.size, 4, none⟩ = some (.slice A7 (j + 1) c7) := V_wl.out.cell 4
          have r4 : wl.cell? ⟨(w.heap.size + 2), 4, none⟩ = some (.slice none 0 0) := R_wl.out.cell 4
          have s4 := R_wl.out.free 4
          have x5 : wl.cell? ⟨w.heap.size, 5, none⟩ = some (.slice A8 (j + 1) c8) := V_wl.out.cell 5
          have r5 : wl.cell? ⟨(w.heap.size + 2), 5, none⟩ = some (.slice none 0 0) := R_wl.out.cell 5
          have s5 := R_wl.out.free 5
          go_wp2_with fail
          obtain ⟨wz, h_wz⟩ : ∃ v, ((((((wl.setCell ⟨(w.heap.size + 2), 0, none⟩ (.int .i64 n.kind)).setCell ⟨(w.heap.size + 2), 1, none⟩ (.int .i64 n.int)).setCell ⟨(w.heap.size + 2), 2, none⟩ (.int .i64 n.scale)).setCell ⟨(w.heap.size + 2), 3, none⟩ (.string (str n.text))).setCell ⟨(w.heap.size + 2), 4, none⟩ (.slice A7 (j + 1) c7)).setCell ⟨(w.heap.size + 2), 5, none⟩ (.slice A8 (j + 1) c8)) = v := ⟨_, rfl⟩
          rw [h_wz]
          have RZ : Hid (Blk wz (w.heap.size + 2) #[.int .i64 n.kind, .int .i64 n.int, .int .i64 n.scale, .string (str n.text), .slice A7 (j + 1) c7, .slice A8 (j + 1) c8] 25) := by show Blk _ _ _ _; rw [← h_wz]; exact Blk.put6 R_wl.out
          have BZ : Hid (Below w.heap.size w wz) := by show Below _ _ _; rw [← h_wz]; exact below_six B_wl.out (by omega)
          have NO_wz := Lib.hid (own_blk (w' := wz) NO_wl.out (fun p hp => by
            have hne : p ≠ (w.heap.size + 2) := by have := (NO_wl.out.lt p hp).1; omega
            rw [← h_wz]
            repeat rw [Below.heap_setCell _ _ _ _ (by exact hne)]))
          have KO_wz := Lib.hid (own_blk (w' := wz) KO_wl.out (fun p hp => by
            have hne : p ≠ (w.heap.size + 2) := by have := (KO_wl.out.lt p hp).1; omega
            rw [← h_wz]
            repeat rw [Below.heap_setCell _ _ _ _ (by exact hne)]))
          clear h_wz x0 r0 s0 x1 r1 s1 x2 r2 s2 x3 r3 s3 x4 r4 s4 x5 r5 s5
          have r0 : wz.cell? ⟨(w.heap.size + 2), 0, none⟩ = some (.int .i64 n.kind) := RZ.out.cell 0
          have r1 : wz.cell? ⟨(w.heap.size + 2), 1, none⟩ = some (.int .i64 n.int) := RZ.out.cell 1
          have r2 : wz.cell? ⟨(w.heap.size + 2), 2, none⟩ = some (.int .i64 n.scale) := RZ.out.cell 2
          have r3 : wz.cell? ⟨(w.heap.size + 2), 3, none⟩ = some (.string (str n.text)) := RZ.out.cell 3
          have r4 : wz.cell? ⟨(w.heap.size + 2), 4, none⟩ = some (.slice A7 (j + 1) c7) := RZ.out.cell 4
          have r5 : wz.cell? ⟨(w.heap.size + 2), 5, none⟩ = some (.slice A8 (j + 1) c8) := RZ.out.cell 5
          refine bodyPost_ret (v := .agg #[.int .i64 n.kind, .int .i64 n.int, .int .i64 n.scale, .string (str n.text), .slice A7 (j + 1) c7, .slice A8 (j + 1) c8]) (by simp [results, Try.results37, go_sem, r0, r1, r2, r3, r4, r5]) rfl ?_
          rw [HE1.out, HE2.out]
          exact ⟨_, rfl, lay_fin HSS.out BZ.out HOK.out.1 hx (by omega) (by omega) HNL.out hkl HK0.out HU.out (by omega) (by omega) NO_wz.out KO_wz.out, BZ.out⟩
        · have e2' : ¬ ck = j := fun h => e2 h.symm
          have no0 := NO_wh.out
          have D1 := NC.out wh j (by omega) B_wh.out
          rw [if_pos rfl, show n.names.length - j = 0 by omega] at D1
          have x4 : wh.cell? ⟨w.heap.size, 4, none⟩ = some (.slice An n.names.length j) := V_wh.out.cell 4
          have hJc : n.names.length - j ≤ 200 := by omega
          have hJn : j ≤ n.names.length := by omega
          have hJk : j ≤ k.len := by omega
          go_upto_region 11 with (at_builtin
                                  refine wpSg_append rfl (.tmp 62) (.tmp 66) rfl (w.heap.size + 3) _ (j + 1) _ rfl no0 w.heap.size _ 0 _ (n.names.drop j) rfl D1 (j + 1) _ (by omega) rfl (by omega) z_wh ?_
                                  intro A7 c7 wi o7h b7h g7h
                                  have y4 : wi.cell? ⟨w.heap.size, 4, none⟩ = some (.slice An n.names.length j) := (V_wh.out.below b7h (by omega)).cell 4
                                  have f4 : wi.frozen? ⟨w.heap.size, 4, none⟩ = false := (V_wh.out.below b7h (by omega)).free 4
                                  have o7 := Lib.hid o7h; have b7 := Lib.hid b7h; have g7 := Lib.hid g7h
                                  clear o7h b7h g7h x4)
          replace o7 := o7.out
          replace b7 := b7.out
          replace g7 := g7.out
          have B_wi : Hid (Below w.heap.size w wi) := B_wh.out.trans (b7.mono (by omega))
          have z_wi : w.heap.size + 3 ≤ wi.heap.size := Nat.le_trans z_wh b7.size
          have V_wi := Lib.hid (V_wh.out.below b7 (by omega))
          have X_wi := Lib.hid (X_wh.out.below b7 (by omega))
          have R_wi := Lib.hid (R_wh.out.below b7 (by omega))
          have KO_wi := Lib.hid (own_blk KO_wh.out (fun p hp => g7.block p (KO_wh.out.lt p hp).2 (fun e => own_ne no0 KO_wh.out (by decide) e.symm hp)))
          have NO_wi := Lib.hid o7
          clear y4 f4 no0 D1 o7 b7 g7 B_wh V_wh X_wh R_wh NO_wh KO_wh
          obtain ⟨wj, h_wj⟩ : ∃ v, wi.setCell ⟨w.heap.size, 4, none⟩ (.slice A7 (j + 1) c7) = v := ⟨_, rfl⟩
          rw [h_wj]
          have B_wj : Hid (Below w.heap.size w wj) := by show Below _ _ _; rw [← h_wj]; exact B_wi.out.setCell (Nat.le_refl _) _
          have z_wj : w.heap.size + 3 ≤ wj.heap.size := by rw [← h_wj]; simpa using z_wi
          have V_wj : Hid (Blk wj w.heap.size #[.int .i64 n.kind, .int .i64 n.int, .int .i64 n.scale, .string (str n.text), .slice A7 (j + 1) c7, .slice Ak k.len ck] 25) := by show Blk _ _ _ _; rw [← h_wj]; exact Blk.set V_wi.out 4 _
          have X_wj := Lib.hid (show Blk wj _ _ _ from by rw [← h_wj]; exact Blk.set_other X_wi.out 4 _ (by omega))
          have R_wj := Lib.hid (show Blk wj _ _ _ from by rw [← h_wj]; exact Blk.set_other R_wi.out 4 _ (by omega))
          have NO_wj := Lib.hid (own_blk (w' := wj) NO_wi.out (fun p hp => by rw [← h_wj]; exact Below.heap_setCell _ _ _ _ (by have := (NO_wi.out.lt p hp).1; show p ≠ w.heap.size; omega)))
          have KO_wj := Lib.hid (own_blk (w' := wj) KO_wi.out (fun p hp => by rw [← h_wj]; exact Below.heap_setCell _ _ _ _ (by have := (KO_wi.out.lt p hp).1; show p ≠ w.heap.size; omega)))
          clear h_wj B_wi V_wi X_wi R_wi NO_wi KO_wi
          have ko0 := KO_wj.out
          have D1 := KC.out wj j hJk B_wj.out
          rw [if_neg e2'] at D1
          have D2 : ∀ u ∈ xs.drop (j * 6), u.oneCell' = true := fun u hu => HONE.out u (List.mem_of_mem_drop hu)
          have x5 : wj.cell? ⟨w.heap.size, 5, none⟩ = some (.slice Ak k.len ck) := V_wj.out.cell 5
          go_upto_region 12 with (at_builtin
                                  refine wpV_append rfl (.tmp 69) (.tmp 73) rfl (w.heap.size + 3) _ (j + 1) _ rfl ko0 w.heap.size _ (k.len - j) _ (xs.drop (j * 6)) rfl D1 D2 (j + 1 + (k.len - j)) (by omega) (by omega) z_wj ?_
                                  intro A8 c8 wk o8h g8h _ b8h _ _
                                  have y5 : wk.cell? ⟨w.heap.size, 5, none⟩ = some (.slice Ak k.len ck) := (V_wj.out.below b8h (by omega)).cell 5
                                  have f5 : wk.frozen? ⟨w.heap.size, 5, none⟩ = false := (V_wj.out.below b8h (by omega)).free 5
                                  have o8 := Lib.hid o8h; have b8 := Lib.hid b8h; have g8 := Lib.hid g8h
                                  clear o8h b8h g8h x5)
          replace o8 := o8.out
          replace b8 := b8.out
          replace g8 := g8.out
          have B_wk : Hid (Below w.heap.size w wk) := B_wj.out.trans (b8.mono (by omega))
          have z_wk : w.heap.size + 3 ≤ wk.heap.size := Nat.le_trans z_wj b8.size
          have V_wk := Lib.hid (V_wj.out.below b8 (by omega))
          have X_wk := Lib.hid (X_wj.out.below b8 (by omega))
          have R_wk := Lib.hid (R_wj.out.below b8 (by omega))
          have NO_wk := Lib.hid (own_blk NO_wj.out (fun p hp => g8.block p (NO_wj.out.lt p hp).2 (fun e => own_ne ko0 NO_wj.out (by decide) e.symm hp)))
          have KO_wk := Lib.hid o8
          clear y5 f5 ko0 D1 D2 o8 b8 g8 B_wj V_wj X_wj R_wj NO_wj KO_wj
          obtain ⟨wl, h_wl⟩ : ∃ v, wk.setCell ⟨w.heap.size, 5, none⟩ (.slice A8 (j + 1 + (k.len - j)) c8) = v := ⟨_, rfl⟩
          rw [h_wl]
          have B_wl : Hid (Below w.heap.size w wl) := by show Below _ _ _; rw [← h_wl]; exact B_wk.out.setCell (Nat.le_refl _) _
          have z_wl : w.heap.size + 3 ≤ wl.heap.size := by rw [← h_wl]; simpa using z_wk
          have V_wl : Hid (Blk wl w.heap.size #[.int .i64 n.kind, .int .i64 n.int, .int .i64 n.scale, .string (str n.text), .slice A7 (j + 1) c7, .slice A8 (j + 1 + (k.len - j)) c8] 25) := by show Blk _ _ _ _; rw [← h_wl]; exact Blk.set V_wk.out 5 _
          have X_wl := Lib.hid (show Blk wl _ _ _ from by rw [← h_wl]; exact Blk.set_other X_wk.out 5 _ (by omega))
          have R_wl := Lib.hid (show Blk wl _ _ _ from by rw [← h_wl]; exact Blk.set_other R_wk.out 5 _ (by omega))
          have NO_wl := Lib.hid (own_blk (w' := wl) NO_wk.out (fun p hp => by rw [← h_wl]; exact Below.heap_setCell _ _ _ _ (by have := (NO_wk.out.lt p hp).1; show p ≠ w.heap.size; omega)))
          have KO_wl := Lib.hid (own_blk (w' := wl) KO_wk.out (fun p hp => by rw [← h_wl]; exact Below.heap_setCell _ _ _ _ (by have := (KO_wk.out.lt p hp).1; show p ≠ w.heap.size; omega)))
          clear h_wl B_wk V_wk X_wk R_wk NO_wk KO_wk
          have x0 : wl.cell? ⟨w.heap.size, 0, none⟩ = some (.int .i64 n.kind) := V_wl.out.cell 0
          have r0 : wl.cell? ⟨(w.heap.size + 2), 0, none⟩ = some (.int .i64 0) := R_wl.out.cell 0
          have s0 := R_wl.out.free 0
          have x1 : wl.cell? ⟨w.heap.size, 1, none⟩ = some (.int .i64 n.int) := V_wl.out.cell 1
          have r1 : wl.cell? ⟨(w.heap.size + 2), 1, none⟩ = some (.int .i64 0) := R_wl.out.cell 1
          have s1 := R_wl.out.free 1
          have x2 : wl.cell? ⟨w.heap.size, 2, none⟩ = some (.int .i64 n.scale) := V_wl.out.cell 2
          have r2 : wl.cell? ⟨(w.heap.size + 2), 2, none⟩ = some (.int .i64 0) := R_wl.out.cell 2
          have s2 := R_wl.out.free 2
          have x3 : wl.cell? ⟨w.heap.size, 3, none⟩ = some (.string (str n.text)) := V_wl.out.cell 3
          have r3 : wl.cell? ⟨(w.heap.size + 2), 3, none⟩ = some (.string ⟨#[]⟩) := R_wl.out.cell 3
          have s3 := R_wl.out.free 3
          have x4 : wl.cell? ⟨w.heap.size, 4, none⟩ = some (.slice A7 (j + 1) c7) := V_wl.out.cell 4
          have r4 : wl.cell? ⟨(w.heap.size + 2), 4, none⟩ = some (.slice none 0 0) := R_wl.out.cell 4
          have s4 := R_wl.out.free 4
          have x5 : wl.cell? ⟨w.heap.size, 5, none⟩ = some (.slice A8 (j + 1 + (k.len - j)) c8) := V_wl.out.cell 5
          have r5 : wl.cell? ⟨(w.heap.size + 2), 5, none⟩ = some (.slice none 0 0) := R_wl.out.cell 5
          have s5 := R_wl.out.free 5
          go_wp2_with fail
          obtain ⟨wz, h_wz⟩ : ∃ v, ((((((wl.setCell ⟨(w.heap.size + 2), 0, none⟩ (.int .i64 n.kind)).setCell ⟨(w.heap.size + 2), 1, none⟩ (.int .i64 n.int)).setCell ⟨(w.heap.size + 2), 2, none⟩ (.int .i64 n.scale)).setCell ⟨(w.heap.size + 2), 3, none⟩ (.string (str n.text))).setCell ⟨(w.heap.size + 2), 4, none⟩ (.slice A7 (j + 1) c7)).setCell ⟨(w.heap.size + 2), 5, none⟩ (.slice A8 (j + 1 + (k.len - j)) c8)) = v := ⟨_, rfl⟩
          rw [h_wz]
          have RZ : Hid (Blk wz (w.heap.size + 2) #[.int .i64 n.kind, .int .i64 n.int, .int .i64 n.scale, .string (str n.text), .slice A7 (j + 1) c7, .slice A8 (j + 1 + (k.len - j)) c8] 25) := by show Blk _ _ _ _; rw [← h_wz]; exact Blk.put6 R_wl.out
          have BZ : Hid (Below w.heap.size w wz) := by show Below _ _ _; rw [← h_wz]; exact below_six B_wl.out (by omega)
          have NO_wz := Lib.hid (own_blk (w' := wz) NO_wl.out (fun p hp => by
            have hne : p ≠ (w.heap.size + 2) := by have := (NO_wl.out.lt p hp).1; omega
            rw [← h_wz]
            repeat rw [Below.heap_setCell _ _ _ _ (by exact hne)]))
          have KO_wz := Lib.hid (own_blk (w' := wz) KO_wl.out (fun p hp => by
            have hne : p ≠ (w.heap.size + 2) := by have := (KO_wl.out.lt p hp).1; omega
            rw [← h_wz]
            repeat rw [Below.heap_setCell _ _ _ _ (by exact hne)]))
          clear h_wz x0 r0 s0 x1 r1 s1 x2 r2 s2 x3 r3 s3 x4 r4 s4 x5 r5 s5
          have r0 : wz.cell? ⟨(w.heap.size + 2), 0, none⟩ = some (.int .i64 n.kind) := RZ.out.cell 0
          have r1 : wz.cell? ⟨(w.heap.size + 2), 1, none⟩ = some (.int .i64 n.int) := RZ.out.cell 1
          have r2 : wz.cell? ⟨(w.heap.size + 2), 2, none⟩ = some (.int .i64 n.scale) := RZ.out.cell 2
          have r3 : wz.cell? ⟨(w.heap.size + 2), 3, none⟩ = some (.string (str n.text)) := RZ.out.cell 3
          have r4 : wz.cell? ⟨(w.heap.size + 2), 4, none⟩ = some (.slice A7 (j + 1) c7) := RZ.out.cell 4
          have r5 : wz.cell? ⟨(w.heap.size + 2), 5, none⟩ = some (.slice A8 (j + 1 + (k.len - j)) c8) := RZ.out.cell 5
          refine bodyPost_ret (v := .agg #[.int .i64 n.kind, .int .i64 n.int, .int .i64 n.scale, .string (str n.text), .slice A7 (j + 1) c7, .slice A8 (j + 1 + (k.len - j)) c8]) (by simp [results, Try.results37, go_sem, r0, r1, r2, r3, r4, r5]) rfl ?_
          rw [HE1.out, HE2.out]
          exact ⟨_, rfl, lay_fin HSS.out BZ.out HOK.out.1 hx (by omega) (by omega) HNL.out hkl HK0.out HU.out (by omega) (by omega) NO_wz.out KO_wz.out, BZ.out⟩
      · have e1' : ¬ cn = j := fun h => e1 h.symm
        by_cases e2 : j = ck
        · subst e2
          have no0 := NO_wh.out
          have D1 := NC.out wh j (by omega) B_wh.out
          rw [if_neg e1'] at D1
          have x4 : wh.cell? ⟨w.heap.size, 4, none⟩ = some (.slice An n.names.length cn) := V_wh.out.cell 4
          have hJc : n.names.length - j ≤ 200 := by omega
          have hJn : j ≤ n.names.length := by omega
          have hJk : j ≤ k.len := by omega
          go_upto_region 11 with (at_builtin
                                  refine wpSg_append rfl (.tmp 62) (.tmp 66) rfl (w.heap.size + 3) _ (j + 1) _ rfl no0 w.heap.size _ (n.names.length - j) _ (n.names.drop j) rfl D1 (j + 1 + (n.names.length - j)) _ (by omega) rfl (by omega) z_wh ?_
                                  intro A7 c7 wi o7h b7h g7h
                                  have y4 : wi.cell? ⟨w.heap.size, 4, none⟩ = some (.slice An n.names.length cn) := (V_wh.out.below b7h (by omega)).cell 4
                                  have f4 : wi.frozen? ⟨w.heap.size, 4, none⟩ = false := (V_wh.out.below b7h (by omega)).free 4
                                  have o7 := Lib.hid o7h; have b7 := Lib.hid b7h; have g7 := Lib.hid g7h
                                  clear o7h b7h g7h x4)
          replace o7 := o7.out
          replace b7 := b7.out
          replace g7 := g7.out
          have B_wi : Hid (Below w.heap.size w wi) := B_wh.out.trans (b7.mono (by omega))
          have z_wi : w.heap.size + 3 ≤ wi.heap.size := Nat.le_trans z_wh b7.size
          have V_wi := Lib.hid (V_wh.out.below b7 (by omega))
          have X_wi := Lib.hid (X_wh.out.below b7 (by omega))
          have R_wi := Lib.hid (R_wh.out.below b7 (by omega))
          have KO_wi := Lib.hid (own_blk KO_wh.out (fun p hp => g7.block p (KO_wh.out.lt p hp).2 (fun e => own_ne no0 KO_wh.out (by decide) e.symm hp)))
          have NO_wi := Lib.hid o7
          clear y4 f4 no0 D1 o7 b7 g7 B_wh V_wh X_wh R_wh NO_wh KO_wh
          obtain ⟨wj, h_wj⟩ : ∃ v, wi.setCell ⟨w.heap.size, 4, none⟩ (.slice A7 (j + 1 + (n.names.length - j)) c7) = v := ⟨_, rfl⟩
          rw [h_wj]
          have B_wj : Hid (Below w.heap.size w wj) := by show Below _ _ _; rw [← h_wj]; exact B_wi.out.setCell (Nat.le_refl _) _
          have z_wj : w.heap.size + 3 ≤ wj.heap.size := by rw [← h_wj]; simpa using z_wi
          have V_wj : Hid (Blk wj w.heap.size #[.int .i64 n.kind, .int .i64 n.int, .int .i64 n.scale, .string (str n.text), .slice A7 (j + 1 + (n.names.length - j)) c7, .slice Ak k.len j] 25) := by show Blk _ _ _ _; rw [← h_wj]; exact Blk.set V_wi.out 4 _
          have X_wj := Lib.hid (show Blk wj _ _ _ from by rw [← h_wj]; exact Blk.set_other X_wi.out 4 _ (by omega))
          have R_wj := Lib.hid (show Blk wj _ _ _ from by rw [← h_wj]; exact Blk.set_other R_wi.out 4 _ (by omega))
          have NO_wj := Lib.hid (own_blk (w' := wj) NO_wi.out (fun p hp => by rw [← h_wj]; exact Below.heap_setCell _ _ _ _ (by have := (NO_wi.out.lt p hp).1; show p ≠ w.heap.size; omega)))
          have KO_wj := Lib.hid (own_blk (w' := wj) KO_wi.out (fun p hp => by rw [← h_wj]; exact Below.heap_setCell _ _ _ _ (by have := (KO_wi.out.lt p hp).1; show p ≠ w.heap.size; omega)))
          clear h_wj B_wi V_wi X_wi R_wi NO_wi KO_wi
          have ko0 := KO_wj.out
          have D1 := KC.out wj j hJk B_wj.out
          rw [if_pos rfl, show k.len - j = 0 by omega] at D1
          have D2 : ∀ u ∈ xs.drop (j * 6), u.oneCell' = true := fun u hu => HONE.out u (List.mem_of_mem_drop hu)
          have x5 : wj.cell? ⟨w.heap.size, 5, none⟩ = some (.slice Ak k.len j) := V_wj.out.cell 5
          go_upto_region 12 with (at_builtin
                                  refine wpV_append rfl (.tmp 69) (.tmp 73) rfl (w.heap.size + 3) _ (j + 1) _ rfl ko0 w.heap.size _ 0 _ (xs.drop (j * 6)) rfl D1 D2 (j + 1) (by omega) (by omega) z_wj ?_
                                  intro A8 c8 wk o8h g8h _ b8h _ _
                                  have y5 : wk.cell? ⟨w.heap.size, 5, none⟩ = some (.slice Ak k.len j) := (V_wj.out.below b8h (by omega)).cell 5
                                  have f5 : wk.frozen? ⟨w.heap.size, 5, none⟩ = false := (V_wj.out.below b8h (by omega)).free 5
                                  have o8 := Lib.hid o8h; have b8 := Lib.hid b8h; have g8 := Lib.hid g8h
                                  clear o8h b8h g8h x5)
          replace o8 := o8.out
          replace b8 := b8.out
          replace g8 := g8.out
          have B_wk : Hid (Below w.heap.size w wk) := B_wj.out.trans (b8.mono (by omega))
          have z_wk : w.heap.size + 3 ≤ wk.heap.size := Nat.le_trans z_wj b8.size
          have V_wk := Lib.hid (V_wj.out.below b8 (by omega))
          have X_wk := Lib.hid (X_wj.out.below b8 (by omega))
          have R_wk := Lib.hid (R_wj.out.below b8 (by omega))
          have NO_wk := Lib.hid (own_blk NO_wj.out (fun p hp => g8.block p (NO_wj.out.lt p hp).2 (fun e => own_ne ko0 NO_wj.out (by decide) e.symm hp)))
          have KO_wk := Lib.hid o8
          clear y5 f5 ko0 D1 D2 o8 b8 g8 B_wj V_wj X_wj R_wj NO_wj KO_wj
          obtain ⟨wl, h_wl⟩ : ∃ v, wk.setCell ⟨w.heap.size, 5, none⟩ (.slice A8 (j + 1) c8) = v := ⟨_, rfl⟩
          rw [h_wl]
          have B_wl : Hid (Below w.heap.size w wl) := by show Below _ _ _; rw [← h_wl]; exact B_wk.out.setCell (Nat.le_refl _) _
          have z_wl : w.heap.size + 3 ≤ wl.heap.size := by rw [← h_wl]; simpa using z_wk
          have V_wl : Hid (Blk wl w.heap.size #[.int .i64 n.kind, .int .i64 n.int, .int .i64 n.scale, .string (str n.text), .slice A7 (j + 1 + (n.names.length - j)) c7, .slice A8 (j + 1) c8] 25) := by show Blk _ _ _ _; rw [← h_wl]; exact Blk.set V_wk.out 5 _
          have X_wl := Lib.hid (show Blk wl _ _ _ from by rw [← h_wl]; exact Blk.set_other X_wk.out 5 _ (by omega))
          have R_wl := Lib.hid (show Blk wl _ _ _ from by rw [← h_wl]; exact Blk.set_other R_wk.out 5 _ (by omega))
          have NO_wl := Lib.hid (own_blk (w' := wl) NO_wk.out (fun p hp => by rw [← h_wl]; exact Below.heap_setCell _ _ _ _ (by have := (NO_wk.out.lt p hp).1; show p ≠ w.heap.size; omega)))
          have KO_wl := Lib.hid (own_blk (w' := wl) KO_wk.out (fun p hp => by rw [← h_wl]; exact Below.heap_setCell _ _ _ _ (by have := (KO_wk.out.lt p hp).1; show p ≠ w.heap.size; omega)))
          clear h_wl B_wk V_wk X_wk R_wk NO_wk KO_wk
          have x0 : wl.cell? ⟨w.heap.size, 0, none⟩ = some (.int .i64 n.kind) := V_wl.out.cell 0
          have r0 : wl.cell? ⟨(w.heap.size + 2), 0, none⟩ = some (.int .i64 0) := R_wl.out.cell 0
          have s0 := R_wl.out.free 0
          have x1 : wl.cell? ⟨w.heap.size, 1, none⟩ = some (.int .i64 n.int) := V_wl.out.cell 1
          have r1 : wl.cell? ⟨(w.heap.size + 2), 1, none⟩ = some (.int .i64 0) := R_wl.out.cell 1
          have s1 := R_wl.out.free 1
          have x2 : wl.cell? ⟨w.heap.size, 2, none⟩ = some (.int .i64 n.scale) := V_wl.out.cell 2
          have r2 : wl.cell? ⟨(w.heap.size + 2), 2, none⟩ = some (.int .i64 0) := R_wl.out.cell 2
          have s2 := R_wl.out.free 2
          have x3 : wl.cell? ⟨w.heap.size, 3, none⟩ = some (.string (str n.text)) := V_wl.out.cell 3
          have r3 : wl.cell? ⟨(w.heap.size + 2), 3, none⟩ = some (.string ⟨#[]⟩) := R_wl.out.cell 3
          have s3 := R_wl.out.free 3
          have x4 : wl.cell? ⟨w.heap.size, 4, none⟩ = some (.slice A7 (j + 1 + (n.names.length - j)) c7) := V_wl.out.cell 4
          have r4 : wl.cell? ⟨(w.heap.size + 2), 4, none⟩ = some (.slice none 0 0) := R_wl.out.cell 4
          have s4 := R_wl.out.free 4
          have x5 : wl.cell? ⟨w.heap.size, 5, none⟩ = some (.slice A8 (j + 1) c8) := V_wl.out.cell 5
          have r5 : wl.cell? ⟨(w.heap.size + 2), 5, none⟩ = some (.slice none 0 0) := R_wl.out.cell 5
          have s5 := R_wl.out.free 5
          go_wp2_with fail
          obtain ⟨wz, h_wz⟩ : ∃ v, ((((((wl.setCell ⟨(w.heap.size + 2), 0, none⟩ (.int .i64 n.kind)).setCell ⟨(w.heap.size + 2), 1, none⟩ (.int .i64 n.int)).setCell ⟨(w.heap.size + 2), 2, none⟩ (.int .i64 n.scale)).setCell ⟨(w.heap.size + 2), 3, none⟩ (.string (str n.text))).setCell ⟨(w.heap.size + 2), 4, none⟩ (.slice A7 (j + 1 + (n.names.length - j)) c7)).setCell ⟨(w.heap.size + 2), 5, none⟩ (.slice A8 (j + 1) c8)) = v := ⟨_, rfl⟩
          rw [h_wz]
          have RZ : Hid (Blk wz (w.heap.size + 2) #[.int .i64 n.kind, .int .i64 n.int, .int .i64 n.scale, .string (str n.text), .slice A7 (j + 1 + (n.names.length - j)) c7, .slice A8 (j + 1) c8] 25) := by show Blk _ _ _ _; rw [← h_wz]; exact Blk.put6 R_wl.out
          have BZ : Hid (Below w.heap.size w wz) := by show Below _ _ _; rw [← h_wz]; exact below_six B_wl.out (by omega)
          have NO_wz := Lib.hid (own_blk (w' := wz) NO_wl.out (fun p hp => by
            have hne : p ≠ (w.heap.size + 2) := by have := (NO_wl.out.lt p hp).1; omega
            rw [← h_wz]
            repeat rw [Below.heap_setCell _ _ _ _ (by exact hne)]))
          have KO_wz := Lib.hid (own_blk (w' := wz) KO_wl.out (fun p hp => by
            have hne : p ≠ (w.heap.size + 2) := by have := (KO_wl.out.lt p hp).1; omega
            rw [← h_wz]
            repeat rw [Below.heap_setCell _ _ _ _ (by exact hne)]))
          clear h_wz x0 r0 s0 x1 r1 s1 x2 r2 s2 x3 r3 s3 x4 r4 s4 x5 r5 s5
          have r0 : wz.cell? ⟨(w.heap.size + 2), 0, none⟩ = some (.int .i64 n.kind) := RZ.out.cell 0
          have r1 : wz.cell? ⟨(w.heap.size + 2), 1, none⟩ = some (.int .i64 n.int) := RZ.out.cell 1
          have r2 : wz.cell? ⟨(w.heap.size + 2), 2, none⟩ = some (.int .i64 n.scale) := RZ.out.cell 2
          have r3 : wz.cell? ⟨(w.heap.size + 2), 3, none⟩ = some (.string (str n.text)) := RZ.out.cell 3
          have r4 : wz.cell? ⟨(w.heap.size + 2), 4, none⟩ = some (.slice A7 (j + 1 + (n.names.length - j)) c7) := RZ.out.cell 4
          have r5 : wz.cell? ⟨(w.heap.size + 2), 5, none⟩ = some (.slice A8 (j + 1) c8) := RZ.out.cell 5
          refine bodyPost_ret (v := .agg #[.int .i64 n.kind, .int .i64 n.int, .int .i64 n.scale, .string (str n.text), .slice A7 (j + 1 + (n.names.length - j)) c7, .slice A8 (j + 1) c8]) (by simp [results, Try.results37, go_sem, r0, r1, r2, r3, r4, r5]) rfl ?_
          rw [HE1.out, HE2.out]
          exact ⟨_, rfl, lay_fin HSS.out BZ.out HOK.out.1 hx (by omega) (by omega) HNL.out hkl HK0.out HU.out (by omega) (by omega) NO_wz.out KO_wz.out, BZ.out⟩
        · have e2' : ¬ ck = j := fun h => e2 h.symm
          have no0 := NO_wh.out
          have D1 := NC.out wh j (by omega) B_wh.out
          rw [if_neg e1'] at D1
          have x4 : wh.cell? ⟨w.heap.size, 4, none⟩ = some (.slice An n.names.length cn) := V_wh.out.cell 4
          have hJc : n.names.length - j ≤ 200 := by omega
          have hJn : j ≤ n.names.length := by omega
          have hJk : j ≤ k.len := by omega
          go_upto_region 11 with (at_builtin
                                  refine wpSg_append rfl (.tmp 62) (.tmp 66) rfl (w.heap.size + 3) _ (j + 1) _ rfl no0 w.heap.size _ (n.names.length - j) _ (n.names.drop j) rfl D1 (j + 1 + (n.names.length - j)) _ (by omega) rfl (by omega) z_wh ?_
                                  intro A7 c7 wi o7h b7h g7h
                                  have y4 : wi.cell? ⟨w.heap.size, 4, none⟩ = some (.slice An n.names.length cn) := (V_wh.out.below b7h (by omega)).cell 4
                                  have f4 : wi.frozen? ⟨w.heap.size, 4, none⟩ = false := (V_wh.out.below b7h (by omega)).free 4
                                  have o7 := Lib.hid o7h; have b7 := Lib.hid b7h; have g7 := Lib.hid g7h
                                  clear o7h b7h g7h x4)
          replace o7 := o7.out
          replace b7 := b7.out
          replace g7 := g7.out
          have B_wi : Hid (Below w.heap.size w wi) := B_wh.out.trans (b7.mono (by omega))
          have z_wi : w.heap.size + 3 ≤ wi.heap.size := Nat.le_trans z_wh b7.size
          have V_wi := Lib.hid (V_wh.out.below b7 (by omega))
          have X_wi := Lib.hid (X_wh.out.below b7 (by omega))
          have R_wi := Lib.hid (R_wh.out.below b7 (by omega))
          have KO_wi := Lib.hid (own_blk KO_wh.out (fun p hp => g7.block p (KO_wh.out.lt p hp).2 (fun e => own_ne no0 KO_wh.out (by decide) e.symm hp)))
          have NO_wi := Lib.hid o7
          clear y4 f4 no0 D1 o7 b7 g7 B_wh V_wh X_wh R_wh NO_wh KO_wh
          obtain ⟨wj, h_wj⟩ : ∃ v, wi.setCell ⟨w.heap.size, 4, none⟩ (.slice A7 (j + 1 + (n.names.length - j)) c7) = v := ⟨_, rfl⟩
          rw [h_wj]
          have B_wj : Hid (Below w.heap.size w wj) := by show Below _ _ _; rw [← h_wj]; exact B_wi.out.setCell (Nat.le_refl _) _
          have z_wj : w.heap.size + 3 ≤ wj.heap.size := by rw [← h_wj]; simpa using z_wi
          have V_wj : Hid (Blk wj w.heap.size #[.int .i64 n.kind, .int .i64 n.int, .int .i64 n.scale, .string (str n.text), .slice A7 (j + 1 + (n.names.length - j)) c7, .slice Ak k.len ck] 25) := by show Blk _ _ _ _; rw [← h_wj]; exact Blk.set V_wi.out 4 _
          have X_wj := Lib.hid (show Blk wj _ _ _ from by rw [← h_wj]; exact Blk.set_other X_wi.out 4 _ (by omega))
          have R_wj := Lib.hid (show Blk wj _ _ _ from by rw [← h_wj]; exact Blk.set_other R_wi.out 4 _ (by omega))
          have NO_wj := Lib.hid (own_blk (w' := wj) NO_wi.out (fun p hp => by rw [← h_wj]; exact Below.heap_setCell _ _ _ _ (by have := (NO_wi.out.lt p hp).1; show p ≠ w.heap.size; omega)))
          have KO_wj := Lib.hid (own_blk (w' := wj) KO_wi.out (fun p hp => by rw [← h_wj]; exact Below.heap_setCell _ _ _ _ (by have := (KO_wi.out.lt p hp).1; show p ≠ w.heap.size; omega)))
          clear h_wj B_wi V_wi X_wi R_wi NO_wi KO_wi
          have ko0 := KO_wj.out
          have D1 := KC.out wj j hJk B_wj.out
          rw [if_neg e2'] at D1
          have D2 : ∀ u ∈ xs.drop (j * 6), u.oneCell' = true := fun u hu => HONE.out u (List.mem_of_mem_drop hu)
          have x5 : wj.cell? ⟨w.heap.size, 5, none⟩ = some (.slice Ak k.len ck) := V_wj.out.cell 5
          go_upto_region 12 with (at_builtin
                                  refine wpV_append rfl (.tmp 69) (.tmp 73) rfl (w.heap.size + 3) _ (j + 1) _ rfl ko0 w.heap.size _ (k.len - j) _ (xs.drop (j * 6)) rfl D1 D2 (j + 1 + (k.len - j)) (by omega) (by omega) z_wj ?_
                                  intro A8 c8 wk o8h g8h _ b8h _ _
                                  have y5 : wk.cell? ⟨w.heap.size, 5, none⟩ = some (.slice Ak k.len ck) := (V_wj.out.below b8h (by omega)).cell 5
                                  have f5 : wk.frozen? ⟨w.heap.size, 5, none⟩ = false := (V_wj.out.below b8h (by omega)).free 5
                                  have o8 := Lib.hid o8h; have b8 := Lib.hid b8h; have g8 := Lib.hid g8h
                                  clear o8h b8h g8h x5)
          replace o8 := o8.out
          replace b8 := b8.out
          replace g8 := g8.out
          have B_wk : Hid (Below w.heap.size w wk) := B_wj.out.trans (b8.mono (by omega))
          have z_wk : w.heap.size + 3 ≤ wk.heap.size := Nat.le_trans z_wj b8.size
          have V_wk := Lib.hid (V_wj.out.below b8 (by omega))
          have X_wk := Lib.hid (X_wj.out.below b8 (by omega))
          have R_wk := Lib.hid (R_wj.out.below b8 (by omega))
          have NO_wk := Lib.hid (own_blk NO_wj.out (fun p hp => g8.block p (NO_wj.out.lt p hp).2 (fun e => own_ne ko0 NO_wj.out (by decide) e.symm hp)))
          have KO_wk := Lib.hid o8
          clear y5 f5 ko0 D1 D2 o8 b8 g8 B_wj V_wj X_wj R_wj NO_wj KO_wj
          obtain ⟨wl, h_wl⟩ : ∃ v, wk.setCell ⟨w.heap.size, 5, none⟩ (.slice A8 (j + 1 + (k.len - j)) c8) = v := ⟨_, rfl⟩
          rw [h_wl]
          have B_wl : Hid (Below w.heap.size w wl) := by show Below _ _ _; rw [← h_wl]; exact B_wk.out.setCell (Nat.le_refl _) _
          have z_wl : w.heap.size + 3 ≤ wl.heap.size := by rw [← h_wl]; simpa using z_wk
          have V_wl : Hid (Blk wl w.heap.size #[.int .i64 n.kind, .int .i64 n.int, .int .i64 n.scale, .string (str n.text), .slice A7 (j + 1 + (n.names.length - j)) c7, .slice A8 (j + 1 + (k.len - j)) c8] 25) := by show Blk _ _ _ _; rw [← h_wl]; exact Blk.set V_wk.out 5 _
          have X_wl := Lib.hid (show Blk wl _ _ _ from by rw [← h_wl]; exact Blk.set_other X_wk.out 5 _ (by omega))
          have R_wl := Lib.hid (show Blk wl _ _ _ from by rw [← h_wl]; exact Blk.set_other R_wk.out 5 _ (by omega))
          have NO_wl := Lib.hid (own_blk (w' := wl) NO_wk.out (fun p hp => by rw [← h_wl]; exact Below.heap_setCell _ _ _ _ (by have := (NO_wk.out.lt p hp).1; show p ≠ w.heap.size; omega)))
          have KO_wl := Lib.hid (own_blk (w' := wl) KO_wk.out (fun p hp => by rw [← h_wl]; exact Below.heap_setCell _ _ _ _ (by have := (KO_wk.out.lt p hp).1; show p ≠ w.heap.size; omega)))
          clear h_wl B_wk V_wk X_wk R_wk NO_wk KO_wk
          have x0 : wl.cell? ⟨w.heap.size, 0, none⟩ = some (.int .i64 n.kind) := V_wl.out.cell 0
          have r0 : wl.cell? ⟨(w.heap.size + 2), 0, none⟩ = some (.int .i64 0) := R_wl.out.cell 0
          have s0 := R_wl.out.free 0
          have x1 : wl.cell? ⟨w.heap.size, 1, none⟩ = some (.int .i64 n.int) := V_wl.out.cell 1
          have r1 : wl.cell? ⟨(w.heap.size + 2), 1, none⟩ = some (.int .i64 0) := R_wl.out.cell 1
          have s1 := R_wl.out.free 1
          have x2 : wl.cell? ⟨w.heap.size, 2, none⟩ = some (.int .i64 n.scale) := V_wl.out.cell 2
          have r2 : wl.cell? ⟨(w.heap.size + 2), 2, none⟩ = some (.int .i64 0) := R_wl.out.cell 2
          have s2 := R_wl.out.free 2
          have x3 : wl.cell? ⟨w.heap.size, 3, none⟩ = some (.string (str n.text)) := V_wl.out.cell 3
          have r3 : wl.cell? ⟨(w.heap.size + 2), 3, none⟩ = some (.string ⟨#[]⟩) := R_wl.out.cell 3
          have s3 := R_wl.out.free 3
          have x4 : wl.cell? ⟨w.heap.size, 4, none⟩ = some (.slice A7 (j + 1 + (n.names.length - j)) c7) := V_wl.out.cell 4
          have r4 : wl.cell? ⟨(w.heap.size + 2), 4, none⟩ = some (.slice none 0 0) := R_wl.out.cell 4
          have s4 := R_wl.out.free 4
          have x5 : wl.cell? ⟨w.heap.size, 5, none⟩ = some (.slice A8 (j + 1 + (k.len - j)) c8) := V_wl.out.cell 5
          have r5 : wl.cell? ⟨(w.heap.size + 2), 5, none⟩ = some (.slice none 0 0) := R_wl.out.cell 5
          have s5 := R_wl.out.free 5
          go_wp2_with fail
          obtain ⟨wz, h_wz⟩ : ∃ v, ((((((wl.setCell ⟨(w.heap.size + 2), 0, none⟩ (.int .i64 n.kind)).setCell ⟨(w.heap.size + 2), 1, none⟩ (.int .i64 n.int)).setCell ⟨(w.heap.size + 2), 2, none⟩ (.int .i64 n.scale)).setCell ⟨(w.heap.size + 2), 3, none⟩ (.string (str n.text))).setCell ⟨(w.heap.size + 2), 4, none⟩ (.slice A7 (j + 1 + (n.names.length - j)) c7)).setCell ⟨(w.heap.size + 2), 5, none⟩ (.slice A8 (j + 1 + (k.len - j)) c8)) = v := ⟨_, rfl⟩
          rw [h_wz]
          have RZ : Hid (Blk wz (w.heap.size + 2) #[.int .i64 n.kind, .int .i64 n.int, .int .i64 n.scale, .string (str n.text), .slice A7 (j + 1 + (n.names.length - j)) c7, .slice A8 (j + 1 + (k.len - j)) c8] 25) := by show Blk _ _ _ _; rw [← h_wz]; exact Blk.put6 R_wl.out
          have BZ : Hid (Below w.heap.size w wz) := by show Below _ _ _; rw [← h_wz]; exact below_six B_wl.out (by omega)
          have NO_wz := Lib.hid (own_blk (w' := wz) NO_wl.out (fun p hp => by
            have hne : p ≠ (w.heap.size + 2) := by have := (NO_wl.out.lt p hp).1; omega
            rw [← h_wz]
            repeat rw [Below.heap_setCell _ _ _ _ (by exact hne)]))
          have KO_wz := Lib.hid (own_blk (w' := wz) KO_wl.out (fun p hp => by
            have hne : p ≠ (w.heap.size + 2) := by have := (KO_wl.out.lt p hp).1; omega
            rw [← h_wz]
            repeat rw [Below.heap_setCell _ _ _ _ (by exact hne)]))
          clear h_wz x0 r0 s0 x1 r1 s1 x2 r2 s2 x3 r3 s3 x4 r4 s4 x5 r5 s5
          have r0 : wz.cell? ⟨(w.heap.size + 2), 0, none⟩ = some (.int .i64 n.kind) := RZ.out.cell 0
          have r1 : wz.cell? ⟨(w.heap.size + 2), 1, none⟩ = some (.int .i64 n.int) := RZ.out.cell 1
          have r2 : wz.cell? ⟨(w.heap.size + 2), 2, none⟩ = some (.int .i64 n.scale) := RZ.out.cell 2
          have r3 : wz.cell? ⟨(w.heap.size + 2), 3, none⟩ = some (.string (str n.text)) := RZ.out.cell 3
          have r4 : wz.cell? ⟨(w.heap.size + 2), 4, none⟩ = some (.slice A7 (j + 1 + (n.names.length - j)) c7) := RZ.out.cell 4
          have r5 : wz.cell? ⟨(w.heap.size + 2), 5, none⟩ = some (.slice A8 (j + 1 + (k.len - j)) c8) := RZ.out.cell 5
          refine bodyPost_ret (v := .agg #[.int .i64 n.kind, .int .i64 n.int, .int .i64 n.scale, .string (str n.text), .slice A7 (j + 1 + (n.names.length - j)) c7, .slice A8 (j + 1 + (k.len - j)) c8]) (by simp [results, Try.results37, go_sem, r0, r1, r2, r3, r4, r5]) rfl ?_
          rw [HE1.out, HE2.out]
          exact ⟨_, rfl, lay_fin HSS.out BZ.out HOK.out.1 hx (by omega) (by omega) HNL.out hkl HK0.out HU.out (by omega) (by omega) NO_wz.out KO_wz.out, BZ.out⟩
end Go.Proofs.Ytfcbcbpnlnkpcaa
