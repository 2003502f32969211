/- value.shape of every kind; value.check, value.Check: 'chk'. -/
import Derived.Test.YtfcbcbpnlnkpcaaQBase
import Derived.Test.YtfcbcbpnlnkpcaaQShape
namespace Go.Proofs.Ytfcbcbpnlnkpcaa
set_option linter.all false
open Go.RowKit
theorem shape_any (n : Nd) (kl : Nat) (An Ak : Option Addr) (cn ck : Nat) (w : World) (hok : n.ok)
    (hn : okl n.names.length cn) (hkl : okl kl ck) (hr : Rd w w.heap.size 1 An n.names.length (n.names.map sv)) :
    Calls Try.prog 38 #[.agg (ncells n An cn Ak kl ck).toArray] w (Ret (.int .i64 (nerr n kl : Int)) w) := by
  by_cases h1 : n.kind = 1
  · exact shape_k1 n kl An Ak cn ck w hok hn hkl hr h1
  by_cases h2 : n.kind = 2
  · exact shape_k2 n kl An Ak cn ck w hok hn hkl hr h2
  by_cases h3 : n.kind = 3
  · exact shape_k3 n kl An Ak cn ck w hok hn hkl hr h3
  by_cases h4 : n.kind = 4
  · exact shape_k4 n kl An Ak cn ck w hok hn hkl hr h4
  by_cases h5 : n.kind = 5
  · exact shape_k5 n kl An Ak cn ck w hok hn hkl hr h5
  by_cases h6 : n.kind = 6
  · exact shape_k6 n kl An Ak cn ck w hok hn hkl hr h6
  by_cases h7 : n.kind = 7
  · exact shape_k7 n kl An Ak cn ck w hok hn hkl hr h7
  by_cases h8 : n.kind = 8
  · exact shape_k8 n kl An Ak cn ck w hok hn hkl hr h8
  by_cases h9 : n.kind = 9
  · exact shape_k9 n kl An Ak cn ck w hok hn hkl hr h9
  exact shape_k0 n kl An Ak cn ck w hok hn hkl hr (fun c c1 c9 e => by omega)

/-- What value.check says of a node. -/
def ChkC (n : Nd) (k : F) : Prop := ∀ (d : Nat) (v : Value) (w : World), d ≤ 17 → Vo w (· < w.heap.size) n k v →
    Calls Try.prog 27 #[v, .int .i64 (d : Int)] w (Ret (.int .i64 (chk n k d : Int)) w)
set_option maxRecDepth 100000 in
set_option maxHeartbeats 1600000 in
theorem chk_any (n : Nd) (k : F) : ChkC n k := by
  refine F.node (C := ChkC) ?_ n k
  clear n k
  intro n k ih d v w hd hv
  obtain ⟨An, cn, Ak, ck, rfl, hok, h1, h2, hn, hk⟩ := hv
  have hsh := shape_any n k.len An Ak cn ck (boxw w n An cn Ak k.len ck) hok h1 h2 ((Rd.below (RdS.rd hn) (boxw_below w n An cn Ak k.len ck)).more (by rw [boxw_size]; omega))
  have HSH := Lib.hid hsh
  have hbx := boxw_eq w n An cn Ak k.len ck
  have hb0 := boxw_below w n An cn Ak k.len ck
  have hz0 := boxw_size w n An cn Ak k.len ck
  have hs6 := boxw_six w n An cn Ak k.len ck
  have IH : Hid (∀ i m j, k.get i = some (m, j) → ChkC m j) := ih
  have hchk : Hid (chk n k d = if 16 < d then 9 else if nerr n k.len ≠ 0 then nerr n k.len else chkF k (d + 1)) := rfl
  generalize hC : chk n k d = C at *
  clear hC hsh ih
  generalize nerr n k.len = E at *
  obtain ⟨hk1, hk2⟩ := h2
  clear hn h1 hok
  unfold ncells at *
  by_cases h16 : 16 < d
  · have HC : Hid (C = 9) := by show C = 9; rw [hchk.out, if_pos h16]
    clear hchk
    go_enter Try.func27, Try.ntmps27
    go_wp2_with fail
    go_ret
    exact ⟨ret_int (by rw [HC.out]; rfl), hb0⟩
  · go_enter Try.func27, Try.ntmps27
    have HS6 := Lib.hid hs6
    obtain ⟨x0, x1, x2, x3, x4, x5⟩ := hs6
    go_wp2_with fail
    refine (unhide HSH).mono ?_
    rintro e w1 ⟨rfl, b1⟩
    have hs1 : Six0 w1 w.heap.size n An cn Ak k.len ck := (unhide HS6).below b1 (by omega)
    have hb1 := hb0.trans (b1.mono (by omega))
    obtain ⟨_, _, _, _, _, c5⟩ := hs1
    by_cases hE : E = 0
    · have HC : Hid (C = chkF (k.drop 0) (d + 1)) := by show _ = _; rw [hchk.out, if_neg h16, if_neg (by simpa using hE)]; cases k <;> rfl
      have q0 : ((E : Int) != 0) = false := by simp [hE]
      clear hE hchk HSH
      go_wp2_with fail
      go_loopw [19, 8] (fun s19 _ wr => ∃ j : Nat, j ≤ k.len ∧ s19 = .int .i64 j ∧ Hid (C = chkF (k.drop j) (d + 1)) ∧ Below w.heap.size w wr) (fun s19 _ _ => k.len - (intOf s19).toNat)
      case atStart => exact ⟨0, Nat.zero_le _, rfl, HC.out, hb1⟩
      case round =>
        obtain ⟨j, hj, rfl, HJ, hb⟩ := hrel
        by_cases hlt : j < k.len
        · obtain ⟨m, q, hg⟩ := F.get_lt k j hlt
          obtain ⟨g, off, Bn, dn, Bk, dk, rfl, hS, ⟨z0, z1, z2, z3, z4, z5⟩, hvk⟩ := (hk.keep (w' := wr) (S' := (· < w.heap.size)) (fun b hbb => hb.block b hbb) (fun _ h => h)).at_ hg hlt
          have hd := HJ.out.trans (chkF_drop hg (d + 1))
          have HD := Lib.hid hd
          have HI : Hid (ChkC m q) := IH.out j m q hg
          have hg2 := boxw_eq wr m Bn dn Bk q.len dk
          have hgb := boxw_below wr m Bn dn Bk q.len dk
          have hgz := boxw_size wr m Bn dn Bk q.len dk
          obtain ⟨y0, y1, y2, y3, y4, y5⟩ := boxw_six wr m Bn dn Bk q.len dk
          have hv2 : Vo (boxw wr m Bn dn Bk q.len dk) (· < (boxw wr m Bn dn Bk q.len dk).heap.size) m q (.agg (ncells m Bn dn Bk q.len dk).toArray) :=
            (hvk.keep (w' := boxw wr m Bn dn Bk q.len dk) (S' := (· < (boxw wr m Bn dn Bk q.len dk).heap.size)) (fun b hbb => hgb.block b (Nat.lt_of_lt_of_le hbb hb.size)) (fun b hbb => by have := hb.size; have : b < w.heap.size := hbb; omega))
          have HV := Lib.hid hv2
          have hi2 : ((d : Int) + 1) = ((d + 1 : Nat) : Int) := by omega
          have HI2 := Lib.hid hi2
          clear hd hv2 hvk HJ hi2
          go_wp2_with fail
          rw [HI2.out]
          refine ((unhide HI) (d + 1) _ _ (by omega) HV.out).mono ?_
          rintro e w2 ⟨rfl, b2⟩
          generalize chk m q (d + 1) = R at *
          have hb2 := (hb.trans (hgb.mono hb.size)).trans (b2.mono (by have := hb.size; omega))
          by_cases hR : R = 0
          · have HN : Hid (C = chkF (k.drop (j + 1)) (d + 1)) := by show _ = _; rw [HD.out, if_neg (by simpa using hR)]
            have q1 : ((R : Int) != 0) = false := by simp [hR]
            clear hR HD HV
            go_wp2_with fail
            go_roundw
            case rel => exact ⟨j + 1, by omega, by go_num, HN.out, hb2⟩
            case measure => simp [intOf]; omega
          · have HN : Hid (C = R) := by show _ = _; rw [HD.out, if_pos (by simpa using hR)]
            have q1 : ((R : Int) != 0) = true := by simp [hR]
            clear hR HD HV
            go_wp2_with fail
            go_ret
            exact ⟨ret_int (by rw [HN.out]), hb2⟩
        · have HN : Hid (C = 0) := by
            show _ = _
            rw [HJ.out, F.drop_len k j (by omega)]; rfl
          go_wp2_with fail
          go_ret
          exact ⟨ret_int (by rw [HN.out]; rfl), hb⟩
    · have HC : Hid (C = E) := by show _ = _; rw [hchk.out, if_neg h16, if_pos hE]
      have q0 : ((E : Int) != 0) = true := by simp [hE]
      clear hE hchk HSH
      go_wp2_with fail
      go_ret
      exact ⟨ret_int (by rw [HC.out]), hb1⟩

theorem Check_any (n : Nd) (k : F) (v : Value) (w : World) (hv : Vo w (· < w.heap.size) n k v) :
    Calls Try.prog 11 #[v] w (Ret (.int .i64 (chk n k 1 : Int)) w) := by
  have hc : Hid (∀ (v : Value) (w : World), Vo w (· < w.heap.size) n k v → Calls Try.prog 27 #[v, .int .i64 ((1 : Nat) : Int)] w (Ret (.int .i64 (chk n k 1 : Int)) w)) := fun v w h => chk_any n k 1 v w (by omega) h
  have hv0 := hv
  obtain ⟨An, cn, Ak, ck, rfl, _, _, _, _, _⟩ := hv
  have hb := boxw_eq w n An cn Ak k.len ck
  have hb0 := boxw_below w n An cn Ak k.len ck
  obtain ⟨x0, x1, x2, x3, x4, x5⟩ := boxw_six w n An cn Ak k.len ck
  have HV := Lib.hid (hv0.upto hb0)
  clear hv0
  generalize chk n k 1 = C at *
  unfold ncells at *
  go_enter Try.func11, Try.ntmps11
  go_wp2_with fail
  refine ((unhide hc) _ _ HV.out).mono ?_
  rintro e w1 ⟨rfl, b1⟩
  go_wp2_with fail
  go_ret
  exact ⟨rfl, bseq hb0 b1⟩
end Go.Proofs.Ytfcbcbpnlnkpcaa
