/- scrivenerref5.Field. -/
import Derived.Test.YtfcbcbpnlnkpcaaQField
namespace Go.Proofs.Ytfcbcbpnlnkpcaa
set_option linter.all false
open Go.RowKit
theorem w64n {j : Nat} (h : j ≤ 8796093021952) : wrap64 ((j : Int) + 1) = (j : Int) + 1 := by unfold wrap64; omega
set_option maxRecDepth 100000 in
set_option maxHeartbeats 3200000 in
theorem rfield_any (n : Nd) (k : F) (v : Value) (x : List UInt8) (w : World) (hw : cost n + wtF k ≤ 2500) (hv : Vo w (· < w.heap.size) n k v) :
    Calls Try.prog 20 #[v, .string (str x)] w (RetF (fieldV n k x) w) := by
  obtain ⟨An, cn, Ak, ck, rfl, hok, h1, h2, hn, hk⟩ := hv
  have HB : Hid (Below w.heap.size w ((boxw w n An cn Ak k.len ck).alloc (.cells #[.int .i64 0, .int .i64 0, .int .i64 0, .string ⟨#[]⟩, .slice none 0 0, .slice none 0 0] 25))) := (boxw_below w n An cn Ak k.len ck).alloc (by rw [boxw_size]; omega) _
  have K0 : Hid (Blk ((boxw w n An cn Ak k.len ck).alloc (.cells #[.int .i64 0, .int .i64 0, .int .i64 0, .string ⟨#[]⟩, .slice none 0 0, .slice none 0 0] 25)) w.heap.size (ncells n An cn Ak k.len ck).toArray 25) := (boxw_blk w n An cn Ak k.len ck).alloc _
  have R0 : Hid (Blk ((boxw w n An cn Ak k.len ck).alloc (.cells #[.int .i64 0, .int .i64 0, .int .i64 0, .string ⟨#[]⟩, .slice none 0 0, .slice none 0 0] 25)) (w.heap.size + 1) #[.int .i64 0, .int .i64 0, .int .i64 0, .string ⟨#[]⟩, .slice none 0 0, .slice none 0 0] 25) := by
    have := Blk.new (boxw w n An cn Ak k.len ck) #[.int .i64 0, .int .i64 0, .int .i64 0, .string ⟨#[]⟩, .slice none 0 0, .slice none 0 0] 25
    rw [boxw_size] at this
    exact this
  have hbx := boxw_eq w n An cn Ak k.len ck
  have hbs := boxw_size w n An cn Ak k.len ck
  generalize hW : (boxw w n An cn Ak k.len ck).alloc (.cells #[.int .i64 0, .int .i64 0, .int .i64 0, .string ⟨#[]⟩, .slice none 0 0, .slice none 0 0] 25) = W at *
  generalize boxw w n An cn Ak k.len ck = Wb at *
  have hkW : Hid (Kids W (· < W.heap.size) Ak k) := (hk.upto HB.out)
  have hnW : Hid (Rd W W.heap.size 1 An n.names.length (n.names.map sv)) := Rd.more (RdS.rd (hn.keep (fun b hb => HB.out.block b hb) (fun _ h => h))) HB.out.size
  have HF : Hid (fieldV n k x = if n.kind = 9 ∧ 0 ≤ idxS x n.names 0 then k.get (idxS x n.names 0).toNat else none) := rfl
  have HG := Lib.hid (idxS_ge x n.names 0)
  generalize fieldV n k x = FV at *
  have HW := Lib.hid hw
  have HN1 : Hid (n.names.length ≤ 8796093021952) := h1.2.2
  clear hk hn hok h1 h2 hw
  unfold ncells at *
  have x0 : W.cell? ⟨w.heap.size, 0, none⟩ = some (.int .i64 n.kind) := K0.out.cell 0
  have x4 : W.cell? ⟨w.heap.size, 4, none⟩ = some (.slice An n.names.length cn) := K0.out.cell 4
  have x5 : W.cell? ⟨w.heap.size, 5, none⟩ = some (.slice Ak k.len ck) := K0.out.cell 5
  go_enter Try.func20, Try.ntmps20
  go_upto_region 1 with fail
  clear hbx hbs hW
  by_cases h9 : n.kind = 9
  · have q9 : (n.kind == 9) = true := by simp [h9]
    rw [h9] at x0
    have HK9 := Lib.hid h9
    clear h9
    go_wp2_with fail
    go_loopw [6] (fun s6 wr => ∃ j : Nat, s6 = .int .i64 (j : Int) ∧ j ≤ n.names.length ∧ j ≤ k.len ∧ Hid (idxS x n.names 0 = idxS x (n.names.drop j) j) ∧ wr = W) (fun s6 _ => n.names.length - (intOf s6).toNat)
    case atStart => exact ⟨0, rfl, Nat.zero_le _, Nat.zero_le _, rfl, rfl⟩
    case round =>
      obtain ⟨j, rfl, hj, hjk, HJ, rfl⟩ := hrel
      by_cases hlt : j < n.names.length
      · by_cases hlk : j < k.len
        · obtain ⟨a, ha⟩ : ∃ a, n.names[j]? = some a := ⟨n.names[j], List.getElem?_eq_getElem hlt⟩
          obtain ⟨g, off, u, rfl, hg, hu, hc⟩ := Rd.at_ hnW.out hlt
          have hua : u = .string (str a) := by
            rw [List.getElem?_map, ha] at hu
            exact (Option.some.inj hu).symm
          subst hua
          have HD : Hid (idxS x n.names 0 = if x = a then (j : Int) else idxS x (n.names.drop (j + 1)) (j + 1)) := by show _ = _; rw [HJ.out, idxS_drop ha]
          have HE := Lib.hid (str_eq (a := a) (b := x))
          have r1 : (j : Int) < (n.names.length : Int) := by omega
          have r2 : (j : Int) < (k.len : Int) := by omega
          clear HJ ha hu
          by_cases hx : x = a
          · obtain ⟨m, q, hgt⟩ := F.get_lt k j hlk
            have HN : Hid (FV = some (m, q)) := by show _ = _; rw [HF.out, HD.out, if_pos hx, if_pos ⟨HK9.out, by omega⟩]; exact hgt
            have q1 : ((str a).toList == (str x).toList) = true := by rw [HE.out, hx]; simp
            have q1' : (str a).toList = (str x).toList := by rw [hx]
            obtain ⟨b, off2, Bn, dn, Bk, dk, rfl, hS, ⟨u0, u1, u2, u3, u4, u5⟩, hvk⟩ := hkW.out.at_ hgt hlk
            have HO : Hid (∀ v w, Vo w (· < w.heap.size) m q v → Calls Try.prog 8 #[v] w (RetV m q w)) := fun v w h => clone_any m q v w (by have := wtF_get hgt; have := HW.out; omega) h
            have HV := Lib.hid hvk
            have HJ2 := Lib.hid (And.intro hlt hlk)
            clear hx HD HE HF HG hgt hvk hS hlt hlk
            unfold ncells at HV
            go_wp2_with fail
            refine (HO.out _ _ HV.out).mono ?_
            rintro e w2 ⟨v2, rfl, hv2, b2⟩
            obtain ⟨Cn, en, Ck, ek, rfl, c1, c2, c3, c4, c5⟩ := id hv2
            have R2 : Hid (Blk w2 (w.heap.size + 1) #[.int .i64 0, .int .i64 0, .int .i64 0, .string ⟨#[]⟩, .slice none 0 0, .slice none 0 0] 25) := R0.out.below b2 R0.out.lt
            have B2 : Hid (Below w.heap.size w w2) := HB.out.trans (b2.mono HB.out.size)
            have HV2 := Lib.hid hv2
            have HL := Lib.hid R0.out.lt
            have p0 : w2.cell? ⟨w.heap.size + 1, 0, none⟩ = some (.int .i64 0) := R2.out.cell 0
            have q_0 := R2.out.free 0
            have p1 : w2.cell? ⟨w.heap.size + 1, 1, none⟩ = some (.int .i64 0) := R2.out.cell 1
            have q_1 := R2.out.free 1
            have p2 : w2.cell? ⟨w.heap.size + 1, 2, none⟩ = some (.int .i64 0) := R2.out.cell 2
            have q_2 := R2.out.free 2
            have p3 : w2.cell? ⟨w.heap.size + 1, 3, none⟩ = some (.string ⟨#[]⟩) := R2.out.cell 3
            have q_3 := R2.out.free 3
            have p4 : w2.cell? ⟨w.heap.size + 1, 4, none⟩ = some (.slice none 0 0) := R2.out.cell 4
            have q_4 := R2.out.free 4
            have p5 : w2.cell? ⟨w.heap.size + 1, 5, none⟩ = some (.slice none 0 0) := R2.out.cell 5
            have q_5 := R2.out.free 5
            clear hv2 c1 c2 c3 c4 c5 b2 u0 u1 u2 u3 u4 u5
            unfold ncells
            go_wp2_with fail
            refine bodyPost_ret (results_vb Try.results20 rfl rfl (Blk.put6 R2.out)) rfl ?_
            rw [HN.out]
            refine ⟨_, rfl, HV2.out.keep ?_ ?_, (((((B2.out.setCell (Nat.le_succ _) _).setCell (Nat.le_succ _) _).setCell (Nat.le_succ _) _).setCell (Nat.le_succ _) _).setCell (Nat.le_succ _) _).setCell (Nat.le_succ _) _⟩
            · intro i hi
              have hne : i ≠ w.heap.size + 1 := by have := hi.1; have := HL.out; omega
              repeat rw [Below.heap_setCell _ _ _ _ (by exact hne)]
            · intro i hi
              exact ⟨by have := hi.1; have := HB.out.size; omega, by simpa using hi.2⟩
          · have HV : Hid (idxS x n.names 0 = idxS x (n.names.drop (j + 1)) (j + 1)) := by show _ = _; rw [HD.out, if_neg hx]
            have q1 : ((str a).toList == (str x).toList) = false := by rw [HE.out]; exact decide_eq_false (fun h => hx h.symm)
            have q1' : ¬ (str a).toList = (str x).toList := by simpa using q1
            clear hx HD HE
            go_wp2_with fail
            go_roundw
            case rel =>
              have hbe : n.names.length ≤ 8796093021952 := HN1.out
              have hs : wrap64 ((j : Int) + 1) = ((j + 1 : Nat) : Int) := by rw [w64n (by omega)]; omega
              exact ⟨j + 1, congrArg (Value.int .i64) hs, by omega, by omega, HV, by first | rfl | trivial⟩
            case measure =>
              have hbe : n.names.length ≤ 8796093021952 := HN1.out
              have hs : wrap64 ((j : Int) + 1) = ((j + 1 : Nat) : Int) := by rw [w64n (by omega)]; omega
              show n.names.length - (intOf (.int .i64 (wrap64 ((j : Int) + 1)))).toNat < n.names.length - (intOf (.int .i64 (j : Int))).toNat
              rw [hs]
              simp only [intOf, Int.toNat_natCast]
              omega
        · have hjk2 : j = k.len := by omega
          have r1 : (j : Int) < (n.names.length : Int) := by omega
          have r2 : ¬ (j : Int) < (k.len : Int) := by omega
          have HN : Hid (FV = none) := by
            show _ = _
            rw [HF.out, HJ.out]
            split
            · rename_i h
              rcases idxS_ge x (n.names.drop j) j with h' | ⟨o, h1, h2, _⟩
              · omega
              · rw [h1]; exact F.get_none k _ (by omega)
            · rfl
          clear HJ HF HG hlt hlk hjk2
          have p0 : wr.cell? ⟨w.heap.size + 1, 0, none⟩ = some (.int .i64 0) := R0.out.cell 0
          have q_0 := R0.out.free 0
          have p1 : wr.cell? ⟨w.heap.size + 1, 1, none⟩ = some (.int .i64 0) := R0.out.cell 1
          have q_1 := R0.out.free 1
          have p2 : wr.cell? ⟨w.heap.size + 1, 2, none⟩ = some (.int .i64 0) := R0.out.cell 2
          have q_2 := R0.out.free 2
          have p3 : wr.cell? ⟨w.heap.size + 1, 3, none⟩ = some (.string ⟨#[]⟩) := R0.out.cell 3
          have q_3 := R0.out.free 3
          have p4 : wr.cell? ⟨w.heap.size + 1, 4, none⟩ = some (.slice none 0 0) := R0.out.cell 4
          have q_4 := R0.out.free 4
          have p5 : wr.cell? ⟨w.heap.size + 1, 5, none⟩ = some (.slice none 0 0) := R0.out.cell 5
          have q_5 := R0.out.free 5
          go_wp2_with fail
          refine bodyPost_ret (results_vb Try.results20 rfl rfl (Blk.put6 R0.out)) rfl ?_
          rw [HN.out]
          exact ⟨_, rfl, zero_vo _ _, (((((HB.out.setCell (Nat.le_succ _) _).setCell (Nat.le_succ _) _).setCell (Nat.le_succ _) _).setCell (Nat.le_succ _) _).setCell (Nat.le_succ _) _).setCell (Nat.le_succ _) _⟩
      · have r1 : ¬ (j : Int) < (n.names.length : Int) := by omega
        have HN : Hid (FV = none) := by
          show _ = _
          rw [HF.out, HJ.out, List.drop_eq_nil_of_le (by omega)]
          rw [if_neg (fun h => absurd h.2 (by show ¬ (0 : Int) ≤ -1; omega))]
        clear HJ HF HG hlt
        have p0 : wr.cell? ⟨w.heap.size + 1, 0, none⟩ = some (.int .i64 0) := R0.out.cell 0
        have q_0 := R0.out.free 0
        have p1 : wr.cell? ⟨w.heap.size + 1, 1, none⟩ = some (.int .i64 0) := R0.out.cell 1
        have q_1 := R0.out.free 1
        have p2 : wr.cell? ⟨w.heap.size + 1, 2, none⟩ = some (.int .i64 0) := R0.out.cell 2
        have q_2 := R0.out.free 2
        have p3 : wr.cell? ⟨w.heap.size + 1, 3, none⟩ = some (.string ⟨#[]⟩) := R0.out.cell 3
        have q_3 := R0.out.free 3
        have p4 : wr.cell? ⟨w.heap.size + 1, 4, none⟩ = some (.slice none 0 0) := R0.out.cell 4
        have q_4 := R0.out.free 4
        have p5 : wr.cell? ⟨w.heap.size + 1, 5, none⟩ = some (.slice none 0 0) := R0.out.cell 5
        have q_5 := R0.out.free 5
        go_wp2_with fail
        refine bodyPost_ret (results_vb Try.results20 rfl rfl (Blk.put6 R0.out)) rfl ?_
        rw [HN.out]
        exact ⟨_, rfl, zero_vo _ _, (((((HB.out.setCell (Nat.le_succ _) _).setCell (Nat.le_succ _) _).setCell (Nat.le_succ _) _).setCell (Nat.le_succ _) _).setCell (Nat.le_succ _) _).setCell (Nat.le_succ _) _⟩
  · have q9 : (n.kind == 9) = false := by simp [h9]
    have q9' : ¬ n.kind = 9 := h9
    have HN : Hid (FV = none) := by show _ = _; rw [HF.out, if_neg (fun h => h9 h.1)]
    clear h9 HF HG
    have p0 : W.cell? ⟨w.heap.size + 1, 0, none⟩ = some (.int .i64 0) := R0.out.cell 0
    have q_0 := R0.out.free 0
    have p1 : W.cell? ⟨w.heap.size + 1, 1, none⟩ = some (.int .i64 0) := R0.out.cell 1
    have q_1 := R0.out.free 1
    have p2 : W.cell? ⟨w.heap.size + 1, 2, none⟩ = some (.int .i64 0) := R0.out.cell 2
    have q_2 := R0.out.free 2
    have p3 : W.cell? ⟨w.heap.size + 1, 3, none⟩ = some (.string ⟨#[]⟩) := R0.out.cell 3
    have q_3 := R0.out.free 3
    have p4 : W.cell? ⟨w.heap.size + 1, 4, none⟩ = some (.slice none 0 0) := R0.out.cell 4
    have q_4 := R0.out.free 4
    have p5 : W.cell? ⟨w.heap.size + 1, 5, none⟩ = some (.slice none 0 0) := R0.out.cell 5
    have q_5 := R0.out.free 5
    go_wp2_with fail
    refine bodyPost_ret (results_vb Try.results20 rfl rfl (Blk.put6 R0.out)) rfl ?_
    rw [HN.out]
    exact ⟨_, rfl, zero_vo _ _, (((((HB.out.setCell (Nat.le_succ _) _).setCell (Nat.le_succ _) _).setCell (Nat.le_succ _) _).setCell (Nat.le_succ _) _).setCell (Nat.le_succ _) _).setCell (Nat.le_succ _) _⟩
end Go.Proofs.Ytfcbcbpnlnkpcaa
