/- value.Field. -/
import Derived.Test.YtfcbcbpnlnkpcaaQOwn
import Derived.Test.YtfcbcbpnlnkpcaaQSindex
namespace Go.Proofs.Ytfcbcbpnlnkpcaa
set_option linter.all false
open Go.RowKit
/-- A struct's field: its node and kids, or none. -/
def fieldV (n : Nd) (k : F) (x : List UInt8) : Option (Nd × F) := if n.kind = 9 ∧ 0 ≤ idxS x n.names 0 then k.get (idxS x n.names 0).toNat else none
def zNd : Nd := ⟨0, 0, 0, [], []⟩
/-- Behind a call that answers a value (fresh) and a Bool. -/
def RetF (o : Option (Nd × F)) (w : World) (e : Ending) (w' : World) : Prop :=
  ∃ v, e = .returned (.tuple #[v, .bool o.isSome]) ∧ Vo w' (Fresh w.heap.size w'.heap.size) (o.getD (zNd, .nil)).1 (o.getD (zNd, .nil)).2 v ∧ Below w.heap.size w w'
theorem idxS_ge (x : List UInt8) : ∀ (l : List (List UInt8)) (i : Nat), idxS x l i = -1 ∨ ∃ o : Nat, idxS x l i = o ∧ i ≤ o ∧ o < i + l.length
  | [], _ => .inl rfl
  | a :: l, i => by
    unfold idxS
    split
    · exact .inr ⟨i, rfl, Nat.le_refl _, by simp⟩
    · rcases idxS_ge x l (i + 1) with h | ⟨o, h1, h2, h3⟩
      · exact .inl h
      · exact .inr ⟨o, h1, by omega, by rw [List.length_cons]; omega⟩
theorem F.get_none : ∀ (f : F) (i : Nat), f.len ≤ i → f.get i = none
  | .nil, _, _ => rfl
  | .cons n k r, 0, h => by simp [F.len] at h
  | .cons n k r, i + 1, h => F.get_none r i (by simp only [F.len] at h; omega)
theorem zero_vo (w : World) (S : Nat → Prop) : Vo w S zNd .nil (.agg #[.int .i64 0, .int .i64 0, .int .i64 0, .string ⟨#[]⟩, .slice none 0 0, .slice none 0 0]) :=
  ⟨none, 0, none, 0, rfl, ⟨⟨by decide, by decide⟩, ⟨by decide, by decide⟩, ⟨by decide, by decide⟩, by simp [zNd], by simp [zNd]⟩, ⟨by simp [zNd], by simp [zNd]⟩, ⟨by simp [F.len], by simp [F.len]⟩, ⟨by simp [zNd], fun hh => absurd hh (by simp [zNd])⟩, [], ⟨by simp [F.len], fun hh => absurd hh (by simp [F.len])⟩, rfl⟩
theorem Blk.put6 {wr : World} {g : Nat} {T : TypeId} {a0 a1 a2 a3 a4 a5 v0 v1 v2 v3 v4 v5 : Value} (h : Blk wr g #[a0, a1, a2, a3, a4, a5] T) :
    Blk ((((((wr.setCell ⟨g, 0, none⟩ v0).setCell ⟨g, 1, none⟩ v1).setCell ⟨g, 2, none⟩ v2).setCell ⟨g, 3, none⟩ v3).setCell ⟨g, 4, none⟩ v4).setCell ⟨g, 5, none⟩ v5) g #[v0, v1, v2, v3, v4, v5] T := by
  have := (((((h.set 0 v0).set 1 v1).set 2 v2).set 3 v3).set 4 v4).set 5 v5
  simpa using this
/-- The end: a value and a Bool, out of the result's cells. -/
theorem results_vb {fn : Func} {p q : Tmp} (hfn : fn.results = #[.cell p 25, .tmp q]) {W : World} {tmps : Array Value} {g : Nat} {v0 v1 v2 v3 v4 v5 e : Value} (h4 : tmps[p]?.getD undef = .pointer (some ⟨g, 0, none⟩)) (h5 : tmps[q]?.getD undef = e)
    (h : Blk W g #[v0, v1, v2, v3, v4, v5] 25) : (results fn tmps).run Try.prog W = .ok (.tuple #[.agg #[v0, v1, v2, v3, v4, v5], e]) W := by
  have y0 : W.cell? ⟨g, 0, none⟩ = some v0 := h.cell 0
  have y1 : W.cell? ⟨g, 1, none⟩ = some v1 := h.cell 1
  have y2 : W.cell? ⟨g, 2, none⟩ = some v2 := h.cell 2
  have y3 : W.cell? ⟨g, 3, none⟩ = some v3 := h.cell 3
  have y4 : W.cell? ⟨g, 4, none⟩ = some v4 := h.cell 4
  have y5 : W.cell? ⟨g, 5, none⟩ = some v5 := h.cell 5
  simp [results, hfn, go_sem, h4, h5, y0, y1, y2, y3, y4, y5]
set_option maxRecDepth 100000 in
set_option maxHeartbeats 3200000 in
theorem field_any (n : Nd) (k : F) (v : Value) (x : List UInt8) (w : World) (hw : wtF k ≤ 2500) (hv : Vo w (· < w.heap.size) n k v) :
    Calls Try.prog 19 #[v, .string (str x)] w (RetF (fieldV n k x) w) := by
  obtain ⟨An, cn, Ak, ck, rfl, hok, h1, h2, hn, hk⟩ := hv
  have HB : Hid (Below w.heap.size w ((boxw w n An cn Ak k.len ck).alloc (.cells #[.int .i64 0, .int .i64 0, .int .i64 0, .string ⟨#[]⟩, .slice none 0 0, .slice none 0 0] 25))) := (boxw_below w n An cn Ak k.len ck).alloc (by rw [boxw_size]; omega) _
  have K0 : Hid (Blk ((boxw w n An cn Ak k.len ck).alloc (.cells #[.int .i64 0, .int .i64 0, .int .i64 0, .string ⟨#[]⟩, .slice none 0 0, .slice none 0 0] 25)) w.heap.size (ncells n An cn Ak k.len ck).toArray 25) := (boxw_blk w n An cn Ak k.len ck).alloc _
  have R0 : Hid (Blk ((boxw w n An cn Ak k.len ck).alloc (.cells #[.int .i64 0, .int .i64 0, .int .i64 0, .string ⟨#[]⟩, .slice none 0 0, .slice none 0 0] 25)) (w.heap.size + 1) #[.int .i64 0, .int .i64 0, .int .i64 0, .string ⟨#[]⟩, .slice none 0 0, .slice none 0 0] 25) := by
    have := Blk.new (boxw w n An cn Ak k.len ck) #[.int .i64 0, .int .i64 0, .int .i64 0, .string ⟨#[]⟩, .slice none 0 0, .slice none 0 0] 25
    rw [boxw_size] at this
    exact this
  have hbx := boxw_eq w n An cn Ak k.len ck
  have hbs := boxw_size w n An cn Ak k.len ck
  generalize hW : (boxw w n An cn Ak k.len ck).alloc (.cells #[.int .i64 0, .int .i64 0, .int .i64 0, .string ⟨#[]⟩, .slice none 0 0, .slice none 0 0] 25) = W at *
  generalize boxw w n An cn Ak k.len ck = Wb at *
  have hkW : Hid (Kids W (· < W.heap.size) Ak k) := (hk.upto HB.out)
  have hnW : Hid (Rd W W.heap.size 1 An n.names.length (n.names.map sv)) := Rd.more (RdS.rd (hn.keep (fun b hb => HB.out.block b hb) (fun _ h => h))) HB.out.size
  have HI : Hid (Calls Try.prog 32 #[.slice An n.names.length cn, .string (str x)] W (RetS (.int .i64 (idxS x n.names 0)) W)) := sindex_any An n.names.length cn n.names x W hnW.out h1.2.2
  have HF : Hid (fieldV n k x = if n.kind = 9 ∧ 0 ≤ idxS x n.names 0 then k.get (idxS x n.names 0).toNat else none) := rfl
  have HG := Lib.hid (idxS_ge x n.names 0)
  generalize fieldV n k x = FV at *
  have HW := Lib.hid hw
  clear hk hn hok h1 h2 hw
  unfold ncells at *
  have x0 : W.cell? ⟨w.heap.size, 0, none⟩ = some (.int .i64 n.kind) := K0.out.cell 0
  have x4 : W.cell? ⟨w.heap.size, 4, none⟩ = some (.slice An n.names.length cn) := K0.out.cell 4
  have x5 : W.cell? ⟨w.heap.size, 5, none⟩ = some (.slice Ak k.len ck) := K0.out.cell 5
  go_enter Try.func19, Try.ntmps19
  go_upto_region 1 with fail
  clear hbx hbs hW
  by_cases h9 : n.kind = 9
  · have q9 : (n.kind == 9) = true := by simp [h9]
    rw [h9] at x0
    rcases HG.out with hm | ⟨o, ho, _, hol⟩
    · have HN : Hid (FV = none) := by show _ = _; rw [HF.out, hm, if_neg (by omega)]
      rw [hm] at HI
      clear hm HF HG h9
      have p0 : W.cell? ⟨w.heap.size + 1, 0, none⟩ = some (.int .i64 0) := R0.out.cell 0
      have q_0 := R0.out.free 0
      have p1 : W.cell? ⟨w.heap.size + 1, 1, none⟩ = some (.int .i64 0) := R0.out.cell 1
      have q_1 := R0.out.free 1
      have p2 : W.cell? ⟨w.heap.size + 1, 2, none⟩ = some (.int .i64 0) := R0.out.cell 2
      have q_2 := R0.out.free 2
      have p3 : W.cell? ⟨w.heap.size + 1, 3, none⟩ = some (.string ⟨#[]⟩) := R0.out.cell 3
      have q_3 := R0.out.free 3
      have p4 : W.cell? ⟨w.heap.size + 1, 4, none⟩ = some (.slice none 0 0) := R0.out.cell 4
      have q_4 := R0.out.free 4
      have p5 : W.cell? ⟨w.heap.size + 1, 5, none⟩ = some (.slice none 0 0) := R0.out.cell 5
      have q_5 := R0.out.free 5
      go_wp2_with (go_at_call 32; refine HI.out.mono ?_; rintro e w' ⟨rfl, rfl⟩)
      refine bodyPost_ret (results_vb Try.results19 rfl rfl (Blk.put6 R0.out)) rfl ?_
      rw [HN.out]
      exact ⟨_, rfl, zero_vo _ _, (((((HB.out.setCell (Nat.le_succ _) _).setCell (Nat.le_succ _) _).setCell (Nat.le_succ _) _).setCell (Nat.le_succ _) _).setCell (Nat.le_succ _) _).setCell (Nat.le_succ _) _⟩
    · rw [ho] at HI
      rw [Nat.zero_add] at hol
      rcases Nat.lt_or_ge o k.len with hok | hok
      · obtain ⟨m, q, hgt⟩ := F.get_lt k o hok
        have HN : Hid (FV = some (m, q)) := by show _ = _; rw [HF.out, ho, if_pos ⟨h9, by omega⟩]; exact hgt
        obtain ⟨b, off, Bn, dn, Bk, dk, rfl, hS, ⟨u0, u1, u2, u3, u4, u5⟩, hvk⟩ := hkW.out.at_ hgt hok
        have HO : Hid (∀ v w, Vo w (· < w.heap.size) m q v → Calls Try.prog 33 #[v] w (RetV m q w)) := fun v w h => (own_any m q v w (by have := wtF_get hgt; have := HW.out; omega) h).mono (fun _ _ h => h.retV)
        have HV := Lib.hid hvk
        have q2 : ¬ (k.len : Int) ≤ (o : Int) := by omega
        have q3 : ¬ (o : Int) < 0 := by omega
        have hlt2 : (o : Int) < (k.len : Int) := by omega
        clear ho HF HG h9 hgt hvk hS
        unfold ncells at HV
        go_wp2_with (go_at_call 32; refine HI.out.mono ?_; rintro e w' ⟨rfl, rfl⟩)
        refine (HO.out _ _ HV.out).mono ?_
        rintro e w2 ⟨v2, rfl, hv2, b2⟩
        obtain ⟨Cn, en, Ck, ek, rfl, c1, c2, c3, c4, c5⟩ := id hv2
        have R2 : Hid (Blk w2 (w.heap.size + 1) #[.int .i64 0, .int .i64 0, .int .i64 0, .string ⟨#[]⟩, .slice none 0 0, .slice none 0 0] 25) := R0.out.below b2 R0.out.lt
        have B2 : Hid (Below w.heap.size w w2) := HB.out.trans (b2.mono HB.out.size)
        have HV2 := Lib.hid hv2
        have HL := Lib.hid R0.out.lt
        have p0 : w2.cell? ⟨w.heap.size + 1, 0, none⟩ = some (.int .i64 0) := R2.out.cell 0
        have q_0 := R2.out.free 0
        have p1 : w2.cell? ⟨w.heap.size + 1, 1, none⟩ = some (.int .i64 0) := R2.out.cell 1
        have q_1 := R2.out.free 1
        have p2 : w2.cell? ⟨w.heap.size + 1, 2, none⟩ = some (.int .i64 0) := R2.out.cell 2
        have q_2 := R2.out.free 2
        have p3 : w2.cell? ⟨w.heap.size + 1, 3, none⟩ = some (.string ⟨#[]⟩) := R2.out.cell 3
        have q_3 := R2.out.free 3
        have p4 : w2.cell? ⟨w.heap.size + 1, 4, none⟩ = some (.slice none 0 0) := R2.out.cell 4
        have q_4 := R2.out.free 4
        have p5 : w2.cell? ⟨w.heap.size + 1, 5, none⟩ = some (.slice none 0 0) := R2.out.cell 5
        have q_5 := R2.out.free 5
        clear hv2 c1 c2 c3 c4 c5 b2 u0 u1 u2 u3 u4 u5
        unfold ncells
        go_wp2_with fail
        refine bodyPost_ret (results_vb Try.results19 rfl rfl (Blk.put6 R2.out)) rfl ?_
        rw [HN.out]
        refine ⟨_, rfl, HV2.out.keep ?_ ?_, (((((B2.out.setCell (Nat.le_succ _) _).setCell (Nat.le_succ _) _).setCell (Nat.le_succ _) _).setCell (Nat.le_succ _) _).setCell (Nat.le_succ _) _).setCell (Nat.le_succ _) _⟩
        · intro i hi
          have hne : i ≠ w.heap.size + 1 := by have := hi.1; have := HL.out; omega
          repeat rw [Below.heap_setCell _ _ _ _ (by exact hne)]
        · intro i hi
          exact ⟨by have := hi.1; have := HB.out.size; omega, by simpa using hi.2⟩
      · have HN : Hid (FV = none) := by show _ = _; rw [HF.out, ho, if_pos ⟨h9, by omega⟩]; exact F.get_none k o hok
        have q2 : (k.len : Int) ≤ (o : Int) := by omega
        clear ho HF HG h9 hok
        have p0 : W.cell? ⟨w.heap.size + 1, 0, none⟩ = some (.int .i64 0) := R0.out.cell 0
        have q_0 := R0.out.free 0
        have p1 : W.cell? ⟨w.heap.size + 1, 1, none⟩ = some (.int .i64 0) := R0.out.cell 1
        have q_1 := R0.out.free 1
        have p2 : W.cell? ⟨w.heap.size + 1, 2, none⟩ = some (.int .i64 0) := R0.out.cell 2
        have q_2 := R0.out.free 2
        have p3 : W.cell? ⟨w.heap.size + 1, 3, none⟩ = some (.string ⟨#[]⟩) := R0.out.cell 3
        have q_3 := R0.out.free 3
        have p4 : W.cell? ⟨w.heap.size + 1, 4, none⟩ = some (.slice none 0 0) := R0.out.cell 4
        have q_4 := R0.out.free 4
        have p5 : W.cell? ⟨w.heap.size + 1, 5, none⟩ = some (.slice none 0 0) := R0.out.cell 5
        have q_5 := R0.out.free 5
        go_wp2_with (go_at_call 32; refine HI.out.mono ?_; rintro e w' ⟨rfl, rfl⟩)
        refine bodyPost_ret (results_vb Try.results19 rfl rfl (Blk.put6 R0.out)) rfl ?_
        rw [HN.out]
        exact ⟨_, rfl, zero_vo _ _, (((((HB.out.setCell (Nat.le_succ _) _).setCell (Nat.le_succ _) _).setCell (Nat.le_succ _) _).setCell (Nat.le_succ _) _).setCell (Nat.le_succ _) _).setCell (Nat.le_succ _) _⟩
  · have q9 : (n.kind == 9) = false := by simp [h9]
    have q9' : ¬ n.kind = 9 := h9
    have HN : Hid (FV = none) := by show _ = _; rw [HF.out, if_neg (fun h => h9 h.1)]
    clear h9 HF HG
    have p0 : W.cell? ⟨w.heap.size + 1, 0, none⟩ = some (.int .i64 0) := R0.out.cell 0
    have q_0 := R0.out.free 0
    have p1 : W.cell? ⟨w.heap.size + 1, 1, none⟩ = some (.int .i64 0) := R0.out.cell 1
    have q_1 := R0.out.free 1
    have p2 : W.cell? ⟨w.heap.size + 1, 2, none⟩ = some (.int .i64 0) := R0.out.cell 2
    have q_2 := R0.out.free 2
    have p3 : W.cell? ⟨w.heap.size + 1, 3, none⟩ = some (.string ⟨#[]⟩) := R0.out.cell 3
    have q_3 := R0.out.free 3
    have p4 : W.cell? ⟨w.heap.size + 1, 4, none⟩ = some (.slice none 0 0) := R0.out.cell 4
    have q_4 := R0.out.free 4
    have p5 : W.cell? ⟨w.heap.size + 1, 5, none⟩ = some (.slice none 0 0) := R0.out.cell 5
    have q_5 := R0.out.free 5
    go_wp2_with fail
    refine bodyPost_ret (results_vb Try.results19 rfl rfl (Blk.put6 R0.out)) rfl ?_
    rw [HN.out]
    exact ⟨_, rfl, zero_vo _ _, (((((HB.out.setCell (Nat.le_succ _) _).setCell (Nat.le_succ _) _).setCell (Nat.le_succ _) _).setCell (Nat.le_succ _) _).setCell (Nat.le_succ _) _).setCell (Nat.le_succ _) _⟩
end Go.Proofs.Ytfcbcbpnlnkpcaa
