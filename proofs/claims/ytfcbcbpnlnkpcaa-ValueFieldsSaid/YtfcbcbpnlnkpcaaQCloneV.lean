/- scrivenerref5.Clone: the same value, in memory of its own. -/
import Derived.Test.YtfcbcbpnlnkpcaaQGreat
import Derived.Test.YtfcbcbpnlnkpcaaQMemV
import Derived.Outline
namespace Go.Proofs.Ytfcbcbpnlnkpcaa
set_option linter.all false
open Go.RowKit
/-- Blocks that the call has made. -/
abbrev Fresh (a b : Nat) : Nat → Prop := fun i => a ≤ i ∧ i < b
/-- Behind a call: it answers a value that is the node n with the kids k, in memory that the call has made; nothing that was there has turned. -/
def RetV (n : Nd) (k : F) (w : World) (e : Ending) (w' : World) : Prop := ∃ v, e = .returned v ∧ Vo w' (Fresh w.heap.size w'.heap.size) n k v ∧ Below w.heap.size w w'
def F.take : F → Nat → F
  | _, 0 => .nil
  | .nil, _ + 1 => .nil
  | .cons n k r, i + 1 => .cons n k (r.take i)
theorem F.take_zero (f : F) : f.take 0 = .nil := by cases f <;> rfl
theorem F.take_len : ∀ (f : F) (i : Nat), i ≤ f.len → (f.take i).len = i
  | f, 0, _ => by rw [F.take_zero]; rfl
  | .nil, i + 1, h => by simp [F.len] at h
  | .cons n k r, i + 1, h => by
    have := F.take_len r i (by simp [F.len] at h; omega)
    simp [F.take, F.len, this]
theorem F.take_all : ∀ (f : F), f.take f.len = f
  | .nil => rfl
  | .cons n k r => by
    have := F.take_all r
    simp [F.take, F.len, this]
/-- A forest with one node more behind. -/
theorem Kc.snoc {w : World} {S : Nat → Prop} : ∀ (f : F) (i : Nat) {n : Nd} {k : F} (xs : List Value) {An : Option Addr} {cn : Nat} {Ak : Option Addr} {ck : Nat}, f.get i = some (n, k) → Kc w S (f.take i) xs →
    n.ok → okl n.names.length cn → okl k.len ck → RdS w S 1 An n.names.length (n.names.map sv) → Kids w S Ak k → Kc w S (f.take (i + 1)) (xs ++ ncells n An cn Ak k.len ck)
  | .nil, i, n, k, xs, _, _, _, _, hg, _, _, _, _, _, _ => by simp [F.get] at hg
  | .cons n' k' r, 0, n, k, xs, An, cn, Ak, ck, hg, hx, ho, h1, h2, hn, hk => by
    simp only [F.get, Option.some.injEq, Prod.mk.injEq] at hg
    obtain ⟨rfl, rfl⟩ := hg
    have hx : xs = [] := hx
    subst hx
    obtain ⟨ks, hr, hkk⟩ := hk
    have e : (F.cons n' k' r).take (0 + 1) = .cons n' k' .nil := by simp [F.take, F.take_zero]
    rw [e, List.nil_append]
    exact ⟨An, cn, Ak, ck, [], ks, by simp, ho, h1, h2, hn, hr, hkk, rfl⟩
  | .cons n' k' r, i + 1, n, k, xs, An, cn, Ak, ck, hg, hx, ho, h1, h2, hn, hk => by
    obtain ⟨Bn, dn, Bk, dk, cs', ks, e, ho', h1', h2', hn', hr', hkk', hrr⟩ := hx
    subst e
    rw [List.append_assoc]
    exact ⟨Bn, dn, Bk, dk, _, ks, rfl, ho', h1', h2', hn', hr', hkk', Kc.snoc r i cs' (n := n) (k := k) hg hrr ho h1 h2 hn hk⟩
theorem wtF_get : ∀ {f : F} {i : Nat} {n : Nd} {k : F}, f.get i = some (n, k) → cost n + wtF k ≤ wtF f
  | .nil, i, n, k, h => by simp [F.get] at h
  | .cons n' k' r, 0, n, k, h => by
    simp only [F.get, Option.some.injEq, Prod.mk.injEq] at h
    obtain ⟨rfl, rfl⟩ := h
    simp only [wtF]; omega
  | .cons n' k' r, i + 1, n, k, h => by
    have := wtF_get (f := r) (i := i) h
    simp only [wtF]; omega
def CloC (n : Nd) (k : F) : Prop := ∀ (v : Value) (w : World), cost n + wtF k ≤ 2500 → Vo w (· < w.heap.size) n k v → Calls Try.prog 8 #[v] w (RetV n k w)
theorem rdS_of_own {w : World} {base e sz n c : Nat} {A : Option Addr} {xs : List Value} (h : w.ownsRow base e sz (.slice A n c) n xs) : RdS w (Fresh base w.heap.size) sz A n xs := by
  have hr := Rd.of_own h
  refine ⟨hr.1, fun hn => ?_⟩
  obtain ⟨g, off, hA, hg, hc⟩ := hr.2 hn
  have := h.lt g (by simp [Value.ownBlock, hA])
  exact ⟨g, off, hA, ⟨this.1, hg⟩, hc⟩
theorem Rd.elem_new (w : World) (cs : List Value) (T : TypeId) : Rd (w.alloc (.cells cs.toArray T)) (w.heap.size + 1) cs.length (some ⟨w.heap.size, 0, none⟩) 1 cs :=
  ⟨by simp, fun _ => ⟨w.heap.size, 0, rfl, by omega, fun j u hu => by rw [World.cell?_alloc_new]; simpa using hu⟩⟩
set_option maxRecDepth 100000 in
set_option maxHeartbeats 1600000 in
theorem clone_any (n : Nd) (k : F) : CloC n k := by
  refine F.node (C := CloC) ?_ n k
  clear n k
  intro n k ih v w hw hv
  obtain ⟨An, cn, Ak, ck, rfl, hok, h1, h2, hn, hk⟩ := hv
  have hbx := boxw_eq w n An cn Ak k.len ck
  have hb0 := boxw_below w n An cn Ak k.len ck
  have hz0 := boxw_size w n An cn Ak k.len ck
  have hbk := boxw_blk w n An cn Ak k.len ck
  generalize boxw w n An cn Ak k.len ck = Wb at *
  have IH : Hid (∀ i m j, k.get i = some (m, j) → CloC m j) := ih
  have HZ := Lib.hid hz0
  have HOK := Lib.hid hok
  obtain ⟨_, _, _, hok4, _⟩ := hok
  obtain ⟨hk1, hk2, hk3⟩ := h2
  obtain ⟨hn1, hn2, hn3⟩ := h1
  have hkl : k.len ≤ 2500 := by have := F.len_sz k; have := szF_wt k; omega
  clear ih hz0
  generalize hc : Wb.alloc (.cells #[.int .i64 0, .int .i64 0, .int .i64 0, .string ⟨#[]⟩, .slice none 0 0, .slice none 0 0] 25) = Wc
  have hbc : Below Wb.heap.size Wb Wc := by rw [← hc]; exact (Below.refl _ _).alloc (Nat.le_refl _) _
  have hzc : Hid (Wc.heap.size = w.heap.size + 2) := by show _ = _; rw [← hc]; simp [HZ.out]
  have hcb : Hid (Wc.heap[w.heap.size + 1]? = some (.cells #[.int .i64 0, .int .i64 0, .int .i64 0, .string ⟨#[]⟩, .slice none 0 0, .slice none 0 0] 25 (0, 0))) := by
    show _ = _; rw [← hc, ← HZ.out]; exact heap_alloc_new Wb _
  generalize hd : Wc.alloc (.cells #[] 9) = Wd
  have hbd : Below Wc.heap.size Wc Wd := by rw [← hd]; exact (Below.refl _ _).alloc (Nat.le_refl _) _
  have hzd : Hid (Wd.heap.size = w.heap.size + 3) := by show _ = _; rw [← hd]; simp [hzc.out]
  have od : Wd.ownsRow Wc.heap.size 9 1 (.slice (some ⟨Wc.heap.size, 0, none⟩) 0 0) 0 (([] : List (List UInt8)).map sv) := by rw [← hd]; exact own_empty _ _ _
  have bd : Below w.heap.size w Wd := bseq (bseq hb0 hbc) hbd
  have kd : Blk Wd w.heap.size #[.int .i64 n.kind, .int .i64 n.int, .int .i64 n.scale, .string (str n.text), .slice An n.names.length cn, .slice Ak k.len ck] 25 := (hbk.below hbc (by rw [HZ.out]; omega)).below hbd (by rw [hzc.out]; omega)
  have rd : Blk Wd (w.heap.size + 1) #[.int .i64 0, .int .i64 0, .int .i64 0, .string ⟨#[]⟩, .slice none 0 0, .slice none 0 0] 25 := Blk.below hcb.out hbd (by rw [hzc.out]; omega)
  have nd : Rd Wd w.heap.size 1 An n.names.length (n.names.map sv) := RdS.rd (hn.keep (fun b hb => bd.block b hb) (fun _ h => h))
  have y4 : Wd.cell? ⟨w.heap.size, 4, none⟩ = some (.slice An n.names.length cn) := kd.cell 4
  have KD := Lib.hid kd
  have RD := Lib.hid rd
  clear kd rd hbk hn
  have e2 : Wc.heap.size = w.heap.size + 2 := hzc.out
  have e1 : Wb.heap.size = w.heap.size + 1 := HZ.out
  have HE := Lib.hid (And.intro e1 e2)
  clear e1 e2
  unfold ncells
  go_enter Try.func8, Try.ntmps8
  go_wp2_with (at_builtin
               refine wpS_append rfl (.tmp 5) (.tmp 7) rfl Wc.heap.size _ 0 [] rfl od w.heap.size An n.names.length cn n.names rfl nd n.names.length n.names (by omega) rfl (by omega) (by rw [hzd.out, HE.out.2]; omega) ?_
               intro A3 c3 w3 o3 b3 hc3 hm3
               have k3 : Blk w3 w.heap.size #[.int .i64 n.kind, .int .i64 n.int, .int .i64 n.scale, .string (str n.text), .slice An n.names.length cn, .slice Ak k.len ck] 25 := Blk.below KD.out b3 (by rw [HE.out.2]; omega)
               have r3 : Blk w3 (w.heap.size + 1) #[.int .i64 0, .int .i64 0, .int .i64 0, .string ⟨#[]⟩, .slice none 0 0, .slice none 0 0] 25 := Blk.below RD.out b3 (by rw [HE.out.2]; omega)
               have x4 : w3.cell? ⟨w.heap.size, 4, none⟩ = some (.slice An n.names.length cn) := k3.cell 4
               have f4 := k3.free 4
               have K3 := Lib.hid k3
               have R3 := Lib.hid r3
               clear k3 r3 y4)
  clear x4 f4 hbx hc hd
  have hgd : w3.heap.size ≥ Wd.heap.size := b3.size
  obtain ⟨W4, hW4⟩ : ∃ W4, (w3.setCell ⟨w.heap.size, 4, none⟩ (.slice A3 n.names.length c3)) = W4 := ⟨_, rfl⟩
  have k4 : Blk W4 w.heap.size #[.int .i64 n.kind, .int .i64 n.int, .int .i64 n.scale, .string (str n.text), .slice A3 n.names.length c3, .slice Ak k.len ck] 25 := by rw [← hW4]; exact Blk.set K3.out 4 _
  have r4 : Blk W4 (w.heap.size + 1) #[.int .i64 0, .int .i64 0, .int .i64 0, .string ⟨#[]⟩, .slice none 0 0, .slice none 0 0] 25 := by rw [← hW4]; exact Blk.set_other R3.out 4 _ (by omega)
  have o4 : W4.ownsRow Wc.heap.size 9 1 (.slice A3 n.names.length c3) n.names.length (n.names.map sv) := by
    rw [← hW4]; exact ownsRow_setCell_other o3 (fun e => by have h1 : Wc.heap.size ≤ w.heap.size := (o3.lt _ e).1; have := HE.out.2; omega) _
  have B4 : Below w.heap.size w W4 := by rw [← hW4]; exact (bd.trans (b3.mono (by rw [HE.out.2]; omega))).setCell (Nat.le_refl _) _
  have z4 : Hid (w.heap.size + 3 ≤ W4.heap.size) := by show _ ≤ _; rw [← hW4]; have := hzd.out; simp; omega
  rw [hW4]
  clear hW4 K3 R3 o3 b3 hgd KD RD nd od hbd bd hcb hbc hb0
  have e1 : Wb.heap.size = w.heap.size + 1 := HE.out.1
  rw [e1]
  clear e1
  have K4 := Lib.hid k4
  have R4 := Lib.hid r4
  have B4 := Lib.hid B4
  have O4 := Lib.hid o4
  clear k4 r4 o4
  go_loopw [3, 4] (fun s3 s4 wr => ∃ (j : Nat) (A : Option Addr) (c : Nat) (xs : List Value), j ≤ k.len ∧ s3 = .slice A j c ∧ s4 = .int .i64 j ∧ wr.ownsRow W4.heap.size 25 6 (.slice A j c) j xs ∧
    Kc wr (fun b => W4.heap.size ≤ b ∧ b < wr.heap.size ∧ (Value.slice A j c).ownBlock ≠ some b) (k.take j) xs ∧ Below W4.heap.size W4 wr) (fun _ s4 _ => k.len - (intOf s4).toNat)
  case atStart => exact ⟨0, none, 0, [], Nat.zero_le _, rfl, rfl, World.ownsRow_nil _ _ _ _, by rw [F.take_zero]; rfl, Below.refl _ _⟩
  case round =>
    obtain ⟨j, A, c, xs, hj, rfl, rfl, oj, kj, Bj⟩ := hrel
    have kb : Blk wr w.heap.size #[.int .i64 n.kind, .int .i64 n.int, .int .i64 n.scale, .string (str n.text), .slice A3 n.names.length c3, .slice Ak k.len ck] 25 := Blk.below K4.out Bj (by have := z4.out; omega)
    have rb : Blk wr (w.heap.size + 1) #[.int .i64 0, .int .i64 0, .int .i64 0, .string ⟨#[]⟩, .slice none 0 0, .slice none 0 0] 25 := Blk.below R4.out Bj (by have := z4.out; omega)
    have KB := Lib.hid kb
    have RB := Lib.hid rb
    have hbw : Below w.heap.size w wr := B4.out.trans (Bj.mono (by have := z4.out; omega))
    have hcj := own_cap oj
    by_cases hlt : j < k.len
    · have y5 : wr.cell? ⟨w.heap.size, 5, none⟩ = some (.slice Ak k.len ck) := kb.cell 5
      clear kb rb
      obtain ⟨m, q, hgt⟩ := F.get_lt k j hlt
      obtain ⟨b, off, Bn, dn, Bk, dk, rfl, hS, ⟨u0, u1, u2, u3, u4, u5⟩, hvk⟩ := (hk.keep (w' := wr) (S' := (· < wr.heap.size)) (fun b hbb => hbw.block b hbb) (fun b hbb => Nat.lt_of_lt_of_le hbb hbw.size)).at_ hgt hlt
      have HI : Hid (CloC m q) := (unhide IH) j m q hgt
      have HV := Lib.hid hvk
      have HG := Lib.hid hgt
      have hwt : Hid (cost m + wtF q ≤ 2500) := by show _ ≤ _; have := wtF_get hgt; omega
      have KJ := Lib.hid kj
      clear hvk hS hgt kj
      go_wp2_with fail
      refine ((unhide HI) _ _ hwt.out HV.out).mono ?_
      rintro e w2 ⟨v2, rfl, hv2, b2⟩
      obtain ⟨Cn, en, Ck, ek, rfl, hmok, hl1, hl2, hr2, hkk2⟩ := hv2
      have o2 := own_below oj b2
      have sz2 := b2.size
      have szj := Bj.size
      have kb2 := Blk.below KB.out b2 (by have := z4.out; omega)
      have KB2 := Lib.hid kb2
      clear kb2 y5
      unfold ncells
      go_wp2_with (at_builtin
                   refine wpV_append rfl (.tmp 17) (.tmp 24) rfl W4.heap.size _ j xs rfl (o2.alloc _) (w2.heap.size + 1) (some ⟨w2.heap.size, 0, none⟩) 1 1 (ncells m Cn en Ck q.len ek) rfl (Rd.elem_new w2 _ _) (ncells_one _ _ _ _ _ _) (j + 1) rfl (by omega) (by simp; omega) ?_
                   intro A5 c5 w5 o5 g5 ob5 b5 hc5 hm5)
      have g25 : w2.grownBy w5 ((Value.slice A j c).ownBlock) := gb_trans (gb_below ((Below.refl _ _).alloc (Nat.le_refl _) _) _) g5
      have sz5 : w2.heap.size + 1 ≤ w5.heap.size := by have := g5.size; simpa using this
      have hlt5 : ∀ i, (Value.slice A j c).ownBlock = some i → i < wr.heap.size := fun i hi => (oj.lt i hi).2
      have hne5 : ∀ i, W4.heap.size ≤ i → i < w2.heap.size → (Value.slice A j c).ownBlock ≠ some i → (Value.slice A5 (j + 1) c5).ownBlock ≠ some i := by
        intro i _ hi hne e
        rcases ob5 with h | h
        · exact hne (h.symm.trans e)
        · rw [h] at e; injection e with e; simp at e; omega
      have bl5 : ∀ i, i < w2.heap.size → (Value.slice A j c).ownBlock ≠ some i → w5.heap[i]? = w2.heap[i]? := fun i hi hne => g25.block i hi (fun e => hne e.symm)
      have hk5 : Kc w5 (fun b => W4.heap.size ≤ b ∧ b < w5.heap.size ∧ (Value.slice A5 (j + 1) c5).ownBlock ≠ some b) (k.take (j + 1)) (xs ++ ncells m Cn en Ck q.len ek) := by
        have keepF : ∀ i, Fresh wr.heap.size w2.heap.size i → W4.heap.size ≤ i ∧ i < w5.heap.size ∧ (Value.slice A5 (j + 1) c5).ownBlock ≠ some i := fun i hi =>
          ⟨by have := hi.1; omega, by have := hi.2; omega, hne5 i (by have := hi.1; omega) hi.2 (fun e => by have := hlt5 i e; have := hi.1; omega)⟩
        have blF : ∀ i, Fresh wr.heap.size w2.heap.size i → w5.heap[i]? = w2.heap[i]? := fun i hi => bl5 i hi.2 (fun e => by have := hlt5 i e; have := hi.1; omega)
        refine Kc.snoc k j xs HG.out (Kc.keep ?_ ?_ _ _ KJ.out) hmok hl1 hl2 (hr2.keep blF keepF) (hkk2.keep blF keepF)
        · intro i hi
          exact (bl5 i (by have := hi.2.1; omega) hi.2.2).trans (b2.block i hi.2.1)
        · intro i hi
          exact ⟨hi.1, by have := hi.2.1; omega, hne5 i hi.1 (by have := hi.2.1; omega) hi.2.2⟩
      have B5 : Below W4.heap.size W4 w5 := (Bj.trans (b2.mono szj)).trans (((Below.refl w2.heap.size w2).alloc (Nat.le_refl _) _ |>.mono (by omega)).trans b5)
      go_roundw
      case rel => exact ⟨j + 1, A5, c5, _, by omega, rfl, by go_num, o5, hk5, B5⟩
      case measure => simp [intOf]; omega
    · obtain rfl : j = k.len := by omega
      have f5 := kb.free 5
      have y0 : wr.cell? ⟨w.heap.size, 0, none⟩ = some (.int .i64 n.kind) := kb.cell 0
      have y1 : wr.cell? ⟨w.heap.size, 1, none⟩ = some (.int .i64 n.int) := kb.cell 1
      have y2 : wr.cell? ⟨w.heap.size, 2, none⟩ = some (.int .i64 n.scale) := kb.cell 2
      have y3 : wr.cell? ⟨w.heap.size, 3, none⟩ = some (.string (str n.text)) := kb.cell 3
      have y4 : wr.cell? ⟨w.heap.size, 4, none⟩ = some (.slice A3 n.names.length c3) := kb.cell 4
      have y5 : wr.cell? ⟨w.heap.size, 5, none⟩ = some (.slice Ak k.len ck) := kb.cell 5
      have p0 : wr.cell? ⟨w.heap.size + 1, 0, none⟩ = some (.int .i64 0) := rb.cell 0
      have p1 : wr.cell? ⟨w.heap.size + 1, 1, none⟩ = some (.int .i64 0) := rb.cell 1
      have p2 : wr.cell? ⟨w.heap.size + 1, 2, none⟩ = some (.int .i64 0) := rb.cell 2
      have p3 : wr.cell? ⟨w.heap.size + 1, 3, none⟩ = some (.string ⟨#[]⟩) := rb.cell 3
      have p4 : wr.cell? ⟨w.heap.size + 1, 4, none⟩ = some (.slice none 0 0) := rb.cell 4
      have p5 : wr.cell? ⟨w.heap.size + 1, 5, none⟩ = some (.slice none 0 0) := rb.cell 5
      have q0 := rb.free 0
      have q1 := rb.free 1
      have q2 := rb.free 2
      have q3 := rb.free 3
      have q4 := rb.free 4
      have q5 := rb.free 5
      rw [F.take_all] at kj
      have KJ := Lib.hid kj
      clear kb rb kj
      go_wp2_with fail
      obtain ⟨W6, hW6⟩ : ∃ W6, (((((((wr.setCell ⟨w.heap.size, 5, none⟩ (.slice A k.len c)).setCell ⟨w.heap.size + 1, 0, none⟩ (.int .i64 n.kind)).setCell ⟨w.heap.size + 1, 1, none⟩ (.int .i64 n.int)).setCell
        ⟨w.heap.size + 1, 2, none⟩ (.int .i64 n.scale)).setCell ⟨w.heap.size + 1, 3, none⟩ (.string (str n.text))).setCell ⟨w.heap.size + 1, 4, none⟩ (.slice A3 n.names.length c3)).setCell ⟨w.heap.size + 1, 5, none⟩ (.slice A k.len c)) = W6 := ⟨_, rfl⟩
      have rb6 : Blk W6 (w.heap.size + 1) #[.int .i64 n.kind, .int .i64 n.int, .int .i64 n.scale, .string (str n.text), .slice A3 n.names.length c3, .slice A k.len c] 25 := by
        rw [← hW6]; exact ((((((Blk.set_other RB.out 5 _ (by omega)).set 0 _).set 1 _).set 2 _).set 3 _).set 4 _).set 5 _
      have b6 : ∀ i, i ≠ w.heap.size → i ≠ w.heap.size + 1 → W6.heap[i]? = wr.heap[i]? := by
        intro i h1 h2
        rw [← hW6]
        repeat rw [Below.heap_setCell _ _ _ _ (by assumption)]
      have z6 : W6.heap.size = wr.heap.size := by rw [← hW6]; simp
      have B6 : Below w.heap.size w W6 := by
        rw [← hW6]
        exact ((((((hbw.setCell (Nat.le_refl _) _).setCell (Nat.le_succ _) _).setCell (Nat.le_succ _) _).setCell (Nat.le_succ _) _).setCell (Nat.le_succ _) _).setCell (Nat.le_succ _) _).setCell (Nat.le_succ _) _
      rw [hW6]
      clear hW6 y0 y1 y2 y3 y4 y5 p0 p1 p2 p3 p4 p5 q0 q1 q2 q3 q4 q5 f5
      have y0 : W6.cell? ⟨w.heap.size + 1, 0, none⟩ = some (.int .i64 n.kind) := rb6.cell 0
      have y1 : W6.cell? ⟨w.heap.size + 1, 1, none⟩ = some (.int .i64 n.int) := rb6.cell 1
      have y2 : W6.cell? ⟨w.heap.size + 1, 2, none⟩ = some (.int .i64 n.scale) := rb6.cell 2
      have y3 : W6.cell? ⟨w.heap.size + 1, 3, none⟩ = some (.string (str n.text)) := rb6.cell 3
      have y4 : W6.cell? ⟨w.heap.size + 1, 4, none⟩ = some (.slice A3 n.names.length c3) := rb6.cell 4
      have y5 : W6.cell? ⟨w.heap.size + 1, 5, none⟩ = some (.slice A k.len c) := rb6.cell 5
      have zz := z4.out
      have zj := Bj.size
      have o4r := own_below O4.out Bj
      refine bodyPost_ret (v := .agg (ncells n A3 c3 A k.len c).toArray) (by simp [results, Try.results8, go_sem, y0, y1, y2, y3, y4, y5, ncells]) rfl ⟨_, rfl, ?_, B6⟩
      refine ⟨A3, c3, A, c, rfl, HOK.out, ⟨hc3, hm3, hn3⟩, ⟨hcj.1, hcj.2, hk3⟩, ?_, xs, ?_, ?_⟩
      · exact (rdS_of_own o4r).keep (fun b hb => b6 b (by have := hb.1; have := HE.out.2; omega) (by have := hb.1; have := HE.out.2; omega)) (fun b hb => ⟨by have := hb.1; have := HE.out.2; omega, by rw [z6]; exact hb.2⟩)
      · exact (rdS_of_own oj).keep (fun b hb => b6 b (by have := hb.1; omega) (by have := hb.1; omega)) (fun b hb => ⟨by have := hb.1; omega, by rw [z6]; exact hb.2⟩)
      · exact Kc.keep (fun b hb => b6 b (by have := hb.1; omega) (by have := hb.1; omega)) (fun b hb => ⟨by have := hb.1; omega, by rw [z6]; exact hb.2.1⟩) _ _ KJ.out
end Go.Proofs.Ytfcbcbpnlnkpcaa
