/- ref disk: Read, List. -/
import Derived.Test.YtcoimlenejffpaaRdiskG
namespace Go.Proofs.Ytcoimlenejffpaa
set_option linter.all false
open Go.RowKit
/-- A name's bytes, and whether there is such a file. -/
def contX (X : RDS) (nm : List UInt8) : List UInt8 := if spotB nm X.L then (match X.L[spotI nm X.L]? with | some f => f.b | none => []) else []
def RetReadX (b : List UInt8) (code : Int) (w : World) (en : Ending) (w' : World) : Prop :=
  ∃ A c, en = .returned (.tuple #[.slice A b.length c, .int .i64 code]) ∧ Row w' (.slice A b.length c) b ∧ Below w.heap.size w w' ∧ b.length ≤ c ∧ c ≤ 9223372036854775807
set_option maxRecDepth 100000 in
set_option maxHeartbeats 3200000 in
theorem rread_any (base r : Nat) (X : RDS) (w : World) (h : RW w base r X) (s : List UInt8) :
    Calls Try.prog 45 #[.pointer (some ⟨r, 0, none⟩), .string (str s)] w (RetReadX (contX X s) (if spotB s X.L then 0 else 7) w) := by
  have hsp := rspot_any base r X w h s
  rcases he : spotB s X.L with _ | _
  · rw [he] at hsp
    have HSP := Lib.hid hsp
    have hc : contX X s = [] := by unfold contX; rw [he]; rfl
    have HC := Lib.hid hc
    clear hsp h hc he
    go_enter Try.func45, Try.ntmps45
    go_wp2_with fail
    refine (unhide3 HSP).mono ?_
    rintro en w1 ⟨rfl, nq, rfl⟩
    go_wp2_with fail
    go_ret2
    rw [HC.out]
    exact ⟨none, 0, rfl, Row.nil _, Drew.below ⟨nq, rfl⟩ _, by simp, by omega⟩
  · rw [he] at hsp
    obtain ⟨i, hi⟩ : ∃ i, spotI s X.L = i := ⟨_, rfl⟩
    obtain ⟨f, hf⟩ : ∃ f, X.L[i]? = some f := by
      have : spotB s X.L = true := he
      unfold spotB at this
      rw [hi] at this
      rcases hx : X.L[i]? with _ | f
      · rw [hx] at this; cases this
      · exact ⟨f, rfl⟩
    have hlt : i < X.L.length := (List.getElem?_eq_some_iff.1 hf).1
    have hc : contX X s = f.b := by unfold contX; rw [he, hi, hf]; rfl
    rw [hi] at hsp
    have HSP := Lib.hid hsp
    have HC := Lib.hid hc
    obtain ⟨g, f', hA, hg, hf', hm, k0, k1, k2, hfr, hc1, hc2⟩ := h.at_ hlt
    obtain rfl : f' = f := by rw [hf] at hf'; injection hf' with hf'; exact hf'.symm
    have hcc := h.cell
    unfold rdcells RDS.v at hcc
    have c1 : w.cell? ⟨r, 1, none⟩ = some (.slice (some ⟨g, 0, none⟩) X.L.length X.c) := by have := hcc.cell 1; rw [hA] at this; exact this
    have hbs : Hid (Bs w w.heap.size f'.A f'.b.length f'.b) := (h.file f' hm).1.bs
    have hro := h.room
    have hle : f'.b.length ≤ X.used := by
      have : ∀ L : List RFE, f' ∈ L → f'.b.length ≤ (L.map fun f => f.b.length).sum := by
        intro L
        induction L with
        | nil => intro h; simp at h
        | cons x r ih =>
          intro h
          simp only [List.map_cons, List.sum_cons]
          rcases List.mem_cons.1 h with rfl | h3
          · omega
          · have := ih h3; omega
      exact this X.L hm
    have hfew := h.few
    obtain ⟨n, hn⟩ : ∃ n, n = X.L.length := ⟨_, rfl⟩
    rw [← hn] at c1 hlt hc1 hfew
    clear hsp h hc he hi hf hf' hm hA hg hcc hfr k0 k2 hn
    go_enter Try.func45, Try.ntmps45
    go_wp2_with fail
    refine (unhide3 HSP).mono ?_
    rintro en w1 ⟨rfl, nq, rfl⟩
    obtain ⟨w1, hw1⟩ : ∃ w1, w.drewN nq = w1 := ⟨_, rfl⟩
    rw [hw1]
    have c11 : w1.cell? ⟨r, 1, none⟩ = some (.slice (some ⟨g, 0, none⟩) n X.c) := by rw [← hw1]; exact c1
    have k11 : w1.cell? ⟨g, i * 3 + 1, none⟩ = some (.slice f'.A f'.b.length f'.c) := by rw [← hw1]; exact k1
    have hbs1 : Hid (Bs w1 w1.heap.size f'.A f'.b.length f'.b) := by rw [← hw1]; exact hbs.out
    have hrl : r < w1.heap.size := World.block_lt_of_cell? w1 _ c11
    have hgl : g < w1.heap.size := World.block_lt_of_cell? w1 _ k11
    have HB1 : Hid (Below w.heap.size w w1) := Drew.below ⟨nq, hw1.symm⟩ _
    obtain ⟨w2, hw2⟩ : ∃ w2, w1.alloc (.cells #[] 5) = w2 := ⟨_, rfl⟩
    have b12 : Below w1.heap.size w1 w2 := by rw [← hw2]; exact below_refl_alloc _ _
    have c12 : w2.cell? ⟨r, 1, none⟩ = some (.slice (some ⟨g, 0, none⟩) n X.c) := (b12.cell (p := ⟨r, 1, none⟩) hrl).trans c11
    have k12 : w2.cell? ⟨g, i * 3 + 1, none⟩ = some (.slice f'.A f'.b.length f'.c) := (b12.cell (p := ⟨g, i * 3 + 1, none⟩) hgl).trans k11
    have hown : Hid (w2.ownsRow w1.heap.size 5 1 (.slice (some ⟨w1.heap.size, 0, none⟩) 0 0) 0 (([] : List UInt8).map bv)) := by show World.ownsRow _ _ _ _ _ _ _; rw [← hw2]; exact own_empty w1 _ _
    have HB12 := Lib.hid b12
    clear c1 k1 c11 k11 hbs hrl hgl b12 hw1
    go_wp2_with (first
      | (at_builtin
         refine wpB_append rfl (.tmp 16) (.tmp 24) rfl w1.heap.size _ 0 [] rfl hown.out w1.heap.size f'.A f'.b.length f'.c f'.b rfl (hbs1.out.below HB12.out) f'.b.length f'.b (by omega) rfl (by omega) HB12.out.size ?_
         intro A3 c3 w3 o3 b3 hc3 hm3)
      | fail)
    go_ret2
    rw [HC.out]
    have b13 : Below w1.heap.size w1 w3 := HB12.out.trans b3
    exact ⟨A3, c3, rfl, row_of_own o3, HB1.out.trans (b13.mono HB1.out.size), hc3, hm3⟩
theorem infoStr : (Try.prog.info? 9).map (fun i => (i.zero, i.size, i.bytes)) = some (some (.string ⟨#[]⟩), 1, 16) := by kernel_rfl
theorem sv_one (l : List (List UInt8)) : ∀ u ∈ l.map sv, u.oneCell' = true := by
  intro u hu
  obtain ⟨b, _, rfl⟩ := List.mem_map.1 hu
  rfl
theorem wpS_append {ops : Array Oper} {rest : List Oper} {o : Oper} {a : Act} {Q : Exit → Act → World → Prop} {w : World} (hgd : o.guard = none) (s x : Operand)
    (ho : o.op = .call { callee := .builtin .append, args := #[s, x], argTypes := #[40, 40] })
    (base : Nat) (v : Value) (n : Nat) (l : List (List UInt8)) (hs : a.eval s = v) (hown : w.ownsRow base 9 1 v n (l.map sv))
    (B : Nat) (A : Option Addr) (m c : Nat) (l' : List (List UInt8)) (hx : a.eval x = .slice A m c) (hr : Rd w B 1 A m (l'.map sv))
    (N : Nat) (L : List (List UInt8)) (hN : N = n + m) (hL : L = l ++ l') (hsm : N ≤ 8796093022207) (hbase : base ≤ w.heap.size)
    (h : ∀ A' c' w', w'.ownsRow base 9 1 (.slice A' N c') N (L.map sv) → Below base w w' → N ≤ c' → c' ≤ 9223372036854775807 → wpList Try.prog ops Q rest (a.put o.dst (.slice A' N c')) w') : wpList Try.prog ops Q (o :: rest) a w := by
  subst hN
  subst hL
  obtain ⟨i0, hi, hz0, hz1, hz2⟩ := info_parts infoStr
  refine wpList_append_rd w hgd s x _ ho base 9 i0 _ 1 16 Try.underlying40 hi hz0 hz1 hz2 rfl (by omega) v n _ hs hown B A m c _ hx hr (sv_one _) (by simp only [maxLen]; omega) (by omega) hbase ?_
  rw [List.map_append] at h
  intro A' c' w' h1 h2
  exact h A' c' w' h1 h2 (own_cap h1).1 (own_cap h1).2
set_option maxRecDepth 100000 in
set_option maxHeartbeats 3200000 in
theorem rlist_any (base r : Nat) (X : RDS) (w : World) (h : RW w base r X) :
    Calls Try.prog 46 #[.pointer (some ⟨r, 0, none⟩)] w (RetOwn 9 1 X.L.length ((X.L.map (·.s)).map sv) w) := by
  have H := Lib.hid h
  have hfew := h.few
  have hcap := h.cap
  obtain ⟨n, hn⟩ : ∃ n, n = X.L.length := ⟨_, rfl⟩
  rw [← hn] at hfew hcap
  have HN := Lib.hid hn
  clear h
  rw [← hn]
  clear hn
  go_enter Try.func46, Try.ntmps46
  go_wp2_with fail
  go_loopw [3, 4] (fun s3 s4 wr => ∃ (i : Nat) (A : Option Addr) (c : Nat), i ≤ n ∧ s4 = .int .i64 (i : Int) ∧ s3 = .slice A i c ∧ i ≤ c ∧ c ≤ 9223372036854775807 ∧ Hid (wr.ownsRow w.heap.size 9 1 (.slice A i c) i (((X.L.map (·.s)).take i).map sv)) ∧ Hid (Below w.heap.size w wr)) (fun s3 s4 _ => n - (intOf s4).toNat)
  case atStart => exact ⟨0, none, 0, Nat.zero_le _, rfl, rfl, by omega, by omega, World.ownsRow_nil _ _ _ _, Below.refl _ _⟩
  case round =>
    obtain ⟨i, A, c, hi, rfl, rfl, hic, hcm, HO, HB⟩ := hrel
    have hd := H.out.below HB.out
    have c1 : wr.cell? ⟨r, 1, none⟩ = some (.slice X.A n X.c) := by have h9 := hd.cell; unfold rdcells RDS.v at h9; have h8 := h9.cell 1; rw [← HN.out] at h8; exact h8
    by_cases hlt : i < n
    · obtain ⟨g, f, hA, hg, hf, hm, k0, k1, k2, hfr, hc1, hc2⟩ := hd.at_ (show i < X.L.length by rw [← HN.out]; exact hlt)
      have hst : Hid ((X.L.map (·.s)).take (i + 1) = (X.L.map (·.s)).take i ++ [f.s]) := by
        show _ = _
        rw [List.take_add_one, List.getElem?_map, hf]; rfl
      rw [hA] at c1
      clear hd hf hm hg hfr k1 k2 hA
      go_wp2_with (first
        | (at_builtin
           refine wpS_append rfl (.tmp 14) (.tmp 23) rfl w.heap.size _ i ((X.L.map (·.s)).take i) rfl (HO.out.alloc _) (wr.heap.size + 1) (some ⟨wr.heap.size, 0, none⟩) 1 1 [f.s] rfl (Rd.one_new wr (sv f.s) 9) (i + 1) ((X.L.map (·.s)).take (i + 1)) rfl hst.out (by omega) (by have := HB.out.size; simp; omega) ?_
           intro A3 c3 w3 o3 b3 hc3 hm3
           have H3 := Lib.hid (And.intro o3 ((HB.out.trans ((Below.refl _ _).alloc HB.out.size _)).trans b3))
           clear o3 b3)
        | fail)
      go_roundw
      case rel => exact ⟨i + 1, A3, c3, by omega, by go_num, rfl, hc3, hm3, H3.out.1, H3.out.2⟩
      case measure => simp [intOf]; omega
    · have hin : i = n := by omega
      have hfin : Hid ((X.L.map (·.s)).take i = X.L.map (·.s)) := by show _ = _; rw [List.take_of_length_le (by rw [List.length_map, ← HN.out]; omega)]
      clear hd
      subst hin
      go_wp2_with fail
      go_ret
      refine ⟨A, c, rfl, ?_, HB.out, hic, hcm⟩
      have := HO.out
      rw [hfin.out] at this
      simpa using this
end Go.Proofs.Ytcoimlenejffpaa
