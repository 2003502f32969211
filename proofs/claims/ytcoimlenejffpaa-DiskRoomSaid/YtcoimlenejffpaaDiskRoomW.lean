/- DiskRoom: what the law computes: true. -/
import Derived.Test.YtcoimlenejffpaaDiskRoomA
import Derived.Test.YtcoimlenejffpaaOpenD
import Derived.Deep.RegionHeld3
namespace Go.Proofs.Ytcoimlenejffpaa
set_option linter.all false
open Go.RowKit
/-- Behind i rows. -/
structure RS (W : World) (d room : Nat) (R : List (List UInt8)) (i : Nat) (S : DS) (wr : World) : Prop where
  dw : DW wr W.heap.size d S
  fused : S.fused = false
  room : S.room = room
  few : S.E.length ≤ i
  bel : Below W.heap.size W wr
theorem wpB_append_op {o : Oper} {a : Act} {K : Act → World → Prop} {Q : Exit → Act → World → Prop} {w : World} (s x : Operand)
    (ho : o.op = .call { callee := .builtin .append, args := #[s, x], argTypes := #[23, 23] })
    (base : Nat) (v : Value) (n : Nat) (l : List UInt8) (hs : a.eval s = v) (hown : w.ownsRow base 5 1 v n (l.map bv))
    (B : Nat) (A : Option Addr) (m c : Nat) (l' : List UInt8) (hx : a.eval x = .slice A m c) (hr : Bs w B A m l')
    (N : Nat) (L : List UInt8) (hN : N = n + m) (hL : L = l ++ l') (hsm : N ≤ 140737488355328) (hbase : base ≤ w.heap.size)
    (h : ∀ A' c' w', w'.ownsRow base 5 1 (.slice A' N c') N (L.map bv) → Below base w w' → N ≤ c' → c' ≤ 9223372036854775807 → K (a.put o.dst (.slice A' N c')) w') : o.wp Try.prog a w K Q := by
  subst hN
  subst hL
  obtain ⟨i0, hi, hz0, hz1, hz2⟩ := info_parts infoU8
  refine wp_append_rd w s x _ ho base 5 i0 _ 1 1 Try.underlying23 hi hz0 hz1 hz2 rfl (by omega) v n _ hs hown B A m c _ hx hr (bv_one _) (by simp only [maxLen]; omega) (by omega) hbase ?_
  rw [List.map_append] at h
  intro A' c' w' h1 h2
  exact h A' c' w' h1 h2 (own_cap h1).1 (own_cap h1).2
theorem cont_le (S : DS) (nm : List UInt8) : (cont S nm).length ≤ S.used := by
  unfold cont
  split
  · rename_i e he; exact mem_le_sum (getE_mem he).1
  · simp
def rname (i : Nat) : List UInt8 := [102, UInt8.ofNat (i % 3)]
theorem rname_ok (i : Nat) : okName (rname i) = true := by simp [okName, rname]
theorem rname_len (i : Nat) : (rname i).length ≤ 140737488351232 := by simp [rname]
theorem rname_bs (w : World) (i : Nat) (T : TypeId) : Bs (w.alloc (.cells #[.int .u8 102, .int .u8 ((i % 3 : Nat) : Int)] T)) (w.alloc (.cells #[.int .u8 102, .int .u8 ((i % 3 : Nat) : Int)] T)).heap.size (some ⟨w.heap.size, 0, none⟩) 2 (rname i) :=
  Bs.lit w T _ _ (rname i) 2 (by
    have h : (UInt8.ofNat (i % 3)).toNat = i % 3 := by rw [UInt8.toNat_ofNat']; omega
    simp [rname, bv, h]) rfl
set_option maxRecDepth 100000 in
set_option maxHeartbeats 3200000 in
theorem diskRoom_walk (A : Option Addr) (c : Nat) (vs : List Value) (R : List (List UInt8)) (n : Int) (W : World) (hR : RowsB W W.heap.size A vs R) (hc : R.length ≤ c) (hm : c ≤ 140737488351232)
    (s1 : -9223372036854775808 ≤ n) (s2 : n ≤ 9223372036854775807) :
    Calls Try.prog 4 #[.int .i64 n, .slice A R.length c] W (Ret (.bool true) W) := by
  have HRO := Lib.hid hR
  clear hR
  have cvb := fun (w : World) (B n : Nat) (A : Option Addr) (l : List UInt8) (c : Nat) (h : Bs w B A n l) => run_convert_bs (P := Try.prog) h 23 5 9 c Try.underlying23 Try.underlying5 Try.underlying9
  have CVB := Lib.hid cvb
  clear cvb
  obtain ⟨N, hN⟩ : ∃ N, N = R.length := ⟨_, rfl⟩
  rw [← hN] at hc ⊢
  have HN := Lib.hid hN
  clear hN
  go_enter Try.func4, Try.ntmps4
  go_wp2_with fail
  go_loop [5, 6] (fun s7 s8 => ∃ (t i : Nat), i ≤ N ∧ s8 = .int .i64 (i : Int) ∧ s7 = .int .i64 (t : Int) ∧ t ≤ 150000000000000 ∧ Hid (t = tot (R.take i))) (fun s7 s8 => N - (intOf s8).toNat)
  case atStart => exact ⟨0, 0, Nat.zero_le _, rfl, rfl, by omega, by show _ = _; simp [tot_nil]⟩
  case round =>
    obtain ⟨t, i, hi, rfl, rfl, ht, HT⟩ := hrel
    by_cases hlt : i < N
    · by_cases h8 : t ≤ 8000
      · obtain ⟨g, off, A', c', l, rfl, _, hl, hcell, h1, h2, _⟩ := HRO.out.at_ (show i < R.length by rw [← HN.out]; exact hlt)
        have HT2 : Hid (t + 1 + l.length = tot (R.take (i + 1))) := by show _ = _; rw [tot_take hl, HT.out]
        clear HT hl
        have q1 : decide ((t : Int) ≤ 8000) = true := decide_eq_true (by omega)
        go_wp2_with fail
        go_round
        case rel => exact ⟨t + 1 + l.length, i + 1, by omega, by go_num, by go_num, by omega, HT2.out⟩
        case measure => simp [intOf]; omega
      · have q1 : decide ((t : Int) ≤ 8000) = false := decide_eq_false (by omega)
        have q2 : decide (8000 < (t : Int)) = true := decide_eq_true (by omega)
        go_wp2_with fail
        refine (known3_any W).mono ?_
        rintro e w1 ⟨rfl, b1⟩
        go_wp2_with fail
        go_ret
        exact ⟨rfl, b1⟩
    · by_cases h8 : 8000 < t
      · have q2 : decide (8000 < (t : Int)) = true := decide_eq_true (by omega)
        go_wp2_with fail
        refine (known3_any W).mono ?_
        rintro e w1 ⟨rfl, b1⟩
        go_wp2_with fail
        go_ret
        exact ⟨rfl, b1⟩
      · have q2 : decide (8000 < (t : Int)) = false := decide_eq_false (by omega)
        by_cases hn0 : n < 0
        · have q3 : decide (n < 0) = true := decide_eq_true hn0
          go_wp2_with fail
          refine (known3_any W).mono ?_
          rintro e w1 ⟨rfl, b1⟩
          go_wp2_with fail
          go_ret
          exact ⟨rfl, b1⟩
        · have q3 : decide (n < 0) = false := decide_eq_false hn0
          by_cases hn1 : 5000 < n
          · have q4 : decide (5000 < n) = true := decide_eq_true hn1
            go_wp2_with fail
            refine (known3_any W).mono ?_
            rintro e w1 ⟨rfl, b1⟩
            go_wp2_with fail
            go_ret
            exact ⟨rfl, b1⟩
          · have q4 : decide (5000 < n) = false := decide_eq_false hn1
            by_cases hn2 : 60 < N
            · have q5 : decide (60 < (N : Int)) = true := decide_eq_true (by omega)
              go_wp2_with fail
              refine (known3_any W).mono ?_
              rintro e w1 ⟨rfl, b1⟩
              go_wp2_with fail
              go_ret
              exact ⟨rfl, b1⟩
            · have q5 : decide (60 < (N : Int)) = false := decide_eq_false (by omega)
              obtain ⟨k, rfl⟩ : ∃ k : Nat, n = (k : Int) := ⟨n.toNat, by omega⟩
              have hiN : i = N := by omega
              have HTT : Hid (tot R ≤ 8000) := by show _ ≤ _; have := HT.out; rw [hiN, HN.out, List.take_length] at this; omega
              clear HT
              go_wp2_with fail
              refine (new_any k (by omega) W).mono ?_
              rintro e w1 ⟨d, m, rfl, hd1, b1⟩
              have HF0 : Hid (RS W d k R 0 (newS k m) w1) := ⟨hd1, rfl, rfl, by simp [newS], b1⟩
              clear hd1 b1
              go_wp2_with fail
              go_loopw [9] (fun s9 wr => ∃ (i : Nat) (S : DS), i ≤ N ∧ s9 = .int .i64 (i : Int) ∧ Hid (RS W d k R i S wr)) (fun s9 _ => N - (intOf s9).toNat)
              case atStart => exact ⟨0, _, Nat.zero_le _, rfl, HF0.out⟩
              case round =>
                obtain ⟨i, S, hi, rfl, HK⟩ := hrel
                clear HF0
                by_cases hlt : i < N
                · obtain ⟨g, off, A', c', l, rfl, hgl, hl, hcell, h1, h2, h3⟩ := HRO.out.at_ (show i < R.length by rw [← HN.out]; exact hlt)
                  have hll : l.length ≤ 8000 := by have := len_at hl; have := HTT.out; omega
                  have HX : Hid (∀ w' : World, Below W.heap.size W w' → w'.cell? ⟨g, off + i, none⟩ = some (.slice A' l.length c') ∧ Bs w' w'.heap.size A' l.length l) := fun w' hb => ⟨(hb.cell (p := ⟨g, off + i, none⟩) hgl).trans hcell, (h3.below hb).more hb.size⟩
                  clear h3 hl hcell
                  have hmod : ((i : Int) % 3) % 256 = ((i % 3 : Nat) : Int) := by omega
                  have hmod2 : (i : Int).tmod 3 = ((i % 3 : Nat) : Int) := by rw [Int.tmod_eq_emod_of_nonneg (by omega)]; omega
                  have hmod3 : IntKind.u8.wrap ((i % 3 : Nat) : Int) = ((i % 3 : Nat) : Int) := by rw [IntKind.wrap_u8]; omega
                  have hconv := CVB.out _ _ _ _ _ 2 (rname_bs wr i 5)
                  generalize hq : i % 3 = q at *
                  go_wp2_with fail
                  obtain ⟨nm, hnm⟩ : ∃ nm, rname i = nm := ⟨_, rfl⟩
                  have hok : okName nm = true := by rw [← hnm]; exact rname_ok i
                  have hnl : nm.length ≤ 140737488351232 := by rw [← hnm]; exact rname_len i
                  rw [hnm]
                  have HOK := Lib.hid (And.intro hok (may_ok (S := S) (by rw [HK.out.fused]; simp) hok))
                  clear hok hconv hmod hmod2 hmod3 hq hnm
                  have hd0 := HK.out.dw.below (below_refl_alloc wr (.cells #[.int .u8 102, .int .u8 (q : Int)] 5))
                  refine (read_any W.heap.size d S _ hd0 nm hnl).mono ?_
                  rintro e w2 ⟨A1, c1, code1, rfl, r1, o1, b1, hc1, hm1⟩
                  have H2 := Lib.hid (And.intro (hd0.below b1) (And.intro (Own.of_read hd0 r1 o1) ((below_refl_alloc wr _).trans (b1.mono (by simp)))))
                  have hbel2 : Below W.heap.size W w2 := HK.out.bel.trans (H2.out.2.2.mono HK.out.bel.size)
                  have HB2 := Lib.hid hbel2
                  obtain ⟨n1, hn1⟩ : ∃ n1, n1 = (cont S nm).length := ⟨_, rfl⟩
                  rw [← hn1] at hc1 ⊢
                  have H2' : Hid (Own w2 W.heap.size d S (.slice A1 n1 c1) (cont S nm)) := by rw [hn1]; exact H2.out.2.1
                  have HN1 := Lib.hid hn1
                  clear r1 o1 b1 hd0 hbel2 hn1
                  go_wp2_with fail
                  refine (used_any W.heap.size d S w2 H2.out.1).mono ?_
                  rintro e w3 ⟨rfl, b3⟩
                  have H3 := Lib.hid (And.intro (H2.out.1.below b3) (And.intro (H2'.out.below b3) (HB2.out.trans (b3.mono HB2.out.size))))
                  have hcell3 := (HX.out w3 H3.out.2.2).1
                  have HBS3 := Lib.hid (HX.out w3 H3.out.2.2).2
                  have hus : S.used ≤ k := by have := HK.out.dw.room.1; rw [HK.out.room] at this; exact this
                  clear b3 H2 H2' HB2
                  go_wp2_with fail
                  refine (append_any W.heap.size d S w3 H3.out.1 nm l hnl A' l.length c' HBS3.out (by omega) (by have := HK.out.few; omega)).mono ?_
                  rintro e w4 ⟨code, S4, rfl, hr, hd4, ht4, hs4⟩
                  have hb34 : Below W.heap.size w3 w4 := RetD.below H3.out.1 ht4
                  have HOR := Lib.hid HK.out.room
                  by_cases hfit : S.used + l.length ≤ k
                  · obtain ⟨rfl, hct, hu4, hf4, hr4, hl4⟩ := app_fit H3.out.1 hr HOK.out.2 (by rw [HOR.out]; exact hfit) (by have := HK.out.few; omega)
                    have H4 := Lib.hid (And.intro hd4 (And.intro (H3.out.2.1.disk ht4 hs4) (And.intro (H3.out.2.2.trans hb34) (And.intro hct (And.intro hu4 (And.intro (hf4.trans HK.out.fused) (And.intro (hr4.trans HK.out.room) (Nat.le_trans hl4 (Nat.add_le_add_right HK.out.few 1)))))))))
                    have hcell4 := (HX.out w4 H4.out.2.2.1).1
                    clear hr hd4 ht4 hs4 hb34 hct hu4 hf4 hr4 hl4 hcell3 HBS3
                    go_wp2_with fail
                    refine (read_any W.heap.size d S4 w4 H4.out.1 nm hnl).mono ?_
                    rintro e w5 ⟨A5, c5, code5, rfl, r5, o5, b5, hc5, hm5⟩
                    have hbel5 : Below W.heap.size W w5 := H4.out.2.2.1.trans (b5.mono H4.out.2.2.1.size)
                    obtain ⟨n5, hn5⟩ : ∃ n5, n5 = (cont S4 nm).length := ⟨_, rfl⟩
                    have H5 := Lib.hid (And.intro (H4.out.1.below b5) (And.intro ((H4.out.2.1.below b5).1) (And.intro hbel5 r5)))
                    have hcell5 := (HX.out w5 hbel5).1
                    rw [← hn5] at hc5 ⊢
                    have HN5 := Lib.hid hn5
                    have hu3 : decide (k < S4.used) = false := decide_eq_false (by rw [H4.out.2.2.2.2.1]; omega)
                    have hu : (decide ((S4.used : Int) > (k : Int))) = false := decide_eq_false (by rw [H4.out.2.2.2.2.1]; omega)
                    have hu2 : decide ((k : Int) < (S4.used : Int)) = false := decide_eq_false (by rw [H4.out.2.2.2.2.1]; omega)
                    have hn1l : n1 ≤ 6000 := by rw [HN1.out]; exact Nat.le_trans (cont_le S nm) (by omega)
                    have hn5l : n5 ≤ 14000 := by rw [HN5.out, H4.out.2.2.2.1, List.length_append, ← HN1.out]; omega
                    have qf : decide ((S.used : Int) + (l.length : Int) ≤ (k : Int)) = true := decide_eq_true (by omega)
                    have hw : IntKind.i64.wrap ((S.used : Int) + (l.length : Int)) = (S.used : Int) + (l.length : Int) := IntWalk.i64_in _ ⟨by omega, by omega⟩
                    clear hn5 b5 r5 o5 hbel5 hcell4
                    go_wp2_with fail
                    have HAT : Hid (∀ w', Below w5.heap.size w5 w' → w'.cell? ⟨g, off + i, none⟩ = some (.slice A' l.length c') ∧ Below w5.heap.size w5 w') := fun w' hb => ⟨(HX.out w' (H5.out.2.2.1.trans (hb.mono H5.out.2.2.1.size))).1, hb⟩
                    refine wp_region_held_drew (S := fun w' => w'.cell? ⟨g, off + i, none⟩ = some (.slice A' l.length c') ∧ Below w5.heap.size w5 w') (by kernel_rfl) (HAT.out _ ⟨rfl, rfl, rfl, Nat.le_refl _, fun _ _ => rfl⟩) (fun hHeld => ?_)
                    refine wpAnyH_take (i := 0) (oi := { dst := some 104, op := Op.move (Operand.tmp 14), type := 26, pos := "more.go:28", after := #[], guard := none }) (v := ?v0) rfl (by kernel_rfl) (by kernel_rfl) (by kernel_rfl) (fun _ _ _ h => h) (Or.inl ⟨by rfl, ?h0⟩) (by assumption) ?r0
                    case h0 => (intro w hSw; (try dsimp only at hSw); go_simp; try with_reducible rfl)
                    try simp only [Act.put, List.setIfInBounds_toArray, List.set_cons_zero, List.set_cons_succ]
                    refine wpAnyH_take (i := 1) (oi := { dst := some 105, op := Op.binOp BinOp.eql 26 (Operand.tmp 104) (Operand.const (Value.int IntKind.i64 0)) 26, type := 4, pos := "more.go:28", after := #[{ on := 0, ground := Ground.data }], guard := none }) (v := ?v1) rfl (by kernel_rfl) (by kernel_rfl) (by kernel_rfl) (fun _ _ _ h => h) (Or.inl ⟨by rfl, ?h1⟩) (by assumption) ?r1
                    case h1 => (intro w hSw; (try dsimp only at hSw); go_simp; try with_reducible rfl)
                    try simp only [Act.put, List.setIfInBounds_toArray, List.set_cons_zero, List.set_cons_succ]
                    refine wpAnyH_take (i := 2) (oi := { dst := some 106, op := Op.move (Operand.tmp 17), type := 4, pos := "more.go:28", after := #[], guard := none }) (v := ?v2) rfl (by kernel_rfl) (by kernel_rfl) (by kernel_rfl) (fun _ _ _ h => h) (Or.inl ⟨by rfl, ?h2⟩) (by assumption) ?r2
                    case h2 => (intro w hSw; (try dsimp only at hSw); go_simp; try with_reducible rfl)
                    try simp only [Act.put, List.setIfInBounds_toArray, List.set_cons_zero, List.set_cons_succ]
                    refine wpAnyH_take (i := 3) (oi := { dst := some 107, op := Op.binOp BinOp.neq 4 (Operand.tmp 105) (Operand.tmp 106) 4, type := 4, pos := "more.go:28", after := #[{ on := 1, ground := Ground.data }, { on := 2, ground := Ground.data }], guard := none }) (v := ?v3) rfl (by kernel_rfl) (by kernel_rfl) (by kernel_rfl) (fun _ _ _ h => h) (Or.inl ⟨by rfl, ?h3⟩) (by assumption) ?r3
                    case h3 => (intro w hSw; (try dsimp only at hSw); go_simp; try with_reducible rfl)
                    try simp only [Act.put, List.setIfInBounds_toArray, List.set_cons_zero, List.set_cons_succ]
                    refine wpAnyH_take (i := 4) (oi := { dst := some 108, op := Op.move (Operand.tmp 107), type := 4, pos := "more.go:28", after := #[{ on := 3, ground := Ground.data }], guard := none }) (v := ?v4) rfl (by kernel_rfl) (by kernel_rfl) (by kernel_rfl) (fun _ _ _ h => h) (Or.inl ⟨by rfl, ?h4⟩) (by assumption) ?r4
                    case h4 => (intro w hSw; (try dsimp only at hSw); go_simp; try with_reducible rfl)
                    try simp only [Act.put, List.setIfInBounds_toArray, List.set_cons_zero, List.set_cons_succ]
                    refine wpAnyH_take (i := 5) (oi := { dst := some 109, op := Op.move (Operand.tmp 7), type := 25, pos := "more.go:28", after := #[{ on := 4, ground := Ground.guard }], guard := some (4, false) }) (v := ?v5) rfl (by kernel_rfl) (by kernel_rfl) (by kernel_rfl) (fun _ _ _ h => h) (Or.inl ⟨by rfl, ?h5⟩) (by assumption) ?r5
                    case h5 => (intro w hSw; (try dsimp only at hSw); go_simp; try with_reducible rfl)
                    try simp only [Act.put, List.setIfInBounds_toArray, List.set_cons_zero, List.set_cons_succ]
                    refine wpAnyH_take (i := 7) (oi := { dst := some 111, op := Op.move (Operand.tmp 0), type := 3, pos := "more.go:28", after := #[{ on := 4, ground := Ground.guard }], guard := some (4, false) }) (v := ?v7) rfl (by kernel_rfl) (by kernel_rfl) (by kernel_rfl) (fun _ _ _ h => h) (Or.inl ⟨by rfl, ?h7⟩) (by assumption) ?r7
                    case h7 => (intro w hSw; (try dsimp only at hSw); go_simp; try with_reducible rfl)
                    try simp only [Act.put, List.setIfInBounds_toArray, List.set_cons_zero, List.set_cons_succ]
                    refine wpAnyH_ready (rs := [6]) (by kernel_rfl) (by simp) ?_
                    refine AllReadyH.cons (o := { dst := some 110, op := Op.call { callee := Callee.value (Operand.func 16), args := #[Operand.tmp 109], argTypes := #[25] }, type := 3, pos := "more.go:28", after := #[{ on := 5, ground := Ground.data }, { on := 4, ground := Ground.chain }, { on := 4, ground := Ground.guard }], guard := some (4, false) }) rfl (fun K hK => ?_) AllReadyH.nil
                    go_simp
                    refine (used_any W.heap.size d S4 _ (H5.out.1.below hHeld.2)).mono ?_
                    rintro e w6 ⟨rfl, b6⟩
                    have hst := HAT.out w6 (hHeld.2.trans (b6.mono hHeld.2.size))
                    have hu6 := hu
                    clear b6 hHeld
                    go_wp2_with fail
                    refine hK.out _ _ (hst) (fun hHeld => ?_)
                    clear hK K
                    try simp only [Act.put, List.setIfInBounds_toArray, List.set_cons_zero, List.set_cons_succ]
                    refine wpAnyH_take (i := 8) (oi := { dst := some 112, op := Op.binOp BinOp.gtr 3 (Operand.tmp 110) (Operand.tmp 111) 3, type := 4, pos := "more.go:28", after := #[{ on := 6, ground := Ground.data }, { on := 7, ground := Ground.data }, { on := 4, ground := Ground.guard }], guard := some (4, false) }) (v := ?v8) rfl (by kernel_rfl) (by kernel_rfl) (by kernel_rfl) (fun _ _ _ h => h) (Or.inl ⟨by rfl, ?h8⟩) (by assumption) ?r8
                    case h8 => (intro w hSw; (try dsimp only at hSw); go_simp; try with_reducible rfl)
                    try simp only [Act.put, List.setIfInBounds_toArray, List.set_cons_zero, List.set_cons_succ]
                    refine wpAnyH_take (i := 9) (oi := { dst := some 113, op := Op.pick (Operand.tmp 108) (Operand.const (Value.bool true)) (Operand.tmp 112), type := 4, pos := "more.go:28", after := #[{ on := 4, ground := Ground.data }, { on := 8, ground := Ground.data }], guard := none }) (v := ?v9) rfl (by kernel_rfl) (by kernel_rfl) (by kernel_rfl) (fun _ _ _ h => h) (Or.inl ⟨by rfl, ?h9⟩) (by assumption) ?r9
                    case h9 => (intro w hSw; (try dsimp only at hSw); go_simp; try with_reducible rfl)
                    try simp only [Act.put, List.setIfInBounds_toArray, List.set_cons_zero, List.set_cons_succ]
                    refine wpAnyH_take (i := 10) (oi := { dst := some 114, op := Op.move (Operand.tmp 113), type := 4, pos := "more.go:28", after := #[{ on := 9, ground := Ground.data }, { on := 6, ground := Ground.chain }], guard := none }) (v := ?v10) rfl (by kernel_rfl) (by kernel_rfl) (by kernel_rfl) (fun _ _ _ h => h) (Or.inl ⟨by rfl, ?h10⟩) (by assumption) ?r10
                    case h10 => (intro w hSw; (try dsimp only at hSw); go_simp; try with_reducible rfl)
                    try simp only [Act.put, List.setIfInBounds_toArray, List.set_cons_zero, List.set_cons_succ]
                    refine wpAnyH_take (i := 11) (oi := { dst := some 115, op := Op.move (Operand.tmp 17), type := 4, pos := "more.go:28", after := #[{ on := 10, ground := Ground.guard }], guard := some (10, false) }) (v := ?v11) rfl (by kernel_rfl) (by kernel_rfl) (by kernel_rfl) (fun _ _ _ h => h) (Or.inl ⟨by rfl, ?h11⟩) (by assumption) ?r11
                    case h11 => (intro w hSw; (try dsimp only at hSw); go_simp; try with_reducible rfl)
                    try simp only [Act.put, List.setIfInBounds_toArray, List.set_cons_zero, List.set_cons_succ]
                    refine wpAnyH_take (i := 12) (oi := { dst := some 116, op := Op.unOp UnOp.not 4 (Operand.tmp 115), type := 4, pos := "more.go:28", after := #[{ on := 11, ground := Ground.data }, { on := 10, ground := Ground.guard }], guard := some (10, false) }) (v := ?v12) rfl (by kernel_rfl) (by kernel_rfl) (by kernel_rfl) (fun _ _ _ h => h) (Or.inl ⟨by rfl, ?h12⟩) (by assumption) ?r12
                    case h12 => (intro w hSw; (try dsimp only at hSw); go_simp; try with_reducible rfl)
                    try simp only [Act.put, List.setIfInBounds_toArray, List.set_cons_zero, List.set_cons_succ]
                    refine wpAnyH_take (i := 13) (oi := { dst := some 117, op := Op.move (Operand.tmp 116), type := 4, pos := "more.go:28", after := #[{ on := 12, ground := Ground.data }, { on := 10, ground := Ground.chain }, { on := 10, ground := Ground.guard }], guard := some (10, false) }) (v := ?v13) rfl (by kernel_rfl) (by kernel_rfl) (by kernel_rfl) (fun _ _ _ h => h) (Or.inl ⟨by rfl, ?h13⟩) (by assumption) ?r13
                    case h13 => (intro w hSw; (try dsimp only at hSw); go_simp; try with_reducible rfl)
                    try simp only [Act.put, List.setIfInBounds_toArray, List.set_cons_zero, List.set_cons_succ]
                    refine wpAnyH_take (i := 14) (oi := { dst := some 118, op := Op.move (Operand.tmp 15), type := 23, pos := "more.go:28", after := #[{ on := 13, ground := Ground.guard }], guard := some (13, true) }) (v := undef) rfl (by kernel_rfl) (by kernel_rfl) (by kernel_rfl) (fun _ _ _ h => h) (Or.inr ⟨by rfl, rfl⟩) (by assumption) ?_
                    try simp only [Act.put, List.setIfInBounds_toArray, List.set_cons_zero, List.set_cons_succ]
                    refine wpAnyH_take (i := 15) (oi := { dst := some 119, op := Op.move (Operand.tmp 11), type := 23, pos := "more.go:28", after := #[{ on := 13, ground := Ground.guard }], guard := some (13, true) }) (v := undef) rfl (by kernel_rfl) (by kernel_rfl) (by kernel_rfl) (fun _ _ _ h => h) (Or.inr ⟨by rfl, rfl⟩) (by assumption) ?_
                    try simp only [Act.put, List.setIfInBounds_toArray, List.set_cons_zero, List.set_cons_succ]
                    refine wpAnyH_take (i := 16) (oi := { dst := some 120, op := Op.call { callee := Callee.value (Operand.func 15), args := #[Operand.tmp 118, Operand.tmp 119], argTypes := #[23, 23] }, type := 4, pos := "more.go:28", after := #[{ on := 14, ground := Ground.data }, { on := 15, ground := Ground.data }, { on := 13, ground := Ground.chain }, { on := 13, ground := Ground.guard }], guard := some (13, true) }) (v := undef) rfl (by kernel_rfl) (by kernel_rfl) (by kernel_rfl) (fun _ _ _ h => h) (Or.inr ⟨by rfl, rfl⟩) (by assumption) ?_
                    try simp only [Act.put, List.setIfInBounds_toArray, List.set_cons_zero, List.set_cons_succ]
                    refine wpAnyH_take (i := 17) (oi := { dst := some 121, op := Op.unOp UnOp.not 4 (Operand.tmp 120), type := 4, pos := "more.go:28", after := #[{ on := 16, ground := Ground.data }, { on := 13, ground := Ground.guard }], guard := some (13, true) }) (v := undef) rfl (by kernel_rfl) (by kernel_rfl) (by kernel_rfl) (fun _ _ _ h => h) (Or.inr ⟨by rfl, rfl⟩) (by assumption) ?_
                    try simp only [Act.put, List.setIfInBounds_toArray, List.set_cons_zero, List.set_cons_succ]
                    refine wpAnyH_take (i := 18) (oi := { dst := some 122, op := Op.move (Operand.tmp 121), type := 4, pos := "more.go:28", after := #[{ on := 17, ground := Ground.data }, { on := 16, ground := Ground.chain }, { on := 13, ground := Ground.guard }], guard := some (13, true) }) (v := undef) rfl (by kernel_rfl) (by kernel_rfl) (by kernel_rfl) (fun _ _ _ h => h) (Or.inr ⟨by rfl, rfl⟩) (by assumption) ?_
                    try simp only [Act.put, List.setIfInBounds_toArray, List.set_cons_zero, List.set_cons_succ]
                    refine wpAnyH_take (i := 19) (oi := { dst := some 123, op := Op.move (Operand.tmp 7), type := 25, pos := "more.go:28", after := #[{ on := 18, ground := Ground.guard }], guard := some (18, false) }) (v := undef) rfl (by kernel_rfl) (by kernel_rfl) (by kernel_rfl) (fun _ _ _ h => h) (Or.inr ⟨by rfl, rfl⟩) (by assumption) ?_
                    try simp only [Act.put, List.setIfInBounds_toArray, List.set_cons_zero, List.set_cons_succ]
                    refine wpAnyH_take (i := 20) (oi := { dst := some 124, op := Op.call { callee := Callee.value (Operand.func 16), args := #[Operand.tmp 123], argTypes := #[25] }, type := 3, pos := "more.go:28", after := #[{ on := 19, ground := Ground.data }, { on := 18, ground := Ground.chain }, { on := 18, ground := Ground.guard }], guard := some (18, false) }) (v := undef) rfl (by kernel_rfl) (by kernel_rfl) (by kernel_rfl) (fun _ _ _ h => h) (Or.inr ⟨by rfl, rfl⟩) (by assumption) ?_
                    try simp only [Act.put, List.setIfInBounds_toArray, List.set_cons_zero, List.set_cons_succ]
                    refine wpAnyH_take (i := 21) (oi := { dst := some 125, op := Op.move (Operand.tmp 13), type := 3, pos := "more.go:28", after := #[{ on := 18, ground := Ground.guard }], guard := some (18, false) }) (v := undef) rfl (by kernel_rfl) (by kernel_rfl) (by kernel_rfl) (fun _ _ _ h => h) (Or.inr ⟨by rfl, rfl⟩) (by assumption) ?_
                    try simp only [Act.put, List.setIfInBounds_toArray, List.set_cons_zero, List.set_cons_succ]
                    refine wpAnyH_take (i := 22) (oi := { dst := some 126, op := Op.binOp BinOp.neq 3 (Operand.tmp 124) (Operand.tmp 125) 3, type := 4, pos := "more.go:28", after := #[{ on := 20, ground := Ground.data }, { on := 21, ground := Ground.data }, { on := 18, ground := Ground.guard }], guard := some (18, false) }) (v := undef) rfl (by kernel_rfl) (by kernel_rfl) (by kernel_rfl) (fun _ _ _ h => h) (Or.inr ⟨by rfl, rfl⟩) (by assumption) ?_
                    try simp only [Act.put, List.setIfInBounds_toArray, List.set_cons_zero, List.set_cons_succ]
                    refine wpAnyH_take (i := 23) (oi := { dst := some 127, op := Op.pick (Operand.tmp 122) (Operand.const (Value.bool true)) (Operand.tmp 126), type := 4, pos := "more.go:28", after := #[{ on := 18, ground := Ground.data }, { on := 22, ground := Ground.data }, { on := 13, ground := Ground.guard }], guard := some (13, true) }) (v := undef) rfl (by kernel_rfl) (by kernel_rfl) (by kernel_rfl) (fun _ _ _ h => h) (Or.inr ⟨by rfl, rfl⟩) (by assumption) ?_
                    try simp only [Act.put, List.setIfInBounds_toArray, List.set_cons_zero, List.set_cons_succ]
                    refine wpAnyH_take (i := 24) (oi := { dst := some 128, op := Op.pick (Operand.tmp 117) (Operand.tmp 127) (Operand.const (Value.bool false)), type := 4, pos := "more.go:28", after := #[{ on := 13, ground := Ground.data }, { on := 23, ground := Ground.data }, { on := 10, ground := Ground.guard }], guard := some (10, false) }) (v := ?v24) rfl (by kernel_rfl) (by kernel_rfl) (by kernel_rfl) (fun _ _ _ h => h) (Or.inl ⟨by rfl, ?h24⟩) (by assumption) ?r24
                    case h24 => (intro w hSw; (try dsimp only at hSw); go_simp; try with_reducible rfl)
                    try simp only [Act.put, List.setIfInBounds_toArray, List.set_cons_zero, List.set_cons_succ]
                    refine wpAnyH_take (i := 25) (oi := { dst := some 129, op := Op.pick (Operand.tmp 114) (Operand.const (Value.bool true)) (Operand.tmp 128), type := 4, pos := "more.go:28", after := #[{ on := 10, ground := Ground.data }, { on := 24, ground := Ground.data }], guard := none }) (v := ?v25) rfl (by kernel_rfl) (by kernel_rfl) (by kernel_rfl) (fun _ _ _ h => h) (Or.inl ⟨by rfl, ?h25⟩) (by assumption) ?r25
                    case h25 => (intro w hSw; (try dsimp only at hSw); go_simp; try with_reducible rfl)
                    try simp only [Act.put, List.setIfInBounds_toArray, List.set_cons_zero, List.set_cons_succ]
                    refine wpAnyH_take (i := 26) (oi := { dst := some 130, op := Op.move (Operand.tmp 129), type := 4, pos := "more.go:28", after := #[{ on := 25, ground := Ground.data }, { on := 20, ground := Ground.chain }], guard := none }) (v := ?v26) rfl (by kernel_rfl) (by kernel_rfl) (by kernel_rfl) (fun _ _ _ h => h) (Or.inl ⟨by rfl, ?h26⟩) (by assumption) ?r26
                    case h26 => (intro w hSw; (try dsimp only at hSw); go_simp; try with_reducible rfl)
                    try simp only [Act.put, List.setIfInBounds_toArray, List.set_cons_zero, List.set_cons_succ]
                    refine wpAnyH_take (i := 27) (oi := { dst := some 131, op := Op.move (Operand.tmp 17), type := 4, pos := "more.go:28", after := #[{ on := 26, ground := Ground.guard }], guard := some (26, false) }) (v := ?v27) rfl (by kernel_rfl) (by kernel_rfl) (by kernel_rfl) (fun _ _ _ h => h) (Or.inl ⟨by rfl, ?h27⟩) (by assumption) ?r27
                    case h27 => (intro w hSw; (try dsimp only at hSw); go_simp; try with_reducible rfl)
                    try simp only [Act.put, List.setIfInBounds_toArray, List.set_cons_zero, List.set_cons_succ]
                    refine wpAnyH_take (i := 28) (oi := { dst := some 132, op := Op.move (Operand.tmp 131), type := 4, pos := "more.go:28", after := #[{ on := 27, ground := Ground.data }, { on := 26, ground := Ground.chain }, { on := 26, ground := Ground.guard }], guard := some (26, false) }) (v := ?v28) rfl (by kernel_rfl) (by kernel_rfl) (by kernel_rfl) (fun _ _ _ h => h) (Or.inl ⟨by rfl, ?h28⟩) (by assumption) ?r28
                    case h28 => (intro w hSw; (try dsimp only at hSw); go_simp; try with_reducible rfl)
                    try simp only [Act.put, List.setIfInBounds_toArray, List.set_cons_zero, List.set_cons_succ]
                    refine wpAnyH_take (i := 29) (oi := { dst := some 133, op := Op.move (Operand.tmp 15), type := 23, pos := "more.go:28", after := #[{ on := 28, ground := Ground.guard }], guard := some (28, true) }) (v := ?v29) rfl (by kernel_rfl) (by kernel_rfl) (by kernel_rfl) (fun _ _ _ h => h) (Or.inl ⟨by rfl, ?h29⟩) (by assumption) ?r29
                    case h29 => (intro w hSw; (try dsimp only at hSw); go_simp; try with_reducible rfl)
                    try simp only [Act.put, List.setIfInBounds_toArray, List.set_cons_zero, List.set_cons_succ]
                    refine wpAnyH_take (i := 31) (oi := { dst := some 135, op := Op.move (Operand.tmp 11), type := 23, pos := "more.go:28", after := #[{ on := 28, ground := Ground.guard }], guard := some (28, true) }) (v := ?v31) rfl (by kernel_rfl) (by kernel_rfl) (by kernel_rfl) (fun _ _ _ h => h) (Or.inl ⟨by rfl, ?h31⟩) (by assumption) ?r31
                    case h31 => (intro w hSw; (try dsimp only at hSw); go_simp; try with_reducible rfl)
                    try simp only [Act.put, List.setIfInBounds_toArray, List.set_cons_zero, List.set_cons_succ]
                    refine wpAnyH_take (i := 33) (oi := { dst := some 137, op := Op.move (Operand.tmp 1), type := 22, pos := "more.go:28", after := #[{ on := 28, ground := Ground.guard }], guard := some (28, true) }) (v := ?v33) rfl (by kernel_rfl) (by kernel_rfl) (by kernel_rfl) (fun _ _ _ h => h) (Or.inl ⟨by rfl, ?h33⟩) (by assumption) ?r33
                    case h33 => (intro w hSw; (try dsimp only at hSw); go_simp; try with_reducible rfl)
                    try simp only [Act.put, List.setIfInBounds_toArray, List.set_cons_zero, List.set_cons_succ]
                    refine wpAnyH_take (i := 34) (oi := { dst := some 138, op := Op.move (Operand.tmp 9), type := 3, pos := "more.go:28", after := #[{ on := 28, ground := Ground.guard }], guard := some (28, true) }) (v := ?v34) rfl (by kernel_rfl) (by kernel_rfl) (by kernel_rfl) (fun _ _ _ h => h) (Or.inl ⟨by rfl, ?h34⟩) (by assumption) ?r34
                    case h34 => (intro w hSw; (try dsimp only at hSw); go_simp; try with_reducible rfl)
                    try simp only [Act.put, List.setIfInBounds_toArray, List.set_cons_zero, List.set_cons_succ]
                    refine wpAnyH_take (i := 35) (oi := { dst := some 139, op := Op.indexAddr 22 (Operand.tmp 137) (Operand.tmp 138), type := 0, pos := "more.go:28", after := #[{ on := 33, ground := Ground.data }, { on := 34, ground := Ground.data }, { on := 28, ground := Ground.guard }], guard := some (28, true) }) (v := ?v35) rfl (by kernel_rfl) (by kernel_rfl) (by kernel_rfl) (fun _ _ _ h => h) (Or.inl ⟨by rfl, ?h35⟩) (by assumption) ?r35
                    case h35 => (intro w hSw; (try dsimp only at hSw); go_simp; try with_reducible rfl)
                    try simp only [Act.put, List.setIfInBounds_toArray, List.set_cons_zero, List.set_cons_succ]
                    refine wpAnyH_take (i := 36) (oi := { dst := some 140, op := Op.load 23 (Operand.tmp 139), type := 23, pos := "more.go:28", after := #[{ on := 35, ground := Ground.data }, { on := 28, ground := Ground.guard }], guard := some (28, true) }) (v := ?v36) rfl (by kernel_rfl) (by kernel_rfl) (by kernel_rfl) (fun _ _ _ h => h) (Or.inl ⟨by rfl, ?h36⟩) (by assumption) ?r36
                    case h36 => (intro w hSw; (try dsimp only at hSw); go_simp; try with_reducible rfl)
                    try simp only [Act.put, List.setIfInBounds_toArray, List.set_cons_zero, List.set_cons_succ]
                    refine wpAnyH_ready (rs := [30]) (by kernel_rfl) (by simp) ?_
                    refine AllReadyH.cons (o := { dst := some 134, op := Op.buildSlice 23 0 #[], type := 23, pos := "more.go:28", after := #[{ on := 28, ground := Ground.guard }], guard := some (28, true) }) rfl (fun K hK => ?_) AllReadyH.nil
                    go_simp
                    refine hK.out _ _ (HAT.out _ (hHeld.2.trans ((Below.refl _ _).alloc hHeld.2.size _))) (fun hHeld => ?_)
                    clear hK K
                    try simp only [Act.put, List.setIfInBounds_toArray, List.set_cons_zero, List.set_cons_succ]
                    refine wpAnyH_ready (rs := [32]) (by kernel_rfl) (by simp) ?_
                    refine AllReadyH.cons (o := { dst := some 136, op := Op.call { callee := Callee.builtin Builtin.append, args := #[Operand.tmp 134, Operand.tmp 135], argTypes := #[23, 23] }, type := 23, pos := "more.go:28", after := #[{ on := 30, ground := Ground.data }, { on := 31, ground := Ground.data }, { on := 28, ground := Ground.chain }, { on := 28, ground := Ground.guard }], guard := some (28, true) }) rfl (fun K hK => ?_) AllReadyH.nil
                    rw [if_pos (by rfl)]
                    refine wpB_append_op (.tmp 134) (.tmp 135) rfl w6.heap.size _ 0 [] rfl (own_empty w6 _ _) _ A1 n1 c1 (cont S nm) rfl ((H5.out.2.1.bs.below hHeld.2).more hHeld.2.size) n1 (cont S nm) (by omega) rfl (by omega) (by simp) ?_
                    intro A7 c7 w7 o7 b7 hc7 hm7
                    refine hK.out _ _ (HAT.out _ (hHeld.2.trans (b7.mono hst.2.size))) (fun hHeld => ?_)
                    clear hK K
                    try simp only [Act.put, List.setIfInBounds_toArray, List.set_cons_zero, List.set_cons_succ]
                    refine wpAnyH_ready (rs := [37]) (by kernel_rfl) (by simp) ?_
                    refine AllReadyH.cons (o := { dst := some 141, op := Op.call { callee := Callee.builtin Builtin.append, args := #[Operand.tmp 136, Operand.tmp 140], argTypes := #[23, 23] }, type := 23, pos := "more.go:28", after := #[{ on := 32, ground := Ground.data }, { on := 36, ground := Ground.data }, { on := 32, ground := Ground.chain }, { on := 28, ground := Ground.guard }], guard := some (28, true) }) rfl (fun K hK => ?_) AllReadyH.nil
                    rw [if_pos (by rfl)]
                    refine wpB_append_op (.tmp 136) (.tmp 140) rfl w6.heap.size _ n1 (cont S nm) rfl o7 _ A' l.length c' l rfl (HX.out w7 (H5.out.2.2.1.trans (hHeld.2.mono H5.out.2.2.1.size))).2 (n1 + l.length) (cont S nm ++ l) rfl rfl (by omega) (by have := b7.size; simp at this; omega) ?_
                    intro A8 c8 w8 o8 b8 hc8 hm8
                    refine hK.out _ _ (HAT.out _ (hHeld.2.trans (b8.mono hst.2.size))) (fun hHeld => ?_)
                    clear hK K
                    try simp only [Act.put, List.setIfInBounds_toArray, List.set_cons_zero, List.set_cons_succ]
                    refine wpAnyH_ready (rs := [38]) (by kernel_rfl) (by simp) ?_
                    refine AllReadyH.cons (o := { dst := some 142, op := Op.call { callee := Callee.value (Operand.func 15), args := #[Operand.tmp 133, Operand.tmp 141], argTypes := #[23, 23] }, type := 4, pos := "more.go:28", after := #[{ on := 29, ground := Ground.data }, { on := 37, ground := Ground.data }, { on := 37, ground := Ground.chain }, { on := 28, ground := Ground.guard }], guard := some (28, true) }) rfl (fun K hK => ?_) AllReadyH.nil
                    go_simp
                    refine (same3_eq A5 A8 n5 c5 (n1 + l.length) c8 (cont S4 nm) (cont S nm ++ l) _ (by rw [HN5.out]; exact (H5.out.2.2.2.bs.below hHeld.2).more hHeld.2.size) (Rd.of_own o8) (by simp only [maxLen]; omega) H4.out.2.2.2.1).mono ?_
                    rintro e w9 ⟨rfl, b9⟩
                    have hst9 := HAT.out w9 (hHeld.2.trans (b9.mono hHeld.2.size))
                    clear b9 hHeld
                    go_wp2_with fail
                    refine hK.out _ _ (hst9) (fun hHeld => ?_)
                    clear hK K
                    try simp only [Act.put, List.setIfInBounds_toArray, List.set_cons_zero, List.set_cons_succ]
                    refine wpAnyH_take (i := 39) (oi := { dst := some 143, op := Op.unOp UnOp.not 4 (Operand.tmp 142), type := 4, pos := "more.go:28", after := #[{ on := 38, ground := Ground.data }, { on := 28, ground := Ground.guard }], guard := some (28, true) }) (v := ?v39) rfl (by kernel_rfl) (by kernel_rfl) (by kernel_rfl) (fun _ _ _ h => h) (Or.inl ⟨by rfl, ?h39⟩) (by assumption) ?r39
                    case h39 => (intro w hSw; (try dsimp only at hSw); go_simp; try with_reducible rfl)
                    try simp only [Act.put, List.setIfInBounds_toArray, List.set_cons_zero, List.set_cons_succ]
                    refine wpAnyH_take (i := 40) (oi := { dst := some 144, op := Op.pick (Operand.tmp 132) (Operand.tmp 143) (Operand.const (Value.bool false)), type := 4, pos := "more.go:28", after := #[{ on := 28, ground := Ground.data }, { on := 39, ground := Ground.data }, { on := 26, ground := Ground.guard }], guard := some (26, false) }) (v := ?v40) rfl (by kernel_rfl) (by kernel_rfl) (by kernel_rfl) (fun _ _ _ h => h) (Or.inl ⟨by rfl, ?h40⟩) (by assumption) ?r40
                    case h40 => (intro w hSw; (try dsimp only at hSw); go_simp; try with_reducible rfl)
                    try simp only [Act.put, List.setIfInBounds_toArray, List.set_cons_zero, List.set_cons_succ]
                    refine wpAnyH_take (i := 41) (oi := { dst := some 145, op := Op.pick (Operand.tmp 130) (Operand.const (Value.bool true)) (Operand.tmp 144), type := 4, pos := "more.go:28", after := #[{ on := 26, ground := Ground.data }, { on := 40, ground := Ground.data }], guard := none }) (v := ?v41) rfl (by kernel_rfl) (by kernel_rfl) (by kernel_rfl) (fun _ _ _ h => h) (Or.inl ⟨by rfl, ?h41⟩) (by assumption) ?r41
                    case h41 => (intro w hSw; (try dsimp only at hSw); go_simp; try with_reducible rfl)
                    try simp only [Act.put, List.setIfInBounds_toArray, List.set_cons_zero, List.set_cons_succ]
                    refine wpAnyH_done (by kernel_rfl) ?_ _
                    have HREG := Lib.hid hHeld.2
                    go_wp2_with fail
                    go_roundw
                    case rel => exact ⟨i + 1, S4, by omega, by go_num, (H5.out.1.below HREG.out), H4.out.2.2.2.2.2.1, H4.out.2.2.2.2.2.2.1, H4.out.2.2.2.2.2.2.2, H5.out.2.2.1.trans (HREG.out.mono H5.out.2.2.1.size)⟩
                    case measure => simp [intOf]; omega
                  · obtain ⟨rfl, rfl⟩ := app_full hr HOK.out.2 (by rw [HOR.out]; omega)
                    have H4 := Lib.hid (And.intro hd4 (And.intro (H3.out.2.1.disk ht4 hs4) (H3.out.2.2.trans hb34)))
                    clear hr hd4 ht4 hs4 hb34 hcell3 HBS3
                    go_wp2_with fail
                    refine (read_any W.heap.size d S4 w4 H4.out.1 nm hnl).mono ?_
                    rintro e w5 ⟨A5, c5, code5, rfl, r5, o5, b5, hc5, hm5⟩
                    have hbel5 : Below W.heap.size W w5 := H4.out.2.2.trans (b5.mono H4.out.2.2.size)
                    obtain ⟨n5, hn5⟩ : ∃ n5, n5 = (cont S4 nm).length := ⟨_, rfl⟩
                    have H5 := Lib.hid (And.intro (H4.out.1.below b5) (And.intro ((H4.out.2.1.below b5).1) (And.intro hbel5 r5)))
                    have hcell5 := (HX.out w5 hbel5).1
                    rw [← hn5] at hc5 ⊢
                    have HN5 := Lib.hid hn5
                    have hu3 : decide (k < S4.used) = false := decide_eq_false (by omega)
                    have hu : (decide ((S4.used : Int) > (k : Int))) = false := decide_eq_false (by omega)
                    have hu2 : decide ((k : Int) < (S4.used : Int)) = false := decide_eq_false (by omega)
                    have hu4 : ((S4.used : Int) != (S4.used : Int)) = false := by simp
                    have hn5l : n5 ≤ 6000 := by rw [HN5.out]; exact Nat.le_trans (cont_le S4 nm) (by omega)
                    have qf : decide ((S4.used : Int) + (l.length : Int) ≤ (k : Int)) = false := decide_eq_false (by omega)
                    have hw : IntKind.i64.wrap ((S4.used : Int) + (l.length : Int)) = (S4.used : Int) + (l.length : Int) := IntWalk.i64_in _ ⟨by omega, by omega⟩
                    clear hn5 b5 r5 o5 hbel5
                    go_wp2_with fail
                    have HAT : Hid (∀ w', Below w5.heap.size w5 w' → w'.cell? ⟨g, off + i, none⟩ = some (.slice A' l.length c') ∧ Below w5.heap.size w5 w') := fun w' hb => ⟨(HX.out w' (H5.out.2.2.1.trans (hb.mono H5.out.2.2.1.size))).1, hb⟩
                    refine wp_region_held_drew (S := fun w' => w'.cell? ⟨g, off + i, none⟩ = some (.slice A' l.length c') ∧ Below w5.heap.size w5 w') (by kernel_rfl) (HAT.out _ ⟨rfl, rfl, rfl, Nat.le_refl _, fun _ _ => rfl⟩) (fun hHeld => ?_)
                    refine wpAnyH_take (i := 0) (oi := { dst := some 104, op := Op.move (Operand.tmp 14), type := 26, pos := "more.go:28", after := #[], guard := none }) (v := ?xv0) rfl (by kernel_rfl) (by kernel_rfl) (by kernel_rfl) (fun _ _ _ h => h) (Or.inl ⟨by rfl, ?xh0⟩) (by assumption) ?xr0
                    case xh0 => (intro w hSw; (try dsimp only at hSw); go_simp; try with_reducible rfl)
                    try simp only [Act.put, List.setIfInBounds_toArray, List.set_cons_zero, List.set_cons_succ]
                    refine wpAnyH_take (i := 1) (oi := { dst := some 105, op := Op.binOp BinOp.eql 26 (Operand.tmp 104) (Operand.const (Value.int IntKind.i64 0)) 26, type := 4, pos := "more.go:28", after := #[{ on := 0, ground := Ground.data }], guard := none }) (v := ?xv1) rfl (by kernel_rfl) (by kernel_rfl) (by kernel_rfl) (fun _ _ _ h => h) (Or.inl ⟨by rfl, ?xh1⟩) (by assumption) ?xr1
                    case xh1 => (intro w hSw; (try dsimp only at hSw); go_simp; try with_reducible rfl)
                    try simp only [Act.put, List.setIfInBounds_toArray, List.set_cons_zero, List.set_cons_succ]
                    refine wpAnyH_take (i := 2) (oi := { dst := some 106, op := Op.move (Operand.tmp 17), type := 4, pos := "more.go:28", after := #[], guard := none }) (v := ?xv2) rfl (by kernel_rfl) (by kernel_rfl) (by kernel_rfl) (fun _ _ _ h => h) (Or.inl ⟨by rfl, ?xh2⟩) (by assumption) ?xr2
                    case xh2 => (intro w hSw; (try dsimp only at hSw); go_simp; try with_reducible rfl)
                    try simp only [Act.put, List.setIfInBounds_toArray, List.set_cons_zero, List.set_cons_succ]
                    refine wpAnyH_take (i := 3) (oi := { dst := some 107, op := Op.binOp BinOp.neq 4 (Operand.tmp 105) (Operand.tmp 106) 4, type := 4, pos := "more.go:28", after := #[{ on := 1, ground := Ground.data }, { on := 2, ground := Ground.data }], guard := none }) (v := ?xv3) rfl (by kernel_rfl) (by kernel_rfl) (by kernel_rfl) (fun _ _ _ h => h) (Or.inl ⟨by rfl, ?xh3⟩) (by assumption) ?xr3
                    case xh3 => (intro w hSw; (try dsimp only at hSw); go_simp; try with_reducible rfl)
                    try simp only [Act.put, List.setIfInBounds_toArray, List.set_cons_zero, List.set_cons_succ]
                    refine wpAnyH_take (i := 4) (oi := { dst := some 108, op := Op.move (Operand.tmp 107), type := 4, pos := "more.go:28", after := #[{ on := 3, ground := Ground.data }], guard := none }) (v := ?xv4) rfl (by kernel_rfl) (by kernel_rfl) (by kernel_rfl) (fun _ _ _ h => h) (Or.inl ⟨by rfl, ?xh4⟩) (by assumption) ?xr4
                    case xh4 => (intro w hSw; (try dsimp only at hSw); go_simp; try with_reducible rfl)
                    try simp only [Act.put, List.setIfInBounds_toArray, List.set_cons_zero, List.set_cons_succ]
                    refine wpAnyH_take (i := 5) (oi := { dst := some 109, op := Op.move (Operand.tmp 7), type := 25, pos := "more.go:28", after := #[{ on := 4, ground := Ground.guard }], guard := some (4, false) }) (v := ?xv5) rfl (by kernel_rfl) (by kernel_rfl) (by kernel_rfl) (fun _ _ _ h => h) (Or.inl ⟨by rfl, ?xh5⟩) (by assumption) ?xr5
                    case xh5 => (intro w hSw; (try dsimp only at hSw); go_simp; try with_reducible rfl)
                    try simp only [Act.put, List.setIfInBounds_toArray, List.set_cons_zero, List.set_cons_succ]
                    refine wpAnyH_take (i := 7) (oi := { dst := some 111, op := Op.move (Operand.tmp 0), type := 3, pos := "more.go:28", after := #[{ on := 4, ground := Ground.guard }], guard := some (4, false) }) (v := ?xv7) rfl (by kernel_rfl) (by kernel_rfl) (by kernel_rfl) (fun _ _ _ h => h) (Or.inl ⟨by rfl, ?xh7⟩) (by assumption) ?xr7
                    case xh7 => (intro w hSw; (try dsimp only at hSw); go_simp; try with_reducible rfl)
                    try simp only [Act.put, List.setIfInBounds_toArray, List.set_cons_zero, List.set_cons_succ]
                    refine wpAnyH_ready (rs := [6]) (by kernel_rfl) (by simp) ?_
                    refine AllReadyH.cons (o := { dst := some 110, op := Op.call { callee := Callee.value (Operand.func 16), args := #[Operand.tmp 109], argTypes := #[25] }, type := 3, pos := "more.go:28", after := #[{ on := 5, ground := Ground.data }, { on := 4, ground := Ground.chain }, { on := 4, ground := Ground.guard }], guard := some (4, false) }) rfl (fun K hK => ?_) AllReadyH.nil
                    go_simp
                    refine (used_any W.heap.size d S4 _ (H5.out.1.below hHeld.2)).mono ?_
                    rintro e w6 ⟨rfl, b6⟩
                    have hstw6 := HAT.out w6 (hHeld.2.trans (b6.mono hHeld.2.size))
                    clear b6 hHeld
                    go_wp2_with fail
                    refine hK.out _ _ (hstw6) (fun hHeld => ?_)
                    clear hK K
                    try simp only [Act.put, List.setIfInBounds_toArray, List.set_cons_zero, List.set_cons_succ]
                    refine wpAnyH_take (i := 8) (oi := { dst := some 112, op := Op.binOp BinOp.gtr 3 (Operand.tmp 110) (Operand.tmp 111) 3, type := 4, pos := "more.go:28", after := #[{ on := 6, ground := Ground.data }, { on := 7, ground := Ground.data }, { on := 4, ground := Ground.guard }], guard := some (4, false) }) (v := ?xv8) rfl (by kernel_rfl) (by kernel_rfl) (by kernel_rfl) (fun _ _ _ h => h) (Or.inl ⟨by rfl, ?xh8⟩) (by assumption) ?xr8
                    case xh8 => (intro w hSw; (try dsimp only at hSw); go_simp; try with_reducible rfl)
                    try simp only [Act.put, List.setIfInBounds_toArray, List.set_cons_zero, List.set_cons_succ]
                    refine wpAnyH_take (i := 9) (oi := { dst := some 113, op := Op.pick (Operand.tmp 108) (Operand.const (Value.bool true)) (Operand.tmp 112), type := 4, pos := "more.go:28", after := #[{ on := 4, ground := Ground.data }, { on := 8, ground := Ground.data }], guard := none }) (v := ?xv9) rfl (by kernel_rfl) (by kernel_rfl) (by kernel_rfl) (fun _ _ _ h => h) (Or.inl ⟨by rfl, ?xh9⟩) (by assumption) ?xr9
                    case xh9 => (intro w hSw; (try dsimp only at hSw); go_simp; try with_reducible rfl)
                    try simp only [Act.put, List.setIfInBounds_toArray, List.set_cons_zero, List.set_cons_succ]
                    refine wpAnyH_take (i := 10) (oi := { dst := some 114, op := Op.move (Operand.tmp 113), type := 4, pos := "more.go:28", after := #[{ on := 9, ground := Ground.data }, { on := 6, ground := Ground.chain }], guard := none }) (v := ?xv10) rfl (by kernel_rfl) (by kernel_rfl) (by kernel_rfl) (fun _ _ _ h => h) (Or.inl ⟨by rfl, ?xh10⟩) (by assumption) ?xr10
                    case xh10 => (intro w hSw; (try dsimp only at hSw); go_simp; try with_reducible rfl)
                    try simp only [Act.put, List.setIfInBounds_toArray, List.set_cons_zero, List.set_cons_succ]
                    refine wpAnyH_take (i := 11) (oi := { dst := some 115, op := Op.move (Operand.tmp 17), type := 4, pos := "more.go:28", after := #[{ on := 10, ground := Ground.guard }], guard := some (10, false) }) (v := ?xv11) rfl (by kernel_rfl) (by kernel_rfl) (by kernel_rfl) (fun _ _ _ h => h) (Or.inl ⟨by rfl, ?xh11⟩) (by assumption) ?xr11
                    case xh11 => (intro w hSw; (try dsimp only at hSw); go_simp; try with_reducible rfl)
                    try simp only [Act.put, List.setIfInBounds_toArray, List.set_cons_zero, List.set_cons_succ]
                    refine wpAnyH_take (i := 12) (oi := { dst := some 116, op := Op.unOp UnOp.not 4 (Operand.tmp 115), type := 4, pos := "more.go:28", after := #[{ on := 11, ground := Ground.data }, { on := 10, ground := Ground.guard }], guard := some (10, false) }) (v := ?xv12) rfl (by kernel_rfl) (by kernel_rfl) (by kernel_rfl) (fun _ _ _ h => h) (Or.inl ⟨by rfl, ?xh12⟩) (by assumption) ?xr12
                    case xh12 => (intro w hSw; (try dsimp only at hSw); go_simp; try with_reducible rfl)
                    try simp only [Act.put, List.setIfInBounds_toArray, List.set_cons_zero, List.set_cons_succ]
                    refine wpAnyH_take (i := 13) (oi := { dst := some 117, op := Op.move (Operand.tmp 116), type := 4, pos := "more.go:28", after := #[{ on := 12, ground := Ground.data }, { on := 10, ground := Ground.chain }, { on := 10, ground := Ground.guard }], guard := some (10, false) }) (v := ?xv13) rfl (by kernel_rfl) (by kernel_rfl) (by kernel_rfl) (fun _ _ _ h => h) (Or.inl ⟨by rfl, ?xh13⟩) (by assumption) ?xr13
                    case xh13 => (intro w hSw; (try dsimp only at hSw); go_simp; try with_reducible rfl)
                    try simp only [Act.put, List.setIfInBounds_toArray, List.set_cons_zero, List.set_cons_succ]
                    refine wpAnyH_take (i := 14) (oi := { dst := some 118, op := Op.move (Operand.tmp 15), type := 23, pos := "more.go:28", after := #[{ on := 13, ground := Ground.guard }], guard := some (13, true) }) (v := ?xv14) rfl (by kernel_rfl) (by kernel_rfl) (by kernel_rfl) (fun _ _ _ h => h) (Or.inl ⟨by rfl, ?xh14⟩) (by assumption) ?xr14
                    case xh14 => (intro w hSw; (try dsimp only at hSw); go_simp; try with_reducible rfl)
                    try simp only [Act.put, List.setIfInBounds_toArray, List.set_cons_zero, List.set_cons_succ]
                    refine wpAnyH_take (i := 15) (oi := { dst := some 119, op := Op.move (Operand.tmp 11), type := 23, pos := "more.go:28", after := #[{ on := 13, ground := Ground.guard }], guard := some (13, true) }) (v := ?xv15) rfl (by kernel_rfl) (by kernel_rfl) (by kernel_rfl) (fun _ _ _ h => h) (Or.inl ⟨by rfl, ?xh15⟩) (by assumption) ?xr15
                    case xh15 => (intro w hSw; (try dsimp only at hSw); go_simp; try with_reducible rfl)
                    try simp only [Act.put, List.setIfInBounds_toArray, List.set_cons_zero, List.set_cons_succ]
                    refine wpAnyH_ready (rs := [16]) (by kernel_rfl) (by simp) ?_
                    refine AllReadyH.cons (o := { dst := some 120, op := Op.call { callee := Callee.value (Operand.func 15), args := #[Operand.tmp 118, Operand.tmp 119], argTypes := #[23, 23] }, type := 4, pos := "more.go:28", after := #[{ on := 14, ground := Ground.data }, { on := 15, ground := Ground.data }, { on := 13, ground := Ground.chain }, { on := 13, ground := Ground.guard }], guard := some (13, true) }) rfl (fun K hK => ?_) AllReadyH.nil
                    go_simp
                    refine (same3_eq A5 A1 n5 c5 n1 c1 (cont S4 nm) (cont S4 nm) _ (by rw [HN5.out]; exact (H5.out.2.2.2.bs.below hHeld.2).more hHeld.2.size) ((H5.out.2.1.bs.below hHeld.2).more hHeld.2.size) (by simp only [maxLen]; omega) rfl).mono ?_
                    rintro e w7 ⟨rfl, b7⟩
                    have hst7 := HAT.out w7 (hHeld.2.trans (b7.mono hHeld.2.size))
                    clear b7 hHeld
                    go_wp2_with fail
                    refine hK.out _ _ (hst7) (fun hHeld => ?_)
                    clear hK K
                    try simp only [Act.put, List.setIfInBounds_toArray, List.set_cons_zero, List.set_cons_succ]
                    refine wpAnyH_take (i := 17) (oi := { dst := some 121, op := Op.unOp UnOp.not 4 (Operand.tmp 120), type := 4, pos := "more.go:28", after := #[{ on := 16, ground := Ground.data }, { on := 13, ground := Ground.guard }], guard := some (13, true) }) (v := ?xv17) rfl (by kernel_rfl) (by kernel_rfl) (by kernel_rfl) (fun _ _ _ h => h) (Or.inl ⟨by rfl, ?xh17⟩) (by assumption) ?xr17
                    case xh17 => (intro w hSw; (try dsimp only at hSw); go_simp; try with_reducible rfl)
                    try simp only [Act.put, List.setIfInBounds_toArray, List.set_cons_zero, List.set_cons_succ]
                    refine wpAnyH_take (i := 18) (oi := { dst := some 122, op := Op.move (Operand.tmp 121), type := 4, pos := "more.go:28", after := #[{ on := 17, ground := Ground.data }, { on := 16, ground := Ground.chain }, { on := 13, ground := Ground.guard }], guard := some (13, true) }) (v := ?xv18) rfl (by kernel_rfl) (by kernel_rfl) (by kernel_rfl) (fun _ _ _ h => h) (Or.inl ⟨by rfl, ?xh18⟩) (by assumption) ?xr18
                    case xh18 => (intro w hSw; (try dsimp only at hSw); go_simp; try with_reducible rfl)
                    try simp only [Act.put, List.setIfInBounds_toArray, List.set_cons_zero, List.set_cons_succ]
                    refine wpAnyH_take (i := 19) (oi := { dst := some 123, op := Op.move (Operand.tmp 7), type := 25, pos := "more.go:28", after := #[{ on := 18, ground := Ground.guard }], guard := some (18, false) }) (v := ?xv19) rfl (by kernel_rfl) (by kernel_rfl) (by kernel_rfl) (fun _ _ _ h => h) (Or.inl ⟨by rfl, ?xh19⟩) (by assumption) ?xr19
                    case xh19 => (intro w hSw; (try dsimp only at hSw); go_simp; try with_reducible rfl)
                    try simp only [Act.put, List.setIfInBounds_toArray, List.set_cons_zero, List.set_cons_succ]
                    refine wpAnyH_take (i := 21) (oi := { dst := some 125, op := Op.move (Operand.tmp 13), type := 3, pos := "more.go:28", after := #[{ on := 18, ground := Ground.guard }], guard := some (18, false) }) (v := ?xv21) rfl (by kernel_rfl) (by kernel_rfl) (by kernel_rfl) (fun _ _ _ h => h) (Or.inl ⟨by rfl, ?xh21⟩) (by assumption) ?xr21
                    case xh21 => (intro w hSw; (try dsimp only at hSw); go_simp; try with_reducible rfl)
                    try simp only [Act.put, List.setIfInBounds_toArray, List.set_cons_zero, List.set_cons_succ]
                    refine wpAnyH_ready (rs := [20]) (by kernel_rfl) (by simp) ?_
                    refine AllReadyH.cons (o := { dst := some 124, op := Op.call { callee := Callee.value (Operand.func 16), args := #[Operand.tmp 123], argTypes := #[25] }, type := 3, pos := "more.go:28", after := #[{ on := 19, ground := Ground.data }, { on := 18, ground := Ground.chain }, { on := 18, ground := Ground.guard }], guard := some (18, false) }) rfl (fun K hK => ?_) AllReadyH.nil
                    go_simp
                    refine (used_any W.heap.size d S4 _ (H5.out.1.below hHeld.2)).mono ?_
                    rintro e w8 ⟨rfl, b6⟩
                    have hstw8 := HAT.out w8 (hHeld.2.trans (b6.mono hHeld.2.size))
                    clear b6 hHeld
                    go_wp2_with fail
                    refine hK.out _ _ (hstw8) (fun hHeld => ?_)
                    clear hK K
                    try simp only [Act.put, List.setIfInBounds_toArray, List.set_cons_zero, List.set_cons_succ]
                    refine wpAnyH_take (i := 22) (oi := { dst := some 126, op := Op.binOp BinOp.neq 3 (Operand.tmp 124) (Operand.tmp 125) 3, type := 4, pos := "more.go:28", after := #[{ on := 20, ground := Ground.data }, { on := 21, ground := Ground.data }, { on := 18, ground := Ground.guard }], guard := some (18, false) }) (v := ?xv22) rfl (by kernel_rfl) (by kernel_rfl) (by kernel_rfl) (fun _ _ _ h => h) (Or.inl ⟨by rfl, ?xh22⟩) (by assumption) ?xr22
                    case xh22 => (intro w hSw; (try dsimp only at hSw); go_simp; try with_reducible rfl)
                    try simp only [Act.put, List.setIfInBounds_toArray, List.set_cons_zero, List.set_cons_succ]
                    refine wpAnyH_take (i := 23) (oi := { dst := some 127, op := Op.pick (Operand.tmp 122) (Operand.const (Value.bool true)) (Operand.tmp 126), type := 4, pos := "more.go:28", after := #[{ on := 18, ground := Ground.data }, { on := 22, ground := Ground.data }, { on := 13, ground := Ground.guard }], guard := some (13, true) }) (v := ?xv23) rfl (by kernel_rfl) (by kernel_rfl) (by kernel_rfl) (fun _ _ _ h => h) (Or.inl ⟨by rfl, ?xh23⟩) (by assumption) ?xr23
                    case xh23 => (intro w hSw; (try dsimp only at hSw); go_simp; try with_reducible rfl)
                    try simp only [Act.put, List.setIfInBounds_toArray, List.set_cons_zero, List.set_cons_succ]
                    refine wpAnyH_take (i := 24) (oi := { dst := some 128, op := Op.pick (Operand.tmp 117) (Operand.tmp 127) (Operand.const (Value.bool false)), type := 4, pos := "more.go:28", after := #[{ on := 13, ground := Ground.data }, { on := 23, ground := Ground.data }, { on := 10, ground := Ground.guard }], guard := some (10, false) }) (v := ?xv24) rfl (by kernel_rfl) (by kernel_rfl) (by kernel_rfl) (fun _ _ _ h => h) (Or.inl ⟨by rfl, ?xh24⟩) (by assumption) ?xr24
                    case xh24 => (intro w hSw; (try dsimp only at hSw); go_simp; try with_reducible rfl)
                    try simp only [Act.put, List.setIfInBounds_toArray, List.set_cons_zero, List.set_cons_succ]
                    refine wpAnyH_take (i := 25) (oi := { dst := some 129, op := Op.pick (Operand.tmp 114) (Operand.const (Value.bool true)) (Operand.tmp 128), type := 4, pos := "more.go:28", after := #[{ on := 10, ground := Ground.data }, { on := 24, ground := Ground.data }], guard := none }) (v := ?xv25) rfl (by kernel_rfl) (by kernel_rfl) (by kernel_rfl) (fun _ _ _ h => h) (Or.inl ⟨by rfl, ?xh25⟩) (by assumption) ?xr25
                    case xh25 => (intro w hSw; (try dsimp only at hSw); go_simp; try with_reducible rfl)
                    try simp only [Act.put, List.setIfInBounds_toArray, List.set_cons_zero, List.set_cons_succ]
                    refine wpAnyH_take (i := 26) (oi := { dst := some 130, op := Op.move (Operand.tmp 129), type := 4, pos := "more.go:28", after := #[{ on := 25, ground := Ground.data }, { on := 20, ground := Ground.chain }], guard := none }) (v := ?xv26) rfl (by kernel_rfl) (by kernel_rfl) (by kernel_rfl) (fun _ _ _ h => h) (Or.inl ⟨by rfl, ?xh26⟩) (by assumption) ?xr26
                    case xh26 => (intro w hSw; (try dsimp only at hSw); go_simp; try with_reducible rfl)
                    try simp only [Act.put, List.setIfInBounds_toArray, List.set_cons_zero, List.set_cons_succ]
                    refine wpAnyH_take (i := 27) (oi := { dst := some 131, op := Op.move (Operand.tmp 17), type := 4, pos := "more.go:28", after := #[{ on := 26, ground := Ground.guard }], guard := some (26, false) }) (v := ?xv27) rfl (by kernel_rfl) (by kernel_rfl) (by kernel_rfl) (fun _ _ _ h => h) (Or.inl ⟨by rfl, ?xh27⟩) (by assumption) ?xr27
                    case xh27 => (intro w hSw; (try dsimp only at hSw); go_simp; try with_reducible rfl)
                    try simp only [Act.put, List.setIfInBounds_toArray, List.set_cons_zero, List.set_cons_succ]
                    refine wpAnyH_take (i := 28) (oi := { dst := some 132, op := Op.move (Operand.tmp 131), type := 4, pos := "more.go:28", after := #[{ on := 27, ground := Ground.data }, { on := 26, ground := Ground.chain }, { on := 26, ground := Ground.guard }], guard := some (26, false) }) (v := ?xv28) rfl (by kernel_rfl) (by kernel_rfl) (by kernel_rfl) (fun _ _ _ h => h) (Or.inl ⟨by rfl, ?xh28⟩) (by assumption) ?xr28
                    case xh28 => (intro w hSw; (try dsimp only at hSw); go_simp; try with_reducible rfl)
                    try simp only [Act.put, List.setIfInBounds_toArray, List.set_cons_zero, List.set_cons_succ]
                    refine wpAnyH_take (i := 29) (oi := { dst := some 133, op := Op.move (Operand.tmp 15), type := 23, pos := "more.go:28", after := #[{ on := 28, ground := Ground.guard }], guard := some (28, true) }) (v := undef) rfl (by kernel_rfl) (by kernel_rfl) (by kernel_rfl) (fun _ _ _ h => h) (Or.inr ⟨by rfl, rfl⟩) (by assumption) ?_
                    try simp only [Act.put, List.setIfInBounds_toArray, List.set_cons_zero, List.set_cons_succ]
                    refine wpAnyH_take (i := 30) (oi := { dst := some 134, op := Op.buildSlice 23 0 #[], type := 23, pos := "more.go:28", after := #[{ on := 28, ground := Ground.guard }], guard := some (28, true) }) (v := undef) rfl (by kernel_rfl) (by kernel_rfl) (by kernel_rfl) (fun _ _ _ h => h) (Or.inr ⟨by rfl, rfl⟩) (by assumption) ?_
                    try simp only [Act.put, List.setIfInBounds_toArray, List.set_cons_zero, List.set_cons_succ]
                    refine wpAnyH_take (i := 31) (oi := { dst := some 135, op := Op.move (Operand.tmp 11), type := 23, pos := "more.go:28", after := #[{ on := 28, ground := Ground.guard }], guard := some (28, true) }) (v := undef) rfl (by kernel_rfl) (by kernel_rfl) (by kernel_rfl) (fun _ _ _ h => h) (Or.inr ⟨by rfl, rfl⟩) (by assumption) ?_
                    try simp only [Act.put, List.setIfInBounds_toArray, List.set_cons_zero, List.set_cons_succ]
                    refine wpAnyH_take (i := 32) (oi := { dst := some 136, op := Op.call { callee := Callee.builtin Builtin.append, args := #[Operand.tmp 134, Operand.tmp 135], argTypes := #[23, 23] }, type := 23, pos := "more.go:28", after := #[{ on := 30, ground := Ground.data }, { on := 31, ground := Ground.data }, { on := 28, ground := Ground.chain }, { on := 28, ground := Ground.guard }], guard := some (28, true) }) (v := undef) rfl (by kernel_rfl) (by kernel_rfl) (by kernel_rfl) (fun _ _ _ h => h) (Or.inr ⟨by rfl, rfl⟩) (by assumption) ?_
                    try simp only [Act.put, List.setIfInBounds_toArray, List.set_cons_zero, List.set_cons_succ]
                    refine wpAnyH_take (i := 33) (oi := { dst := some 137, op := Op.move (Operand.tmp 1), type := 22, pos := "more.go:28", after := #[{ on := 28, ground := Ground.guard }], guard := some (28, true) }) (v := undef) rfl (by kernel_rfl) (by kernel_rfl) (by kernel_rfl) (fun _ _ _ h => h) (Or.inr ⟨by rfl, rfl⟩) (by assumption) ?_
                    try simp only [Act.put, List.setIfInBounds_toArray, List.set_cons_zero, List.set_cons_succ]
                    refine wpAnyH_take (i := 34) (oi := { dst := some 138, op := Op.move (Operand.tmp 9), type := 3, pos := "more.go:28", after := #[{ on := 28, ground := Ground.guard }], guard := some (28, true) }) (v := undef) rfl (by kernel_rfl) (by kernel_rfl) (by kernel_rfl) (fun _ _ _ h => h) (Or.inr ⟨by rfl, rfl⟩) (by assumption) ?_
                    try simp only [Act.put, List.setIfInBounds_toArray, List.set_cons_zero, List.set_cons_succ]
                    refine wpAnyH_take (i := 35) (oi := { dst := some 139, op := Op.indexAddr 22 (Operand.tmp 137) (Operand.tmp 138), type := 0, pos := "more.go:28", after := #[{ on := 33, ground := Ground.data }, { on := 34, ground := Ground.data }, { on := 28, ground := Ground.guard }], guard := some (28, true) }) (v := undef) rfl (by kernel_rfl) (by kernel_rfl) (by kernel_rfl) (fun _ _ _ h => h) (Or.inr ⟨by rfl, rfl⟩) (by assumption) ?_
                    try simp only [Act.put, List.setIfInBounds_toArray, List.set_cons_zero, List.set_cons_succ]
                    refine wpAnyH_take (i := 36) (oi := { dst := some 140, op := Op.load 23 (Operand.tmp 139), type := 23, pos := "more.go:28", after := #[{ on := 35, ground := Ground.data }, { on := 28, ground := Ground.guard }], guard := some (28, true) }) (v := undef) rfl (by kernel_rfl) (by kernel_rfl) (by kernel_rfl) (fun _ _ _ h => h) (Or.inr ⟨by rfl, rfl⟩) (by assumption) ?_
                    try simp only [Act.put, List.setIfInBounds_toArray, List.set_cons_zero, List.set_cons_succ]
                    refine wpAnyH_take (i := 37) (oi := { dst := some 141, op := Op.call { callee := Callee.builtin Builtin.append, args := #[Operand.tmp 136, Operand.tmp 140], argTypes := #[23, 23] }, type := 23, pos := "more.go:28", after := #[{ on := 32, ground := Ground.data }, { on := 36, ground := Ground.data }, { on := 32, ground := Ground.chain }, { on := 28, ground := Ground.guard }], guard := some (28, true) }) (v := undef) rfl (by kernel_rfl) (by kernel_rfl) (by kernel_rfl) (fun _ _ _ h => h) (Or.inr ⟨by rfl, rfl⟩) (by assumption) ?_
                    try simp only [Act.put, List.setIfInBounds_toArray, List.set_cons_zero, List.set_cons_succ]
                    refine wpAnyH_take (i := 38) (oi := { dst := some 142, op := Op.call { callee := Callee.value (Operand.func 15), args := #[Operand.tmp 133, Operand.tmp 141], argTypes := #[23, 23] }, type := 4, pos := "more.go:28", after := #[{ on := 29, ground := Ground.data }, { on := 37, ground := Ground.data }, { on := 37, ground := Ground.chain }, { on := 28, ground := Ground.guard }], guard := some (28, true) }) (v := undef) rfl (by kernel_rfl) (by kernel_rfl) (by kernel_rfl) (fun _ _ _ h => h) (Or.inr ⟨by rfl, rfl⟩) (by assumption) ?_
                    try simp only [Act.put, List.setIfInBounds_toArray, List.set_cons_zero, List.set_cons_succ]
                    refine wpAnyH_take (i := 39) (oi := { dst := some 143, op := Op.unOp UnOp.not 4 (Operand.tmp 142), type := 4, pos := "more.go:28", after := #[{ on := 38, ground := Ground.data }, { on := 28, ground := Ground.guard }], guard := some (28, true) }) (v := undef) rfl (by kernel_rfl) (by kernel_rfl) (by kernel_rfl) (fun _ _ _ h => h) (Or.inr ⟨by rfl, rfl⟩) (by assumption) ?_
                    try simp only [Act.put, List.setIfInBounds_toArray, List.set_cons_zero, List.set_cons_succ]
                    refine wpAnyH_take (i := 40) (oi := { dst := some 144, op := Op.pick (Operand.tmp 132) (Operand.tmp 143) (Operand.const (Value.bool false)), type := 4, pos := "more.go:28", after := #[{ on := 28, ground := Ground.data }, { on := 39, ground := Ground.data }, { on := 26, ground := Ground.guard }], guard := some (26, false) }) (v := ?xv40) rfl (by kernel_rfl) (by kernel_rfl) (by kernel_rfl) (fun _ _ _ h => h) (Or.inl ⟨by rfl, ?xh40⟩) (by assumption) ?xr40
                    case xh40 => (intro w hSw; (try dsimp only at hSw); go_simp; try with_reducible rfl)
                    try simp only [Act.put, List.setIfInBounds_toArray, List.set_cons_zero, List.set_cons_succ]
                    refine wpAnyH_take (i := 41) (oi := { dst := some 145, op := Op.pick (Operand.tmp 130) (Operand.const (Value.bool true)) (Operand.tmp 144), type := 4, pos := "more.go:28", after := #[{ on := 26, ground := Ground.data }, { on := 40, ground := Ground.data }], guard := none }) (v := ?xv41) rfl (by kernel_rfl) (by kernel_rfl) (by kernel_rfl) (fun _ _ _ h => h) (Or.inl ⟨by rfl, ?xh41⟩) (by assumption) ?xr41
                    case xh41 => (intro w hSw; (try dsimp only at hSw); go_simp; try with_reducible rfl)
                    try simp only [Act.put, List.setIfInBounds_toArray, List.set_cons_zero, List.set_cons_succ]
                    refine wpAnyH_done (by kernel_rfl) ?_ _
                    have HREG := Lib.hid hHeld.2
                    go_wp2_with fail
                    go_roundw
                    case rel => exact ⟨i + 1, S4, by omega, by go_num, (H5.out.1.below HREG.out), HK.out.fused, HK.out.room, Nat.le_succ_of_le HK.out.few, H5.out.2.2.1.trans (HREG.out.mono H5.out.2.2.1.size)⟩
                    case measure => simp [intOf]; omega
                · have hiN : i = N := by omega
                  go_wp2_with fail
                  refine (known3_any wr).mono ?_
                  rintro e w2 ⟨rfl, b2⟩
                  go_wp2_with fail
                  go_ret
                  exact ⟨rfl, HK.out.bel.trans (b2.mono HK.out.bel.size)⟩
end Go.Proofs.Ytcoimlenejffpaa
