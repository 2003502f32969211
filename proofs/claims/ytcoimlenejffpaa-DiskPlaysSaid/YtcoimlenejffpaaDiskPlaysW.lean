/- DiskPlays: the walk. -/
import Derived.Test.YtcoimlenejffpaaDoes1
namespace Go.Proofs.Ytcoimlenejffpaa
set_option linter.all false
open Go.RowKit
theorem does_any (base d r : Nat) (S : DS) (X : RDS) (w : World) (h : Pair w base d r S X) (hs : Sim S X) (hfew : S.E.length < 4000) (x : St) (hx : StOk w base x) (hlen : stLen x ≤ 8000) :
    Calls Try.prog 26 #[.pointer (some ⟨d, 0, none⟩), .pointer (some ⟨r, 0, none⟩), .agg #[.int .i64 x.k, .int .i64 x.n, .string (str x.a), .string (str x.to), .slice x.A x.b.length x.c]] w (RetDo base d r S.E.length w) := by
  obtain ⟨kk, nn, a, to, b, A, c⟩ := x
  by_cases h1 : kk = 1
  · subst h1; exact does_1 base d r S X w h hs hfew nn a to b A c hx hlen
  by_cases h2 : kk = 2
  · subst h2; exact does_2 base d r S X w h hs hfew nn a to b A c hx hlen
  by_cases h3 : kk = 3
  · subst h3; exact does_3 base d r S X w h hs hfew nn a to b A c hx hlen
  by_cases h4 : kk = 4
  · subst h4; exact does_4 base d r S X w h hs hfew nn a to b A c hx hlen
  by_cases h5 : kk = 5
  · subst h5; exact does_5 base d r S X w h hs hfew nn a to b A c hx hlen
  by_cases h6 : kk = 6
  · subst h6; exact does_6 base d r S X w h hs hfew nn a to b A c hx hlen
  by_cases h7 : kk = 7
  · subst h7; exact does_7 base d r S X w h hs hfew nn a to b A c hx hlen
  exact does_d base d r S X w h hs hfew kk nn a to b A c hx hlen ⟨by simpa using h1, by simpa using h2, by simpa using h3, by simpa using h4, by simpa using h5, by simpa using h6, by simpa using h7⟩
theorem DW.lower {w : World} {b b' d : Nat} {S : DS} (h : DW w b d S) (hb : b' ≤ b) : DW w b' d S := ⟨h.cell, h.map, h.file, h.nodup, fun i hi => ⟨Nat.le_trans hb (h.ge i hi).1, (h.ge i hi).2⟩, h.room, h.few, h.left⟩
theorem own_lower {w : World} {b b' sz n : Nat} {e : TypeId} {v : Value} {xs : List Value} (h : w.ownsRow b e sz v n xs) (hb : b' ≤ b) : w.ownsRow b' e sz v n xs := by
  refine ⟨h.1, ?_⟩
  rcases h.2 with h0 | ⟨g, cap, cur, hv, hbg, r⟩
  · exact .inl h0
  · exact .inr ⟨g, cap, cur, hv, Nat.le_trans hb hbg, r⟩
theorem RW.lower {w : World} {b b' r : Nat} {X : RDS} (h : RW w b r X) (hb : b' ≤ b) : RW w b' r X := ⟨h.cell, own_lower h.row hb, h.file, fun i hi => ⟨Nat.le_trans hb (h.ge i hi).1, (h.ge i hi).2⟩, h.room, h.few, h.left⟩
/-- Two disks, one laid behind the other. -/
theorem Pair.new {w w1 w2 : World} {base d r : Nat} {S : DS} {X : RDS} (hb : base ≤ w.heap.size) (hd : DW w1 w.heap.size d S) (h1 : w.heap.size ≤ w1.heap.size) (hx : RW w2 w1.heap.size r X) (b2 : Below w1.heap.size w1 w2) : Pair w2 base d r S X :=
  ⟨(hd.below b2).lower hb, hx.lower (Nat.le_trans hb h1), fun i hi h9 => by have := (hd.ge i hi).2; have := (hx.ge i h9).1; omega⟩
theorem Pair.turned {w w' : World} {base d r : Nat} {S : DS} {X : RDS} {B : List Nat} (h : Pair w base d r S X) (ht : Turn B w w') (hd : ∀ i ∈ S.bl d, i ∉ B) (hx : ∀ i ∈ X.bl r, i ∉ B) : Pair w' base d r S X :=
  ⟨h.hD.keep (fun i hi => ht.block i (h.hD.ge i hi).2 (hd i hi)) ht.size, h.hX.keep (fun i hi => ht.block i (h.hX.ge i hi).2 (hx i hi)) ht.size, h.dis⟩
set_option maxRecDepth 100000 in
set_option maxHeartbeats 3200000 in
theorem plays_heavy (room : Int) (A : Option Addr) (c : Nat) (l : List St) (w : World) (h : Steps w w.heap.size A l) (hc : l.length ≤ c ∧ c ≤ 140737488351232) (hh : heavyB l = true) :
    Calls Try.prog 7 #[.int .i64 room, .slice A l.length c] w (Ret (.bool true) w) := by
  have h1 := heavy_any A c l w h hc
  rw [hh] at h1
  have HH := Lib.hid h1
  obtain ⟨n, hn⟩ : ∃ n, n = l.length := ⟨_, rfl⟩
  rw [← hn] at HH ⊢
  clear h hc h1 hn
  go_enter Try.func7, Try.ntmps7
  go_wp2_with fail
  refine (unhide3 HH).mono ?_
  rintro en w1 ⟨rfl, k, hw1⟩
  have b1 : Below w.heap.size w w1 := by rw [hw1]; exact below_drewN (Below.refl _ _) _
  have HB1 := Lib.hid b1
  clear hw1 b1 HH
  go_wp2_with fail
  refine (known3_any w1).mono ?_
  rintro en w2 ⟨rfl, b2⟩
  have HB2 : Hid (Below w.heap.size w w2) := HB1.out.trans (b2.mono HB1.out.size)
  clear b2
  go_wp2_with fail
  go_ret
  exact ⟨rfl, HB2.out⟩
set_option maxRecDepth 100000 in
set_option maxHeartbeats 3200000 in
theorem plays_bad (room : Int) (A : Option Addr) (c : Nat) (l : List St) (w : World) (h : Steps w w.heap.size A l) (hc : l.length ≤ c ∧ c ≤ 140737488351232) (hh : heavyB l = false) (hr : room < 0 ∨ 1073741824 < room) :
    Calls Try.prog 7 #[.int .i64 room, .slice A l.length c] w (Ret (.bool true) w) := by
  have h1 := heavy_any A c l w h hc
  rw [hh] at h1
  have HH := Lib.hid h1
  have HN := Lib.hid (fun W => new_bad room hr W)
  have HX := Lib.hid (fun W => rnew_bad room hr W)
  obtain ⟨n, hn⟩ : ∃ n, n = l.length := ⟨_, rfl⟩
  rw [← hn] at HH ⊢
  clear h hc h1 hn hr
  go_enter Try.func7, Try.ntmps7
  go_wp2_with fail
  refine (unhide3 HH).mono ?_
  rintro en w1 ⟨rfl, k, hw1⟩
  have b1 : Below w.heap.size w w1 := by rw [hw1]; exact below_drewN (Below.refl _ _) _
  have HB1 := Lib.hid b1
  have HN1 := Lib.hid (HN.out w1)
  have HX1 := Lib.hid (HX.out w1)
  clear hw1 b1 HH
  go_wp2_with fail
  refine (unhide3 HN1).mono ?_
  rintro en w2 ⟨rfl, rfl⟩
  go_wp2_with fail
  refine (unhide3 HX1).mono ?_
  rintro en w2 ⟨rfl, rfl⟩
  go_wp2_with fail
  refine (known3_any w1).mono ?_
  rintro en w2 ⟨rfl, b2⟩
  have HB2 : Hid (Below w.heap.size w w2) := HB1.out.trans (b2.mono HB1.out.size)
  clear b2
  go_wp2_with fail
  go_ret
  exact ⟨rfl, HB2.out⟩
set_option maxRecDepth 100000 in
set_option maxHeartbeats 6400000 in
theorem plays_good (room : Nat) (A : Option Addr) (c : Nat) (l : List St) (w : World) (h : Steps w w.heap.size A l) (hc : l.length ≤ c ∧ c ≤ 140737488351232) (hh : heavyB l = false) (hr : room ≤ 1073741824) :
    Calls Try.prog 7 #[.int .i64 (room : Int), .slice A l.length c] w (Ret (.bool true) w) := by
  have h1 := heavy_any A c l w h hc
  rw [hh] at h1
  have HH := Lib.hid h1
  have HHV := Lib.hid hh
  have H := Lib.hid h
  have kc := fun (w : World) (C : Array Value) (n c : Nat) => Lib.run_convert_bytes_const (P := Try.prog) w 23 5 C n c Try.underlying23 Try.underlying5
  obtain ⟨n, hn⟩ : ∃ n, n = l.length := ⟨_, rfl⟩
  rw [← hn] at HH hc ⊢
  have HN := Lib.hid hn
  clear h h1 hn hh
  go_enter Try.func7, Try.ntmps7
  go_wp2_with fail
  refine (unhide3 HH).mono ?_
  rintro en w1 ⟨rfl, k, hw1⟩
  have b1 : Below w.heap.size w w1 := by rw [hw1]; exact below_drewN (Below.refl _ _) _
  have HB1 := Lib.hid b1
  clear hw1 b1 HH
  go_wp2_with fail
  refine (new_any room hr w1).mono ?_
  rintro en w2 ⟨d, m, rfl, hd2, b2⟩
  have HD2 := Lib.hid (And.intro hd2 b2)
  clear hd2 b2
  go_wp2_with fail
  refine (rnew_any room hr w2).mono ?_
  rintro en w3 ⟨r, rfl, hx3, b3⟩
  have hp3 : Pair w3 w.heap.size d r (newS room m) (rnewX room) := Pair.new HB1.out.size HD2.out.1 HD2.out.2.size hx3 b3
  have HP3 := Lib.hid hp3
  have HB3 : Hid (Below w.heap.size w w3) := (HB1.out.trans (HD2.out.2.mono HB1.out.size)).trans (b3.mono (Nat.le_trans HB1.out.size HD2.out.2.size))
  have HS3 : Hid (Sim (newS room m) (rnewX room)) := sim_new room m
  clear hx3 b3 hp3 HD2 HB1
  go_wp2_with fail
  go_loopw [5, 7, 9] (fun s5 s7 s9 wr => ∃ (i d r : Nat) (S : DS) (X : RDS), i ≤ n ∧ i ≤ 120 ∧ s5 = .pointer (some ⟨d, 0, none⟩) ∧ s7 = .pointer (some ⟨r, 0, none⟩) ∧ s9 = .int .i64 (i : Int) ∧ Hid (Pair wr w.heap.size d r S X) ∧ Hid (Sim S X) ∧ Hid (S.E.length ≤ i) ∧ Hid (Below w.heap.size w wr)) (fun _ _ s9 _ => 121 - (intOf s9).toNat)
  case atStart => exact ⟨0, d, r, newS room m, rnewX room, by omega, by omega, rfl, rfl, rfl, HP3.out, HS3.out, Nat.le_refl _, HB3.out⟩
  case round =>
    clear HP3 HS3 HB3
    obtain ⟨i, d, r, S, X, h1, h2, rfl, rfl, rfl, HP, HS, HL, HB⟩ := hrel
    rcases Nat.lt_or_ge i n with hlt | hlt
    · rcases Nat.lt_or_ge i 120 with hl2 | hl2
      · have q1 : decide ((i : Int) < (n : Int)) = true := decide_eq_true (by omega)
        have q2 : decide ((i : Int) < 120) = true := decide_eq_true (by omega)
        obtain ⟨g, off, x, hA, hg, hx, hok, k0, k1, k2, k3, k4⟩ := (H.out.below HB.out).at_ (by rw [← HN.out]; exact hlt)
        subst hA
        have hst := heavy_no HHV.out hl2 hx
        have HD := Lib.hid (does_any w.heap.size d r S X wr HP.out HS.out (by have := HL.out; omega) x hok hst)
        have HLW : Hid (S.E.length < 4000) := by have := HL.out; show _ < _; omega
        rcases hk : (x.k == 8) with _ | _
        · clear hx hok hst
          go_wp2_with fail
          refine (unhide3 HD).mono ?_
          rintro en w4 ⟨rfl, S', X', hp4, hs4, hl4, b4⟩
          have HP4 := Lib.hid hp4
          have HS4 := Lib.hid hs4
          have HL4 : Hid (S'.E.length ≤ i + 1) := by have := HL.out; show _ ≤ _; omega
          have HB4 : Hid (Below w.heap.size w w4) := HB.out.trans b4
          have HST := Lib.hid (stood_any w.heap.size d r S' X' w4 hp4 hs4)
          clear hp4 hs4 hl4 b4 HP HS HL HB HD k0 k1 k2 k3 k4
          go_wp2_with fail
          refine (unhide3 HST).mono ?_
          rintro en w5 ⟨rfl, b5⟩
          have HP5 : Hid (Pair w5 w.heap.size d r S' X') := HP4.out.below b5
          have HB5 : Hid (Below w.heap.size w w5) := HB4.out.trans (b5.mono HB4.out.size)
          clear b5 HST HP4 HB4
          go_wp2_with fail
          go_roundw
          case rel => exact ⟨i + 1, d, r, S', X', by omega, by omega, rfl, rfl, by go_num, HP5.out, HS4.out, HL4.out, HB5.out⟩
          case measure => simp [intOf]; omega
        · have HC := Lib.hid (copy_any w.heap.size d S wr HP.out.hD (by have := HL.out; omega))
          clear hx hok hst HD
          go_wp2_with fail
          refine (unhide3 HC).mono ?_
          rintro en w4 ⟨d2, T, rfl, t1, t2, t3, hT, b4⟩
          have HT := Lib.hid hT
          have HTS := Lib.hid (And.intro t1 (And.intro t2 t3))
          have HB4 := Lib.hid b4
          have HCX := Lib.hid (rcopy_any w.heap.size r X w4 (HP.out.hX.below b4) (by have := HS.out.len; have := HL.out; omega))
          clear hT t1 t2 t3 b4 HC k0 k1 k2 k3 k4
          go_wp2_with fail
          refine (unhide3 HCX).mono ?_
          rintro en w5 ⟨ro, Y, rfl, y1, y2, y3, hY, b5⟩
          have hbw := HP.out.base_le
          have HP5 : Hid (Pair w5 w.heap.size d2 ro T Y) := Pair.new hbw HT.out HB4.out.size hY b5
          have HS5 : Hid (Sim T Y) := sim_copy HS.out HTS.out.1 HTS.out.2.1 HTS.out.2.2 y1 y2 y3
          have hbl : ∀ i ∈ S.bl d, i < wr.heap.size := fun i hi => (HP.out.hD.ge i hi).2
          have hlo : (∀ i ∈ T.bl d2, wr.heap.size ≤ i ∧ i < w5.heap.size) ∧ ∀ i ∈ Y.bl ro, wr.heap.size ≤ i ∧ i < w5.heap.size :=
            ⟨fun i hi => ⟨(HT.out.ge i hi).1, (HP5.out.hD.ge i hi).2⟩, fun i hi => ⟨by have := (hY.ge i hi).1; have := HB4.out.size; omega, (hY.ge i hi).2⟩⟩
          have HLO := Lib.hid (And.intro hbl hlo)
          have hTl : T.E.length = S.E.length := by have := HTS.out.2.2.length_eq; simpa using this
          have HL5 : Hid (T.E.length ≤ i + 1) := by have := HL.out; show _ ≤ _; omega
          have HB5 : Hid (Below w.heap.size w w5) := (HB.out.trans (HB4.out.mono hbw)).trans (b5.mono (Nat.le_trans hbw HB4.out.size))
          have hD5 : DW w5 w.heap.size d S := (HP.out.hD.below HB4.out).below b5
          have HD5 := Lib.hid hD5
          have hwb : wr.heap.size ≤ w5.heap.size := Nat.le_trans HB4.out.size b5.size
          clear hY y1 y2 y3 b5 hbl hlo hTl hD5 HT HTS HB4 HCX HP HS HL HB
          go_wp2_with fail
          refine (append_any w.heap.size d S _ (HD5.out.below (below_refl_alloc _ _)) [115, 112, 111, 105, 108, 116] [120] (by simp) _ 1 1 (Bs.lit w5 _ _ _ _ _ rfl rfl) (by omega) (by have := HLW.out; omega)).mono ?_
          rintro en w6 ⟨code, S6, rfl, _, hd6, ht6, hin6⟩
          have t56 : Turn (S.bl d) w5 w6 := (Turn.of_below (below_refl_alloc _ _)).trans ht6 (fun i hi => .inl hi)
          have hin : ∀ i ∈ S6.bl d, i ∈ S.bl d ∨ w5.heap.size ≤ i := fun i hi => by
            rcases hin6 i hi with h9 | h9
            · exact .inl h9
            · refine .inr (Nat.le_trans ?_ h9)
              simp
          have HP6 : Hid (Pair w6 w.heap.size d2 ro T Y) := HP5.out.turned t56 (fun i hi h9 => by have := HLO.out.1 i h9; have := (HLO.out.2.1 i hi).1; omega) (fun i hi h9 => by have := HLO.out.1 i h9; have := (HLO.out.2.2 i hi).1; omega)
          have HB6 : Hid (Below w.heap.size w w6) := HB5.out.trans (t56.below (fun i hi => (HD5.out.ge i hi).1) HB5.out.size)
          have HIN := Lib.hid (And.intro hin (fun i (hi : i ∈ S6.bl d) => (hd6.ge i hi).1))
          have HC6 := Lib.hid (crash_any w.heap.size d S6 w6 hd6 0 (by omega) (by omega))
          clear hd6 ht6 hin6 t56 hin HP5 HB5
          go_wp2_with fail
          refine (unhide3 HC6).mono ?_
          rintro en w7 ⟨rfl, _, t67⟩
          have HP7 : Hid (Pair w7 w.heap.size d2 ro T Y) := HP6.out.turned t67 (fun i hi h9 => by
            rcases HIN.out.1 i h9 with h8 | h8
            · have := HLO.out.1 i h8; have := (HLO.out.2.1 i hi).1; omega
            · have := (HLO.out.2.1 i hi).2; omega) (fun i hi h9 => by
            rcases HIN.out.1 i h9 with h8 | h8
            · have := HLO.out.1 i h8; have := (HLO.out.2.2 i hi).1; omega
            · have := (HLO.out.2.2 i hi).2; omega)
          have HB7 : Hid (Below w.heap.size w w7) := HB6.out.trans (t67.below (fun i hi => HIN.out.2 i hi) HB6.out.size)
          clear t67 HP6 HB6 HC6 HIN HLO
          go_wp2_with fail
          go_roundw
          case rel => exact ⟨i + 1, d2, ro, T, Y, by omega, by omega, rfl, rfl, by go_num, HP7.out, HS5.out, HL5.out, HB7.out⟩
          case measure => simp [intOf]; omega
      · have hi : i = 120 := by omega
        subst hi
        have q1 : decide ((120 : Int) < (n : Int)) = true := decide_eq_true (by omega)
        clear HP HS HL
        go_wp2_with fail
        refine (known3_any wr).mono ?_
        rintro en w9 ⟨rfl, b9⟩
        have HB9 : Hid (Below w.heap.size w w9) := HB.out.trans (b9.mono HB.out.size)
        clear b9
        go_wp2_with fail
        go_ret
        exact ⟨rfl, HB9.out⟩
    · have q1 : decide ((i : Int) < (n : Int)) = false := decide_eq_false (by omega)
      clear HP HS HL
      go_wp2_with fail
      refine (known3_any wr).mono ?_
      rintro en w9 ⟨rfl, b9⟩
      have HB9 : Hid (Below w.heap.size w w9) := HB.out.trans (b9.mono HB.out.size)
      clear b9
      go_wp2_with fail
      go_ret
      exact ⟨rfl, HB9.out⟩
theorem diskPlays_walk (room : Int) (A : Option Addr) (c : Nat) (l : List St) (w : World) (h : Steps w w.heap.size A l) (hc : l.length ≤ c ∧ c ≤ 140737488351232) (r1 : -9223372036854775808 ≤ room) (r2 : room ≤ 9223372036854775807) :
    Calls Try.prog 7 #[.int .i64 room, .slice A l.length c] w (Ret (.bool true) w) := by
  rcases hh : heavyB l with _ | _
  · rcases Int.lt_or_le room 0 with h1 | h1
    · exact plays_bad room A c l w h hc hh (.inl h1)
    · rcases Int.lt_or_le 1073741824 room with h2 | h2
      · exact plays_bad room A c l w h hc hh (.inr h2)
      · obtain ⟨k, rfl⟩ : ∃ k : Nat, room = (k : Int) := ⟨room.toNat, by omega⟩
        exact plays_good k A c l w h hc hh (by omega)
  · exact plays_heavy room A c l w h hc hh
end Go.Proofs.Ytcoimlenejffpaa
