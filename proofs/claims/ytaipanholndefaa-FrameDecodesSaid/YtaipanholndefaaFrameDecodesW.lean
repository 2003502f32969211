import Derived.Test.YtaipanholndefaaKnown4
import Derived.Test.YtaipanholndefaaRoomy4
import Derived.Test.YtaipanholndefaaStands4
import Derived.Test.YtaipanholndefaaSpoil4
import Derived.Test.YtaipanholndefaaRows4
import Derived.Test.YtaipanholndefaaRscan
namespace Go.Proofs.Ytaipanholndefaa
set_option linter.all false
open Go.RowKit
theorem rows_of {w : World} {b b' : Nat} {vs vs' : List Value} {R : List (List UInt8)} (h : Rwo w b 5 vs R) (h' : Rwo w b' 5 vs' R) :
    ∀ (i : Nat) (v v' : Value), vs[i]? = some v → vs'[i]? = some v' → ∃ B d B' d' m p, v = .slice B m d ∧ v' = .slice B' m d' ∧ m ≤ maxLen ∧ Bs w w.heap.size B m p ∧ Bs w w.heap.size B' m p := by
  intro i v v' hv hv'
  have hi : i < R.length := by rw [← h.1]; exact (List.getElem?_eq_some_iff.1 hv).1
  have hp : R[i]? = some R[i] := List.getElem?_eq_getElem hi
  have o1 := h.2 i v _ hv hp
  have o2 := h'.2 i v' _ hv' hp
  obtain ⟨B, d, rfl, hd1, hd2⟩ := own_form o1
  obtain ⟨B', d', rfl, _, _⟩ := own_form o2
  exact ⟨B, d, B', d', _, _, rfl, rfl, by omega, Rd.of_own o1, Rd.of_own o2⟩
set_option maxRecDepth 100000 in
set_option maxHeartbeats 1600000 in
theorem frameDecodes_walk (a0 : Option Addr) (n c : Nat) (l : List UInt8) (w : World) (h : Bs w w.heap.size a0 n l) (hc : n ≤ c) (hm : c ≤ 9223372036854775807) :
    Calls Try.prog 12 #[.slice a0 n c] w (Ret (.bool true) w) := by
  by_cases hn : n ≤ 4000
  · have e0 := h.len
    obtain ⟨⟨p, m, er⟩, hD⟩ : ∃ D, fdec l = D := ⟨_, rfl⟩
    obtain ⟨⟨R, k, es⟩, hS⟩ : ∃ S, fsc l = S := ⟨_, rfl⟩
    have hpl : p.length ≤ n := by have := (fdec_len l).1; rw [hD, e0] at this; exact this
    have kl : R.length ≤ 1000000 := by
      have := fscan_rows l.length l
      have hS' : fscan l.length l = (R, k, es) := hS
      rw [hS', e0] at this
      simp only at this
      omega
    have HD := Lib.hid hD
    have HS := Lib.hid hS
    clear hD hS
    go_enter Try.func12, Try.ntmps12
    go_wp2_with fail
    refine (roomy4_any a0 n c l _ h (by omega)).mono ?_
    rintro e w1 ⟨A1, c1, rfl, o1, b1, hc1, hm1⟩
    have r1 := Rd.of_own o1
    have t1 : Bs w1 w1.heap.size A1 n l := by
      have := Bs.take r1 (k := n) (by omega)
      rwa [List.take_left' e0] at this
    have h1 := (h.below b1).more b1.size
    go_wp2_with fail
    refine (dec_any A1 n c1 l _ t1 (by omega) hm1 (by omega)).mono ?_
    rw [HD.out]
    rintro e w2 ⟨A2, c2, rfl, o2, b2, hc2, hm2⟩
    have h2 := h1.upto b2 b2.size
    have t2 := t1.upto b2 b2.size
    go_wp2_with fail
    refine (rdec_any a0 n c l _ h2 hc hm (by omega)).mono ?_
    rw [HD.out]
    rintro e w3 ⟨A3, c3, rfl, o3, b3, hc3, hm3⟩
    have h3 := h2.upto b3 b3.size
    have t3 := t2.upto b3 b3.size
    have p3 := own_below o2 b3
    go_wp2_with fail
    refine (scan_any A1 n c1 l _ t3 (by omega) hm1 (by omega)).mono ?_
    rw [HS.out]
    rintro e w4 ⟨A4, c4, vs, rfl, o4, R4, b4, hc4, hm4⟩
    have h4 := h3.upto b4 b4.size
    have p4 := own_below p3 b4
    have q4 := own_below o3 b4
    go_wp2_with fail
    refine (rscan_any a0 n c l _ h4 hc hm (by omega)).mono ?_
    rw [HS.out]
    rintro e w5 ⟨A5, c5, us, rfl, o5, R5, b5, hc5, hm5⟩
    simp only at o2 o3 o4 o5 R4 R5 p3 p4 q4 hc2 hc3 hc4 hc5
    have h5 := h4.upto b5 b5.size
    have p5 := own_below p4 b5
    have q5 := own_below q4 b5
    have o45 := own_below o4 b5
    have R45 := R4.below b5
    go_wp2_with fail
    refine (same4_eq A2 A3 p.length c2 p.length c3 p p _ (Rd.of_own p5) (Rd.of_own q5) (by unfold maxLen; omega) rfl).mono ?_
    rintro e w6 ⟨rfl, b6⟩
    have o46 := own_below o45 b6
    have o56 := own_below o5 b6
    have z1 : ((m : Int) != m) = false := by simp
    have z2 : ((er : Int) != er) = false := by simp
    have z3 : ((k : Int) != k) = false := by simp
    have z4 : ((es : Int) != es) = false := by simp
    have hrows := rows_of (R45.below b6) (R5.below b6)
    have HRW := Lib.hid hrows
    clear hrows
    go_wp2_with fail
    refine (rows4_eq A4 A5 R.length c4 c5 vs us _ (Rd.of_own o46) (Rd.of_own o56) kl HRW.out).mono ?_
    rintro e w7 hq
    obtain ⟨rfl, b7⟩ := hq.ret
    clear hq
    have p7 := own_below (own_below p5 b6) b7
    have s16 : w1.heap.size ≤ w7.heap.size := by
      have := b2.size; have := b3.size; have := b4.size; have := b5.size; have := b6.size; have := b7.size; omega
    go_wp2_with fail
    refine (spoil4_any w1.heap.size A2 p.length c2 p _ p7 s16 (by omega)).mono ?_
    rintro e w8 ⟨rfl, b8'⟩
    have s17 := b8'.size
    have b18 : Below w1.heap.size w1 w8 := (bseq (bseq (bseq (bseq (bseq b2 b3) b4) b5) b6) b7).trans b8'
    have r8 := r1.upto b18 b18.size
    have h8 := h1.upto b18 b18.size
    go_wp2_with fail
    refine (stands4_any A1 a0 (n + 1) c1 n c l _ r8 h8 hc1 hm1).mono ?_
    rintro e w9 ⟨rfl, b9⟩
    go_wp2_with fail
    refine (known4_any _).mono ?_
    rintro e w10 ⟨rfl, b10⟩
    go_wp2
    go_ret
    exact ⟨rfl, bseq (bseq (bseq b1 b18) b9) b10⟩
  · go_enter Try.func12, Try.ntmps12
    go_wp2
    go_ret
    exact ⟨rfl, Below.refl _ _⟩
end Go.Proofs.Ytaipanholndefaa
