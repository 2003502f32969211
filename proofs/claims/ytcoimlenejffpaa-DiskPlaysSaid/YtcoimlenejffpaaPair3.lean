/- The two disks in one memory; all files compared. -/
import Derived.Test.YtcoimlenejffpaaDiskSim
import Derived.Test.YtcoimlenejffpaaDiskNamesW
import Derived.Test.YtcoimlenejffpaaHeavy3
import Derived.Test.YtcoimlenejffpaaRoomy3
import Derived.Test.YtcoimlenejffpaaStands3
import Derived.Test.YtcoimlenejffpaaSpoil3
import Derived.Deep.RegionHeld3
namespace Go.Proofs.Ytcoimlenejffpaa
set_option linter.all false
open Go.RowKit
structure Pair (w : World) (base d r : Nat) (S : DS) (X : RDS) : Prop where
  hD : DW w base d S
  hX : RW w base r X
  dis : ∀ i ∈ S.bl d, i ∉ X.bl r
theorem Pair.below {w w' : World} {base d r : Nat} {S : DS} {X : RDS} (h : Pair w base d r S X) (hb : Below w.heap.size w w') : Pair w' base d r S X := ⟨h.hD.below hb, h.hX.below hb, h.dis⟩
theorem Pair.base_le {w : World} {base d r : Nat} {S : DS} {X : RDS} (h : Pair w base d r S X) : base ≤ w.heap.size := h.hX.base_le
theorem Pair.stepD {w w' : World} {base d r : Nat} {S S' : DS} {X : RDS} (h : Pair w base d r S X) (hd : DW w' base d S') (ht : Turn (S.bl d) w w') (hin : ∀ i ∈ S'.bl d, i ∈ S.bl d ∨ w.heap.size ≤ i) :
    Pair w' base d r S' X ∧ Below base w w' := by
  refine ⟨⟨hd, h.hX.keep (fun i hi => ht.block i (h.hX.ge i hi).2 (fun h9 => h.dis i h9 hi)) ht.size, fun i hi => ?_⟩, ht.below (fun i hi => (h.hD.ge i hi).1) h.base_le⟩
  rcases hin i hi with h1 | h1
  · exact h.dis i h1
  · exact fun h2 => by have := (h.hX.ge i h2).2; omega
theorem Pair.stepX {w w' : World} {base d r : Nat} {S : DS} {X X' : RDS} (h : Pair w base d r S X) (hx : RW w' base r X') (ht : Turn (X.bl r) w w') (hin : ∀ i ∈ X'.bl r, i ∈ X.bl r ∨ w.heap.size ≤ i) :
    Pair w' base d r S X' ∧ Below base w w' := by
  refine ⟨⟨h.hD.keep (fun i hi => ht.block i (h.hD.ge i hi).2 (fun h9 => h.dis i hi h9)) ht.size, hx, fun i hi h9 => ?_⟩, ht.below (fun i hi => (h.hX.ge i hi).1) h.base_le⟩
  rcases hin i h9 with h1 | h1
  · exact h.dis i hi h1
  · have := (h.hD.ge i hi).2; omega
/-- A block that is none of theirs turns. -/
theorem Pair.grown {w w' : World} {base d r : Nat} {S : DS} {X : RDS} {row : Option Nat} (h : Pair w base d r S X) (hg : w.grownBy w' row) (hd : ∀ i ∈ S.bl d, some i ≠ row) (hx : ∀ i ∈ X.bl r, some i ≠ row) : Pair w' base d r S X :=
  ⟨h.hD.keep (fun i hi => hg.block i (h.hD.ge i hi).2 (hd i hi)) hg.size, h.hX.keep (fun i hi => hg.block i (h.hX.ge i hi).2 (hx i hi)) hg.size, h.dis⟩
theorem sim_file {S : DS} {X : RDS} (h : Sim S X) {i : Nat} {f : RFE} (hf : X.L[i]? = some f) : (∃ e, getE f.s S.E = some e ∧ e.b = f.b) ∧ contX X f.s = f.b ∧ spotB f.s X.L = true := by
  have hm : absF f ∈ X.L.map absF := List.mem_map.2 ⟨f, List.mem_of_getElem? hf, rfl⟩
  have hl : lookT f.s (X.L.map absF) = some (absF f) := lookT_of h.so.nd hm rfl
  have h1 := h.look f.s
  rw [hl] at h1
  obtain ⟨e, he, e2⟩ := Option.map_eq_some_iff.1 h1
  have hb : e.b = f.b := congrArg (fun x : Tr => x.2.1) e2
  have hc := sim_cont h f.s
  refine ⟨⟨e, he, hb⟩, ?_, ?_⟩
  · rw [← hc.1]
    unfold cont
    rw [he]; exact hb
  · rw [← hc.2, he]; rfl
theorem enc_sv (s : List UInt8) : encStr s = sv s := rfl
/-- All files are the same. -/
theorem mem_used {L : List RFE} {f : RFE} (h : f ∈ L) : f.b.length ≤ (L.map fun f => f.b.length).sum := by
  induction L with
  | nil => simp at h
  | cons x r ih =>
    simp only [List.map_cons, List.sum_cons]
    rcases List.mem_cons.1 h with rfl | h3
    · omega
    · have := ih h3; omega
set_option maxRecDepth 100000 in
set_option maxHeartbeats 3200000 in
theorem stood_any (base d r : Nat) (S : DS) (X : RDS) (w : World) (h : Pair w base d r S X) (hs : Sim S X) :
    Calls Try.prog 27 #[.pointer (some ⟨d, 0, none⟩), .pointer (some ⟨r, 0, none⟩)] w (Ret (.bool true) w) := by
  have hrl := Lib.hid (rlist_any base r X w h.hX)
  obtain ⟨n, hn⟩ : ∃ n, n = X.L.length := ⟨_, rfl⟩
  have hfew := h.hX.few
  rw [← hn] at hfew
  have HN := Lib.hid hn
  have H := Lib.hid h
  have HS := Lib.hid hs
  clear h hs hn
  go_enter Try.func27, Try.ntmps27
  go_wp2_with fail
  refine (unhide3 hrl).mono ?_
  rintro en w1 ⟨A, c, rfl, o1, b1, hc1, hm1⟩
  rw [← HN.out] at o1 hc1 ⊢
  have H1 : Hid (Pair w1 base d r S X) := H.out.below b1
  have HR1 : Hid (Rd w1 w1.heap.size 1 A n ((X.L.map (·.s)).map sv)) := Rd.of_own o1
  have HB1 := Lib.hid b1
  clear hrl o1 b1
  go_wp2_with fail
  have hli := Lib.hid (list_any base d S w1 H1.out.hD)
  refine (unhide3 hli).mono ?_
  rintro en w2 ⟨v2, ss, rfl, hp, o2, b2⟩
  have hnm := sim_names HS.out hp
  rw [hnm] at o2
  obtain ⟨A2, c2, hv2, hc2, hm2⟩ := own_form o2
  subst hv2
  have hsl : ss.length = n := by
    have h9 := congrArg List.length hnm
    rw [List.length_mergeSort, List.length_map] at h9
    rw [h9, HN.out]
  rw [hsl] at o2 hc2 ⊢
  have hrd2 : Rd w2 w2.heap.size 1 A2 n ((X.L.map (·.s)).map sv) := Rd.of_own o2
  have htx := texts_any A2 A n c2 n c (X.L.map (·.s)) (X.L.map (·.s)) w2 hrd2 ((HR1.out.below b2).more b2.size) (by simp only [maxLen]; omega)
  rw [decide_eq_true rfl] at htx
  have H2 : Hid (Pair w2 base d r S X) := H1.out.below b2
  have HB2 : Hid (Below w.heap.size w w2) := HB1.out.trans (b2.mono HB1.out.size)
  have HT := Lib.hid htx
  have HR2 : Hid (Rd w2 w2.heap.size 1 A n ((X.L.map (·.s)).map sv)) := (HR1.out.below b2).more b2.size
  clear hli hp o2 b2 hnm hrd2 htx hsl
  go_wp2_with fail
  refine (unhide3 HT).mono ?_
  rintro en w3 ⟨rfl, b3⟩
  have H3 : Hid (Pair w3 base d r S X) := H2.out.below b3
  have HB3 : Hid (Below w.heap.size w w3) := HB2.out.trans (b3.mono HB2.out.size)
  have hud := used_any base d S w3 H3.out.hD
  rw [HS.out.used] at hud
  have HUD := Lib.hid hud
  have HR3 : Hid (Rd w3 w3.heap.size 1 A n ((X.L.map (·.s)).map sv)) := (HR2.out.below b3).more b3.size
  clear b3 hud
  go_wp2_with fail
  refine (unhide3 HUD).mono ?_
  rintro en w4 ⟨rfl, b4⟩
  have H4 : Hid (Pair w4 base d r S X) := H3.out.below b4
  have HB4 : Hid (Below w.heap.size w w4) := HB3.out.trans (b4.mono HB3.out.size)
  have HR4 : Hid (Rd w4 w4.heap.size 1 A n ((X.L.map (·.s)).map sv)) := (HR3.out.below b4).more b4.size
  have HUX := Lib.hid (rused_any base r X w4 H4.out.hX)
  clear b4
  go_wp2_with fail
  refine (unhide3 HUX).mono ?_
  rintro en w5 ⟨rfl, rfl⟩
  have hwl : w.heap.size ≤ w4.heap.size := HB4.out.size
  go_wp2_with fail
  clear HR1 HR2 HR3 H1 H2 H3 HB1 HB2 HB3 HUX HUD HT
  go_loopw [6] (fun s6 wr => ∃ i : Nat, i ≤ n ∧ s6 = .int .i64 (i : Int) ∧ Hid (Pair wr base d r S X) ∧ Hid (Below w.heap.size w wr) ∧ Hid (Rd wr wr.heap.size 1 A n ((X.L.map (·.s)).map sv))) (fun s6 _ => n - (intOf s6).toNat)
  case atStart => exact ⟨0, by omega, rfl, H4.out, HB4.out, HR4.out⟩
  case round =>
    obtain ⟨i, hi, rfl, HP, HB, HR⟩ := hrel
    by_cases hlt : i < n
    · obtain ⟨g, off, s, hA, hg, hx, hcell⟩ := sv_at HR.out hlt
      subst hA
      rw [List.getElem?_map] at hx
      obtain ⟨f, hf, hfs⟩ := Option.map_eq_some_iff.1 hx
      subst hfs
      obtain ⟨⟨e, he, heb⟩, hcx, hsb⟩ := sim_file HS.out hf
      have hfl : f.s.length ≤ 140737488351232 := by have := (HP.out.hX.file f (List.mem_of_getElem? hf)).2.2; omega
      have hfb : f.b.length ≤ 1073741824 := by
        have h1 := HP.out.hX.room
        have h2 : f.b.length ≤ X.used := mem_used (List.mem_of_getElem? hf)
        omega
      have hrd := read_some base d S wr HP.out.hD f.s hfl e he
      rw [heb] at hrd
      have HRD := Lib.hid hrd
      have HRX : Hid (∀ W, Pair W base d r S X → Calls Try.prog 45 #[.pointer (some ⟨r, 0, none⟩), .string (str f.s)] W (RetReadX f.b 0 W)) := by
        show ∀ W, _
        intro W hW
        have h1 := rread_any base r X W hW.hX f.s
        rw [hcx, hsb] at h1
        exact h1
      have q1 : decide ((i : Int) < (n : Int)) = true := decide_eq_true (by omega)
      obtain ⟨m, hm⟩ : ∃ m, m = f.b.length := ⟨_, rfl⟩
      have HM := Lib.hid hm
      have hm9 : m ≤ 1073741824 := by omega
      clear hx hf he heb hcx hsb hrd hm hfb
      go_wp2_with fail
      refine (unhide3 HRD).mono ?_
      rintro en u1 ⟨B1, k1, rfl, o1, b1, h1, h2⟩
      rw [← HM.out] at o1 h1 ⊢
      have HP1 : Hid (Pair u1 base d r S X) := HP.out.below b1
      have HB1 : Hid (Below w.heap.size w u1) := HB.out.trans (b1.mono HB.out.size)
      have HR1 : Hid (Rd u1 u1.heap.size 1 (some ⟨g, off, none⟩) n ((X.L.map (·.s)).map sv)) := (HR.out.below b1).more b1.size
      have hbs1 : Hid (Bs u1 u1.heap.size B1 m f.b) := Rd.of_own o1
      have hcell1 : u1.cell? ⟨g, off + i, none⟩ = some (.string (str f.s)) := (b1.cell (p := ⟨g, off + i, none⟩) hg).trans hcell
      have hg1 : g < u1.heap.size := Nat.lt_of_lt_of_le hg b1.size
      have HRX1 := Lib.hid (HRX.out u1 HP1.out)
      clear o1 b1 hcell hg HP HB HR HRX HRD
      go_wp2_with fail
      refine (unhide3 HRX1).mono ?_
      rintro en u2 ⟨B2, k2, rfl, o2, b2, h3, h4⟩
      rw [← HM.out] at o2 h3 ⊢
      have HP2 : Hid (Pair u2 base d r S X) := HP1.out.below b2
      have HB2 : Hid (Below w.heap.size w u2) := HB1.out.trans (b2.mono HB1.out.size)
      have HR2 : Hid (Rd u2 u2.heap.size 1 (some ⟨g, off, none⟩) n ((X.L.map (·.s)).map sv)) := (HR1.out.below b2).more b2.size
      have hsm := same3_any B1 B2 m k1 m k2 f.b f.b u2 ((hbs1.out.below b2).more b2.size) o2.bs (by simp only [maxLen]; omega)
      rw [decide_eq_true rfl] at hsm
      have HSM := Lib.hid hsm
      clear o2 b2 hsm HP1 HB1 HR1 hbs1 hcell1 hg1 HRX1
      go_wp2_with fail
      refine (unhide3 HSM).mono ?_
      rintro en u3 ⟨rfl, b3⟩
      have HP3 : Hid (Pair u3 base d r S X) := HP2.out.below b3
      have HB3 : Hid (Below w.heap.size w u3) := HB2.out.trans (b3.mono HB2.out.size)
      have HR3 : Hid (Rd u3 u3.heap.size 1 (some ⟨g, off, none⟩) n ((X.L.map (·.s)).map sv)) := (HR2.out.below b3).more b3.size
      clear b3 HP2 HB2 HR2 HSM
      go_wp2_with fail
      go_roundw
      case rel => exact ⟨i + 1, by omega, by go_num, HP3.out, HB3.out, HR3.out⟩
      case measure => simp [intOf]; omega
    · obtain rfl : i = n := by omega
      clear hlt hi
      go_wp2_with fail
      go_ret
      exact ⟨rfl, HB.out⟩
end Go.Proofs.Ytcoimlenejffpaa
