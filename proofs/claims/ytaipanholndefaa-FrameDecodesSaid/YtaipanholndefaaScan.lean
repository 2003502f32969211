/- frame.Scan and scrivenerref4.Scan: each answers 'fsc' of the bytes, in memory of its own. -/
import Derived.Test.YtaipanholndefaaRdecode
import Derived.Test.YtaipanholndefaaScanp
import Derived.LoopTactic
namespace Go.Proofs.Ytaipanholndefaa
set_option linter.all false
open Go.RowKit
theorem infoRow : (Try.prog.info? 22).map (fun i => (i.zero, i.size, i.bytes)) = some (some (.slice none 0 0), 1, 24) := by kernel_rfl
/-- Behind a scan. -/
def RetScan (r : List (List UInt8) × Nat × Nat) (w : World) (e : Ending) (w' : World) : Prop :=
  ∃ A c vs, e = .returned (.tuple #[.slice A r.1.length c, .int .i64 (r.2.1 : Int), .int .i64 (r.2.2 : Int)]) ∧ w'.ownsRow w.heap.size 22 1 (.slice A r.1.length c) r.1.length vs ∧ Rwo w' w.heap.size 5 vs r.1 ∧ Below w.heap.size w w' ∧ r.1.length ≤ c ∧ c ≤ 9223372036854775807

set_option maxRecDepth 100000 in
set_option maxHeartbeats 1600000 in
theorem scan_any (A : Option Addr) (n c : Nat) (l : List UInt8) (w : World) (h : Bs w w.heap.size A n l) (hnc : n ≤ c) (hm : c ≤ 9223372036854775807) (hn : n ≤ 1000000) :
    Calls Try.prog 43 #[.slice A n c] w (RetScan (fsc l) w) := by
  have e0 := h.len
  obtain ⟨i0, hi, hz0, hz1, hz2⟩ := info_parts infoRow
  have E0 := Lib.hid e0
  have I0 := Lib.hid hi
  have I1 := Lib.hid hz0
  have I2 := Lib.hid hz1
  have I3 := Lib.hid hz2
  clear e0 hi hz0 hz1 hz2
  go_enter Try.func43, Try.ntmps43
  go_wp2
  go_loopw [6, 5] (fun s6 s5 wr => ∃ (k r c' f : Nat) (A' : Option Addr) (vs : List Value) (R : List (List UInt8)), k ≤ n ∧ r ≤ k ∧ s6 = .int .i64 k ∧ s5 = .slice A' r c' ∧ Hid (At l R k f ∧ n ≤ k + f ∧ R.length = r) ∧ wr.ownsRow w.heap.size 22 1 (.slice A' r c') r vs ∧ Rwo wr w.heap.size 5 vs R ∧ Below w.heap.size w wr) (fun s6 _ _ => n - (intOf s6).toNat)
  case atStart => exact ⟨0, 0, 0, n, none, [], [], by omega, by omega, rfl, rfl, ⟨by rw [← E0.out]; exact at_start l, by omega, rfl⟩, World.ownsRow_nil _ _ _ _, Rwo.nil_ _ _ _, Below.refl _ _⟩
  case round =>
    obtain ⟨k, r, c', f, A', vs, R, hk, hrk, rfl, rfl, HR, ho, hrw, hb⟩ := hrel
    by_cases hlt : k < n
    · obtain ⟨f', rfl⟩ : ∃ f', f = f' + 1 := ⟨f - 1, by have := HR.out.2.1; omega⟩
      obtain ⟨g, off, _, hA, _⟩ := Bs.at_ h (k := 0) (by omega)
      subst hA
      have hlk : k < l.length := by rw [E0.out]; exact hlt
      have hcut : Bs wr wr.heap.size (some ⟨g, off + k, none⟩) (n - k) (l.drop k) := by
        have := Bs.cut h (k := k) (cap := c) (by omega) hnc
        rw [if_neg (by omega), Option.map_some, add_mk] at this
        exact (this.below hb).more hb.size
      have HE : Hid ((fdec (l.drop k)).2.2 ≠ 0 → fsc l = (R, k, (fdec (l.drop k)).2.2)) := fun he => at_err HR.out.1 hlk he
      have HX : Hid ((fdec (l.drop k)).2.2 = 0 → At l (R ++ [(fdec (l.drop k)).1]) (k + (fdec (l.drop k)).2.1) f' ∧ 0 < (fdec (l.drop k)).2.1) := fun he => ⟨at_next HR.out.1 hlk he, fdec_pos he⟩
      have hdl := fdec_len (l.drop k)
      rw [List.length_drop, E0.out] at hdl
      have hRl : r = R.length := HR.out.2.2.symm
      have HRL := Lib.hid hRl
      have HF : Hid (n ≤ k + (f' + 1)) := HR.out.2.1
      clear HR hRl hlk
      go_wp2_with fail
      refine (dec_any _ _ _ _ _ hcut (by omega) (by omega) (by omega)).mono ?_
      generalize fdec (l.drop k) = D at *
      obtain ⟨p, m, er⟩ := D
      simp only at hdl HE HX ⊢
      rintro e w2 ⟨A2, c2, rfl, o2, b2, hc2, hm2⟩
      have hb2 := hb.trans (b2.mono hb.size)
      have ho2 := own_below ho b2
      have hrw2 := hrw.below b2
      by_cases he : er = 0
      · subst he
        obtain ⟨hat, hpos⟩ := HX.out rfl
        have HAT := Lib.hid hat
        clear hat HE HX
        have o2' := own_more o2 hb.size
        go_wp2_with (first
          | (at_builtin
             refine wpList_append_rg _ rfl (.tmp 27) (.tmp 29) _ rfl w.heap.size 22 i0 (.slice none 0 0) 1 24 Try.underlying60 I0.out I1.out I2.out I3.out rfl (by omega) (.slice A' r c') r vs rfl (ho2.alloc _)
               (w2.heap.size + 1) (some ⟨w2.heap.size, 0, none⟩) 1 1 [.slice A2 p.length c2] rfl (Rd.one_new _ _ _) (fun u hu => by rw [List.mem_singleton] at hu; subst hu; rfl) (by simp only [maxLen]; omega) (by omega) (by have := hb2.size; simp; omega) ?_
             intro A3 c3 w3 o3 b3 g3))
        have hb3 := (hb2.alloc hb2.size (Obj.cells #[Value.slice A2 p.length c2] 22)).trans b3
        have hrw3 := ((hrw2.snoc o2').below ((Below.refl _ _).alloc (Nat.le_refl _) (Obj.cells #[Value.slice A2 p.length c2] 22))).kept (ho2.alloc _) (by decide) g3
        go_roundw
        case rel => exact ⟨k + m, r + 1, c3, f', A3, vs ++ [Value.slice A2 p.length c2], R ++ [p], by omega, by omega, by go_num, rfl, ⟨HAT.out, by have := HF.out; omega, by rw [List.length_append, ← HRL.out]; rfl⟩, o3, hrw3, hb3⟩
        case measure => simp [intOf]; omega
      · have q0 : ((er : Int) != 0) = true := by simp; omega
        have HEE := Lib.hid (HE.out he)
        clear he HE HX
        go_wp2
        go_ret3
        rw [HEE.out]
        refine ⟨A', c', vs, ?_, ?_, hrw2, hb2, ?_, ?_⟩
        · simp only [← HRL.out]; rfl
        · simp only [← HRL.out]; exact ho2
        · simp only [← HRL.out]; exact (own_cap ho).1
        · exact (own_cap ho).2
    · go_wp2
      go_ret3
      have hf := at_end HR.out.1 (by rw [E0.out]; omega)
      have hkn : k = n := by omega
      rw [hf]
      refine ⟨A', c', vs, ?_, ?_, hrw, hb, ?_, ?_⟩
      · simp only [HR.out.2.2]; rfl
      · simp only [HR.out.2.2]; exact ho
      · simp only [HR.out.2.2]; exact (own_cap ho).1
      · exact (own_cap ho).2
end Go.Proofs.Ytaipanholndefaa
