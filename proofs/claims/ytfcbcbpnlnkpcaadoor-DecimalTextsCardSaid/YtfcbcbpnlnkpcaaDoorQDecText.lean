/- decimal.Text. -/
import Derived.Test.YtfcbcbpnlnkpcaaDoorQAn
import Derived.Test.YtfcbcbpnlnkpcaaDoorQBase
import Derived.Test.YtfcbcbpnlnkpcaaDoorQLayd
namespace Go.Proofs.YtfcbcbpnlnkpcaaDoor
set_option linter.all false
open Go.RowKit
theorem tab_below {w w' : World} {name : String} {k : IntKind} {zs : List Int} (h : Lib.TabIs Tryd.prog w name k zs) (hb : Below w.heap.size w w') : Lib.TabIs Tryd.prog w' name k zs := by
  unfold Lib.TabIs World.var? at *
  cases hg : Program.globalNamed Tryd.prog name with
  | none => simp [hg] at h
  | some g =>
    simp only [hg, Option.bind_some] at h ⊢
    have hlt : g < w.heap.size := by
      rcases Nat.lt_or_ge g w.heap.size with h' | h'
      · exact h'
      · rw [Array.getElem?_eq_none h'] at h; simp at h
    rw [hb.block g hlt]
    exact h
def textR (n : Nd) (k : F) : Value := if numB n k = true then .tuple #[.string (str (textN n)), .int .i64 0] else .tuple #[.string ⟨#[]⟩, .int .i64 11]
set_option maxRecDepth 100000 in
set_option maxHeartbeats 3200000 in
theorem Text_any (n : Nd) (k : F) (v : Value) (w : World) (hv : Vo w (· < w.heap.size) n k v) (htab : Lib.TabIs Tryd.prog w "internal/strconv.uint64pow10" .u64 Lib.pow10Tab) :
    Calls Tryd.prog 27 #[v] w (Ret (textR n k) w) := by
  have hare : Hid (∀ (A : Option Addr) (w : World), Kids w (· < w.heap.size) A (.cons n k .nil) → Calls Tryd.prog 36 #[.slice A 1 1] w (Ret (.bool (areF (.cons n k .nil))) w)) := fun A w h => are_any A (.cons n k .nil) w (by simp [F.len]) h
  obtain ⟨An, cn, Ak, ck, rfl, hok1, _, _, _, _⟩ := id hv
  have ST : St w [⟨w.heap.size, n, k, An, cn, Ak, ck⟩] (w.alloc (.cells #[.int .i64 n.kind, .int .i64 n.int, .int .i64 n.scale, .string (str n.text), .slice An n.names.length cn, .slice Ak k.len ck] 25)) := by
    have := St.box_new (St.nil w) hv
    simpa [ncells] using this
  generalize hW : w.alloc (.cells #[.int .i64 n.kind, .int .i64 n.int, .int .i64 n.scale, .string (str n.text), .slice An n.names.length cn, .slice Ak k.len ck] 25) = W at *
  have hA : areF (.cons n k .nil) = numB n k := by simp [areF]
  rw [hA] at hare
  obtain ⟨V, hV⟩ : ∃ V, textR n k = V := ⟨_, rfl⟩
  rw [hV]
  unfold textR at hV
  have HVV := Lib.hid hV
  clear hV
  have HSC : Hid (numB n k = true → isNum n ∧ k = .nil) := fun e => numB_num hok1 e
  generalize hR : numB n k = R at *
  have ST1 := Lib.hid ST
  obtain ⟨x00, x01, x02, x03, x04, x05⟩ : Six0 W w.heap.size n An cn Ak k.len ck := ST.six 0 rfl
  clear ST hv hA hR hok1
  unfold ncells
  go_enter Tryd.func27, Tryd.ntmps27
  go_wp2_with fail
  have hkd := kids_new (Vo.kc (ST1.out.v 0 rfl) (show Kc W (· < W.heap.size) F.nil [] from rfl)) (fun b hb => hb) 25
  generalize hWa : W.alloc (.cells #[.int .i64 n.kind, .int .i64 n.int, .int .i64 n.scale, .string (str n.text), .slice An n.names.length cn, .slice Ak k.len ck] 25) = Wa
  have ba : Below W.heap.size W Wa := by rw [← hWa]; exact below_ra _ _
  have HK : Hid (Kids Wa (· < Wa.heap.size) (some ⟨W.heap.size, 0, none⟩) (.cons n k .nil)) := by show Kids _ _ _ _; rw [← hWa]; simpa [ncells] using hkd
  clear hkd hWa x00 x01 x02 x03 x04 x05
  refine ((unhide hare) _ _ HK.out).mono ?_
  rintro e w4 ⟨rfl, b4⟩
  have b4' := bseq ba b4
  have ST4 := Lib.hid (ST1.out.step b4')
  clear ST1 HK ba b4 b4' hW hare
  rcases R with _ | _
  · have BW : Hid (Below w.heap.size w w4) := ST4.out.1
    have HN : Hid (V = .tuple #[.string ⟨#[]⟩, .int .i64 11]) := by show _ = _; rw [← HVV.out]; rfl
    clear HVV HSC
    go_wp2_with fail
    refine bodyPost_ret (v := .tuple #[.string ⟨#[]⟩, .int .i64 11]) (by simp [results, Tryd.results27, go_sem]) rfl ⟨by rw [HN.out], BW.out⟩
  · obtain ⟨hn, rfl⟩ := HSC.out rfl
    have HV : Hid (V = .tuple #[.string (str (textN n)), .int .i64 0]) := by show _ = _; rw [← HVV.out]; rfl
    have hs := hn.scale_le
    obtain ⟨T, hT⟩ : ∃ T : Nat, n.scale = T := ⟨n.scale.toNat, by omega⟩
    have ht : T ≤ 18 := by omega
    obtain ⟨x00, x01, x02, x03, x04, x05⟩ : Six0 w4 w.heap.size n An cn Ak F.nil.len ck := ST4.out.six 0 rfl
    rw [hT] at x02
    have HI : Hid (∀ w' : World, Below w.heap.size w w' → Calls Tryd.prog 47 #[.int .i64 n.int] w' (Ret (.string (str (Lib.itoa n.int))) w')) := fun w' hb => itoa_any n.int hn.2.2.1 w' (tab_below htab hb)
    have HC : Hid (∀ w', Calls Tryd.prog 46 #[.string (str (Lib.itoa n.int)), .string (str [45])] w' (RetS (.tuple #[.string (str (Lib.decDigits n.int.natAbs)), .bool (decide (n.int < 0))]) w')) := fun w' => by
      have h := cutPrefix_any (Lib.itoa n.int) [45] w'
      rw [(itoa_cut n.int).1, (itoa_cut n.int).2] at h
      exact h
    have HB : Hid (textN n = if decide (n.int < 0) = true then 45 :: bodyN n.int.natAbs T else bodyN n.int.natAbs T) := by
      show _ = _
      unfold textN
      rw [hT]
      simp
    have HL : Hid (1 ≤ (Lib.decDigits n.int.natAbs).length ∧ (Lib.decDigits n.int.natAbs).length ≤ 21) := ⟨dec_pos _, by
      have h := Lib.itoa_length_le n.int hn.2.2.1.1 hn.2.2.1.2
      unfold Lib.itoa at h
      split at h
      · simp at h; omega
      · rename_i h0
        rw [show n.int.natAbs = n.int.toNat from by omega]
        exact h⟩
    have HBO := Lib.hid (bodyN_eq n.int.natAbs T)
    have BW4 : Hid (Below w.heap.size w w4) := ST4.out.1
    clear hn hs hT
    go_wp2_with (go_at_call 47; refine (HI.out _ BW4.out).mono ?_; rintro e w5 ⟨rfl, b5⟩)
    have b45 := BW4.out.trans (b5.mono BW4.out.size)
    have y1 : w5.cell? ⟨w.heap.size, 2, none⟩ = some (.int .i64 (T : Int)) := (b5.cell (p := ⟨w.heap.size, 2, none⟩) (ST4.out.lt 0 rfl)).trans x02
    have BW5 := Lib.hid b45
    clear b5 b45 x00 x01 x02 x03 x04 x05 HI BW4 ST4
    generalize Lib.decDigits n.int.natAbs = D at *
    generalize decide (n.int < 0) = neg at *
    refine (HC.out _).mono ?_
    rintro e w6 ⟨rfl, rfl⟩
    go_wp2_with fail
    go_loopw [4] (fun s4 wr => ∃ l : List UInt8, s4 = .string (str l) ∧ l.length ≤ 30 ∧ Hid (padTo (T + 1) l = padTo (T + 1) D) ∧ wr = w5) (fun s4 _ => match s4 with | .string s => T + 1 - s.size | _ => 0)
    case atStart => exact ⟨D, rfl, by have := HL.out.2; omega, rfl, rfl⟩
    case round =>
      obtain ⟨l, rfl, hl, HP, rfl⟩ := hrel
      have hsz : (str l).size = l.length := str_sz l
      by_cases hle : l.length ≤ T
      · have q1 : ((l.length : Nat) : Int) ≤ (T : Int) := by omega
        have g2 : ¬ (9223372036854775807 < 1 + (str l).size) := by omega
        by_cases g1 : str l = ByteArray.empty
        · have h0 : l = [] := by
            cases l with
            | nil => rfl
            | cons a l => exact absurd (congrArg ByteArray.size g1) (by rw [str_sz]; simp)
          subst h0
          go_wp2_with fail
          go_roundw
          case rel => exact ⟨[48], rfl, by simp, by show _ = _; rw [← HP.out, padTo_step (by simp)], by first | rfl | trivial⟩
          case measure => simp [ByteArray.size, str]; try omega
        · go_wp2_with fail
          go_roundw
          case rel => exact ⟨48 :: l, by rw [str_cons], by simp; omega, by show _ = _; rw [← HP.out, padTo_step (by omega)], by first | rfl | trivial⟩
          case measure =>
            show T + 1 - ((⟨#[48]⟩ : ByteArray) ++ str l).size < T + 1 - (str l).size
            rw [ByteArray.size_append, str_sz, show (⟨#[48]⟩ : ByteArray).size = 1 from rfl]
            omega
      · have q1 : ¬ (((l.length : Nat) : Int) ≤ (T : Int)) := by omega
        have HP2 : Hid (l = padTo (T + 1) D) := by show _ = _; rw [← HP.out, padTo_stop (by omega)]
        have g1 : ¬ str l = ByteArray.empty := fun e => by
          have h : l.length = 0 := by
            have h := congrArg ByteArray.size e
            rw [str_sz] at h
            exact h
          omega
        have g2 : ¬ (9223372036854775807 < 1 + (str l).size) := by omega
        clear HP
        rcases Nat.eq_zero_or_pos T with h0 | h0
        · have HF : Hid (bodyN n.int.natAbs T = l) := by show _ = _; rw [HBO.out, if_pos h0, HP2.out]
          have q2 : ¬ ((0 : Int) < (T : Int)) := by omega
          clear h0
          rcases neg with _ | _
          · have HG : Hid (V = .tuple #[.string (str l), .int .i64 0]) := by show _ = _; rw [HV.out, HB.out, HF.out]; rfl
            go_wp2_with fail
            exact bodyPost_ret (v := .tuple #[.string (str l), .int .i64 0]) (by simp [results, Tryd.results27, go_sem]) rfl ⟨by rw [HG.out], BW5.out⟩
          · have HG : Hid (V = .tuple #[.string (⟨#[45]⟩ ++ str l), .int .i64 0]) := by show _ = _; rw [HV.out, HB.out, HF.out, str_cons]; rfl
            go_wp2_with fail
            exact bodyPost_ret (v := .tuple #[.string (⟨#[45]⟩ ++ str l), .int .i64 0]) (by simp [results, Tryd.results27, go_sem]) rfl ⟨by rw [HG.out], BW5.out⟩
        · have HF : Hid (bodyN n.int.natAbs T = pointAt T l) := by show _ = _; rw [HBO.out, if_neg (by omega), HP2.out]
          have q2 : (0 : Int) < (T : Int) := by omega
          clear h0
          go_upto_region 7 with fail
          go_quiet (fail)
          rw [str_point]
          have g3 : ¬ str (pointAt T l) = ByteArray.empty := fun e => by
            have := congrArg ByteArray.size e
            rw [str_sz, pointAt_length] at this
            simp at this
          have g4 : ¬ (9223372036854775807 < 1 + (str (pointAt T l)).size) := by rw [str_sz, pointAt_length]; omega
          have BW6 : Hid (Below w.heap.size w (wr.drewN nq)) := below_drewN BW5.out _
          rw [HF.out] at HB
          generalize pointAt T l = P at *
          rcases neg with _ | _
          · have HG : Hid (V = .tuple #[.string (str P), .int .i64 0]) := by show _ = _; rw [HV.out, HB.out]; rfl
            go_wp2_with fail
            exact bodyPost_ret (v := .tuple #[.string (str P), .int .i64 0]) (by simp [results, Tryd.results27, go_sem]) rfl ⟨by rw [HG.out], BW6.out⟩
          · have HG : Hid (V = .tuple #[.string (⟨#[45]⟩ ++ str P), .int .i64 0]) := by show _ = _; rw [HV.out, HB.out, str_cons]; rfl
            go_wp2_with fail
            exact bodyPost_ret (v := .tuple #[.string (⟨#[45]⟩ ++ str P), .int .i64 0]) (by simp [results, Tryd.results27, go_sem]) rfl ⟨by rw [HG.out], BW6.out⟩
end Go.Proofs.YtfcbcbpnlnkpcaaDoor
