/- DecimalTexts: the walk of the law. (Printed by gen/dtexts.py.) -/
import Derived.Test.YtfcbcbpnlnkpcaaDoorQKnown6
import Derived.Test.YtfcbcbpnlnkpcaaDoorQAn
import Derived.Test.YtfcbcbpnlnkpcaaDoorQPlain6
import Derived.Test.YtfcbcbpnlnkpcaaDoorQRText
import Derived.Test.YtfcbcbpnlnkpcaaDoorQRParse
import Derived.Test.YtfcbcbpnlnkpcaaDoorQDecParse
import Derived.Test.YtfcbcbpnlnkpcaaDoorQPp
namespace Go.Proofs.YtfcbcbpnlnkpcaaDoor
set_option linter.all false
open Go.RowKit

set_option maxRecDepth 100000 in
set_option maxHeartbeats 6400000 in
theorem decimalTexts_0 (n : Nd) (k : F) (v : Value) (l : List UInt8) (w : World) (hv : Vo w (· < w.heap.size) n k v) (hl : l.length ≤ 140737488351232) (htab : Lib.TabIs Tryd.prog w "internal/strconv.uint64pow10" .u64 Lib.pow10Tab) (h1 : plB n k = false) :
    Calls Tryd.prog 9 #[v, .string (str l)] w (Ret (.bool true) w) := by
  obtain ⟨An, cAn, Ak, cAk, rfl, hok0, _, _, _, _⟩ := id hv
  obtain ⟨W0, hW0⟩ : ∃ W0, (w.alloc (.cells #[.int .i64 n.kind, .int .i64 n.int, .int .i64 n.scale, .string (str n.text), .slice An n.names.length cAn, .slice Ak k.len cAk] 25)) = W0 := ⟨_, rfl⟩
  have ST0 : Hid (St w [⟨w.heap.size, n, k, An, cAn, Ak, cAk⟩] W0) := by
    have := (St.box_new (St.nil w) hv)
    show St _ _ _
    rw [← hW0]
    simpa [ncells, Nat.add_assoc] using this
  unfold ncells
  have HP0 : Hid (∀ W, Vo W (· < W.heap.size) n k (.agg #[.int .i64 n.kind, .int .i64 n.int, .int .i64 n.scale, .string (str n.text), .slice An n.names.length cAn, .slice Ak k.len cAk]) → Calls Tryd.prog 20 #[.agg #[.int .i64 n.kind, .int .i64 n.int, .int .i64 n.scale, .string (str n.text), .slice An n.names.length cAn, .slice Ak k.len cAk]] W (Ret (.bool (plB n k)) W)) := fun W h => plain6_any n k _ W h
  have hsz : (str l).size = l.length := str_sz l
  rw [h1] at HP0
  clear hv htab h1
  go_enter Tryd.func9, Tryd.ntmps9
  go_upto_region 1 with fail
  clear hW0
  obtain ⟨x0_0, x0_1, x0_2, x0_3, x0_4, x0_5⟩ : _ := ST0.out.six 0 rfl
  go_wp2_with fail
  refine (HP0.out _ (ST0.out.v 0 rfl)).mono ?_
  rintro e' u1 ⟨rfl, c1⟩
  have ST1 : Hid (St w [⟨w.heap.size, n, k, An, cAn, Ak, cAk⟩] u1) := ST0.out.step c1
  clear c1
  clear x0_0 x0_1 x0_2 x0_3 x0_4 x0_5
  go_wp2_with fail
  go_ret
  first | exact ⟨rfl, ST1.out.1⟩ | exact ⟨ret_bo (by simp; omega), ST1.out.1⟩
set_option maxRecDepth 100000 in
set_option maxHeartbeats 6400000 in
theorem decimalTexts_1 (n : Nd) (k : F) (v : Value) (l : List UInt8) (w : World) (hv : Vo w (· < w.heap.size) n k v) (hl : l.length ≤ 140737488351232) (htab : Lib.TabIs Tryd.prog w "internal/strconv.uint64pow10" .u64 Lib.pow10Tab) (h1 : plB n k = true) (h2 : 500 < l.length) :
    Calls Tryd.prog 9 #[v, .string (str l)] w (Ret (.bool true) w) := by
  obtain ⟨An, cAn, Ak, cAk, rfl, hok0, _, _, _, _⟩ := id hv
  obtain ⟨W0, hW0⟩ : ∃ W0, (w.alloc (.cells #[.int .i64 n.kind, .int .i64 n.int, .int .i64 n.scale, .string (str n.text), .slice An n.names.length cAn, .slice Ak k.len cAk] 25)) = W0 := ⟨_, rfl⟩
  have ST0 : Hid (St w [⟨w.heap.size, n, k, An, cAn, Ak, cAk⟩] W0) := by
    have := (St.box_new (St.nil w) hv)
    show St _ _ _
    rw [← hW0]
    simpa [ncells, Nat.add_assoc] using this
  unfold ncells
  have HP0 : Hid (∀ W, Vo W (· < W.heap.size) n k (.agg #[.int .i64 n.kind, .int .i64 n.int, .int .i64 n.scale, .string (str n.text), .slice An n.names.length cAn, .slice Ak k.len cAk]) → Calls Tryd.prog 20 #[.agg #[.int .i64 n.kind, .int .i64 n.int, .int .i64 n.scale, .string (str n.text), .slice An n.names.length cAn, .slice Ak k.len cAk]] W (Ret (.bool (plB n k)) W)) := fun W h => plain6_any n k _ W h
  have hsz : (str l).size = l.length := str_sz l
  have q1 : (500 : Int) < ((l.length : Nat) : Int) := by omega
  rw [h1] at HP0
  clear hv htab h1 h2
  go_enter Tryd.func9, Tryd.ntmps9
  go_upto_region 1 with fail
  clear hW0
  obtain ⟨x0_0, x0_1, x0_2, x0_3, x0_4, x0_5⟩ : _ := ST0.out.six 0 rfl
  go_wp2_with fail
  refine (HP0.out _ (ST0.out.v 0 rfl)).mono ?_
  rintro e' u1 ⟨rfl, c1⟩
  have ST1 : Hid (St w [⟨w.heap.size, n, k, An, cAn, Ak, cAk⟩] u1) := ST0.out.step c1
  clear c1
  clear x0_0 x0_1 x0_2 x0_3 x0_4 x0_5
  go_wp2_with fail
  go_ret
  first | exact ⟨rfl, ST1.out.1⟩ | exact ⟨ret_bo (by simp; omega), ST1.out.1⟩
set_option maxRecDepth 100000 in
set_option maxHeartbeats 6400000 in
theorem decimalTexts_f (n : Nd) (k : F) (v : Value) (l : List UInt8) (w : World) (hv : Vo w (· < w.heap.size) n k v) (hl : l.length ≤ 140737488351232) (htab : Lib.TabIs Tryd.prog w "internal/strconv.uint64pow10" .u64 Lib.pow10Tab) (h1 : plB n k = true) (h2 : ¬ 500 < l.length) (h3 : numB n k = false) :
    Calls Tryd.prog 9 #[v, .string (str l)] w (Ret (.bool true) w) := by
  obtain ⟨An, cAn, Ak, cAk, rfl, hok0, _, _, _, _⟩ := id hv
  obtain ⟨W0, hW0⟩ : ∃ W0, (w.alloc (.cells #[.int .i64 n.kind, .int .i64 n.int, .int .i64 n.scale, .string (str n.text), .slice An n.names.length cAn, .slice Ak k.len cAk] 25)) = W0 := ⟨_, rfl⟩
  have ST0 : Hid (St w [⟨w.heap.size, n, k, An, cAn, Ak, cAk⟩] W0) := by
    have := (St.box_new (St.nil w) hv)
    show St _ _ _
    rw [← hW0]
    simpa [ncells, Nat.add_assoc] using this
  unfold ncells
  have HP0 : Hid (∀ W, Vo W (· < W.heap.size) n k (.agg #[.int .i64 n.kind, .int .i64 n.int, .int .i64 n.scale, .string (str n.text), .slice An n.names.length cAn, .slice Ak k.len cAk]) → Calls Tryd.prog 20 #[.agg #[.int .i64 n.kind, .int .i64 n.int, .int .i64 n.scale, .string (str n.text), .slice An n.names.length cAn, .slice Ak k.len cAk]] W (Ret (.bool (plB n k)) W)) := fun W h => plain6_any n k _ W h
  have hsz : (str l).size = l.length := str_sz l
  have e1 : textR n k = .tuple #[.string ⟨#[]⟩, .int .i64 11] := by unfold textR; rw [h3]; rfl
  have HTa : Hid (∀ W, Below w.heap.size w W → Vo W (· < W.heap.size) n k (.agg #[.int .i64 n.kind, .int .i64 n.int, .int .i64 n.scale, .string (str n.text), .slice An n.names.length cAn, .slice Ak k.len cAk]) → Calls Tryd.prog 27 #[.agg #[.int .i64 n.kind, .int .i64 n.int, .int .i64 n.scale, .string (str n.text), .slice An n.names.length cAn, .slice Ak k.len cAk]] W (Ret (.tuple #[.string ⟨#[]⟩, .int .i64 11]) W)) := fun W hb h => by
    have h' := Text_any n k _ W h (tab_below htab hb)
    rw [e1] at h'
    exact h'
  have HTb : Hid (∀ W, Vo W (· < W.heap.size) n k (.agg #[.int .i64 n.kind, .int .i64 n.int, .int .i64 n.scale, .string (str n.text), .slice An n.names.length cAn, .slice Ak k.len cAk]) → Calls Tryd.prog 28 #[.agg #[.int .i64 n.kind, .int .i64 n.int, .int .i64 n.scale, .string (str n.text), .slice An n.names.length cAn, .slice Ak k.len cAk]] W (Ret (.tuple #[.string ⟨#[]⟩, .int .i64 11]) W)) := fun W h => by
    have h' := rtext6_any n k _ W h
    rw [e1] at h'
    exact h'
  have HPa : Hid (∀ W, Calls Tryd.prog 29 #[.string (str l)] W (Ret (.tuple #[.agg #[.int .i64 (parseR l).1.kind, .int .i64 (parseR l).1.int, .int .i64 (parseR l).1.scale, .string (str (parseR l).1.text), .slice none 0 0, .slice none 0 0], .int .i64 (parseR l).2]) W)) := fun W => Parse_any l hl W
  have HPb : Hid (∀ W, Calls Tryd.prog 30 #[.string (str l)] W (Ret (.tuple #[.agg #[.int .i64 (parseR l).1.kind, .int .i64 (parseR l).1.int, .int .i64 (parseR l).1.scale, .string (str (parseR l).1.text), .slice none 0 0, .slice none 0 0], .int .i64 (parseR l).2]) W)) := fun W => rparse6_any l hl W
  have PR : Hid (plainN (parseR l).1) := parseR_plain _
  generalize (parseR l).1 = r at *
  generalize (parseR l).2 = e at *
  have HG : Hid (∀ w, Calls Tryd.prog 12 #[.agg #[.int .i64 r.kind, .int .i64 r.int, .int .i64 r.scale, .string (str r.text), .slice none 0 0, .slice none 0 0], .int .i64 e, .agg #[.int .i64 r.kind, .int .i64 r.int, .int .i64 r.scale, .string (str r.text), .slice none 0 0, .slice none 0 0], .int .i64 e] w (Ret (.bool true) w)) := fun w => got_same PR.out e w
  have HK : Hid (∀ w', Below w.heap.size w w' → Calls Tryd.prog 13 #[] w' (Ret (.bool true) w')) := fun w' hb => known6_any w' (tab_below htab hb)
  have q1 : ¬ (500 : Int) < ((l.length : Nat) : Int) := by omega
  rw [h1] at HP0
  clear hv htab h1 h2 h3 e1 hok0
  go_enter Tryd.func9, Tryd.ntmps9
  go_upto_region 1 with fail
  clear hW0
  obtain ⟨x0_0, x0_1, x0_2, x0_3, x0_4, x0_5⟩ : _ := ST0.out.six 0 rfl
  go_wp2_with fail
  refine (HP0.out _ (ST0.out.v 0 rfl)).mono ?_
  rintro e' u1 ⟨rfl, c1⟩
  have ST1 : Hid (St w [⟨w.heap.size, n, k, An, cAn, Ak, cAk⟩] u1) := ST0.out.step c1
  clear c1
  clear x0_0 x0_1 x0_2 x0_3 x0_4 x0_5
  obtain ⟨x0_0, x0_1, x0_2, x0_3, x0_4, x0_5⟩ : _ := ST1.out.six 0 rfl
  go_wp2_with fail
  refine (HTa.out _ ST1.out.1 (ST1.out.v 0 rfl)).mono ?_
  rintro e' u2 ⟨rfl, c2⟩
  have ST2 : Hid (St w [⟨w.heap.size, n, k, An, cAn, Ak, cAk⟩] u2) := ST1.out.step c2
  clear c2
  clear x0_0 x0_1 x0_2 x0_3 x0_4 x0_5
  obtain ⟨x0_0, x0_1, x0_2, x0_3, x0_4, x0_5⟩ : _ := ST2.out.six 0 rfl
  go_wp2_with fail
  refine (HTb.out _ (ST2.out.v 0 rfl)).mono ?_
  rintro e' u3 ⟨rfl, c3⟩
  have ST3 : Hid (St w [⟨w.heap.size, n, k, An, cAn, Ak, cAk⟩] u3) := ST2.out.step c3
  clear c3
  clear x0_0 x0_1 x0_2 x0_3 x0_4 x0_5
  go_upto_region 12 with (go_at_call 29; refine (HPa.out _).mono ?_; rintro e' u4 ⟨rfl, c4⟩)
  obtain ⟨W4, hW4⟩ : ∃ W4, u4.alloc (.cells #[.int .i64 r.kind, .int .i64 r.int, .int .i64 r.scale, .string (str r.text), .slice none 0 0, .slice none 0 0] 25) = W4 := ⟨_, rfl⟩
  rw [hW4]
  have ST4 : Hid (St w [⟨w.heap.size, n, k, An, cAn, Ak, cAk⟩, ⟨u4.heap.size, r, .nil, none, 0, none, 0⟩] W4) := by show St _ _ _; rw [← hW4]; exact (ST3.out.step c4).put2 PR.out
  clear hW4 c4
  go_upto_region 13 with (go_at_call 30; refine (HPb.out _).mono ?_; rintro e' u5 ⟨rfl, c5⟩)
  obtain ⟨W5, hW5⟩ : ∃ W5, u5.alloc (.cells #[.int .i64 r.kind, .int .i64 r.int, .int .i64 r.scale, .string (str r.text), .slice none 0 0, .slice none 0 0] 25) = W5 := ⟨_, rfl⟩
  rw [hW5]
  have ST5 : Hid (St w [⟨w.heap.size, n, k, An, cAn, Ak, cAk⟩, ⟨u4.heap.size, r, .nil, none, 0, none, 0⟩, ⟨u5.heap.size, r, .nil, none, 0, none, 0⟩] W5) := by show St _ _ _; rw [← hW5]; exact (ST4.out.step c5).put2 PR.out
  clear hW5 c5
  obtain ⟨x1_0, x1_1, x1_2, x1_3, x1_4, x1_5⟩ : _ := ST5.out.six2 1 rfl PR.out
  obtain ⟨x2_0, x2_1, x2_2, x2_3, x2_4, x2_5⟩ : _ := ST5.out.six2 2 rfl PR.out
  go_wp2_with fail
  refine (HG.out _).mono ?_
  rintro e' u6 ⟨rfl, c6⟩
  have ST6 : Hid (St w [⟨w.heap.size, n, k, An, cAn, Ak, cAk⟩, ⟨u4.heap.size, r, .nil, none, 0, none, 0⟩, ⟨u5.heap.size, r, .nil, none, 0, none, 0⟩] u6) := ST5.out.step c6
  clear c6
  clear x1_0 x1_1 x1_2 x1_3 x1_4 x1_5 x2_0 x2_1 x2_2 x2_3 x2_4 x2_5
  go_wp2_with fail
  refine (HK.out _ ST6.out.1).mono ?_
  rintro e' u7 ⟨rfl, c7⟩
  have ST7 : Hid (St w [⟨w.heap.size, n, k, An, cAn, Ak, cAk⟩, ⟨u4.heap.size, r, .nil, none, 0, none, 0⟩, ⟨u5.heap.size, r, .nil, none, 0, none, 0⟩] u7) := ST6.out.step c7
  clear c7
  go_wp2_with fail
  go_ret
  first | exact ⟨rfl, ST7.out.1⟩ | exact ⟨ret_bo (by simp; omega), ST7.out.1⟩
set_option maxRecDepth 100000 in
set_option maxHeartbeats 6400000 in
theorem decimalTexts_t (n : Nd) (k : F) (v : Value) (l : List UInt8) (w : World) (hv : Vo w (· < w.heap.size) n k v) (hl : l.length ≤ 140737488351232) (htab : Lib.TabIs Tryd.prog w "internal/strconv.uint64pow10" .u64 Lib.pow10Tab) (h1 : plB n k = true) (h2 : ¬ 500 < l.length) (h3 : numB n k = true) :
    Calls Tryd.prog 9 #[v, .string (str l)] w (Ret (.bool true) w) := by
  obtain ⟨An, cAn, Ak, cAk, rfl, hok0, _, _, _, _⟩ := id hv
  obtain ⟨W0, hW0⟩ : ∃ W0, (w.alloc (.cells #[.int .i64 n.kind, .int .i64 n.int, .int .i64 n.scale, .string (str n.text), .slice An n.names.length cAn, .slice Ak k.len cAk] 25)) = W0 := ⟨_, rfl⟩
  have ST0 : Hid (St w [⟨w.heap.size, n, k, An, cAn, Ak, cAk⟩] W0) := by
    have := (St.box_new (St.nil w) hv)
    show St _ _ _
    rw [← hW0]
    simpa [ncells, Nat.add_assoc] using this
  unfold ncells
  obtain ⟨hn0, rfl⟩ := numB_num hok0 h3
  have HP0 : Hid (∀ W, Vo W (· < W.heap.size) n .nil (.agg #[.int .i64 n.kind, .int .i64 n.int, .int .i64 n.scale, .string (str n.text), .slice An n.names.length cAn, .slice Ak F.nil.len cAk]) → Calls Tryd.prog 20 #[.agg #[.int .i64 n.kind, .int .i64 n.int, .int .i64 n.scale, .string (str n.text), .slice An n.names.length cAn, .slice Ak F.nil.len cAk]] W (Ret (.bool (plB n .nil)) W)) := fun W h => plain6_any n .nil _ W h
  have hsz : (str l).size = l.length := str_sz l
  have e1 : textR n .nil = .tuple #[.string (str (textN n)), .int .i64 0] := by unfold textR; rw [h3]; rfl
  have HTa : Hid (∀ W, Below w.heap.size w W → Vo W (· < W.heap.size) n .nil (.agg #[.int .i64 n.kind, .int .i64 n.int, .int .i64 n.scale, .string (str n.text), .slice An n.names.length cAn, .slice Ak F.nil.len cAk]) → Calls Tryd.prog 27 #[.agg #[.int .i64 n.kind, .int .i64 n.int, .int .i64 n.scale, .string (str n.text), .slice An n.names.length cAn, .slice Ak F.nil.len cAk]] W (Ret (.tuple #[.string (str (textN n)), .int .i64 0]) W)) := fun W hb h => by
    have h' := Text_any n .nil _ W h (tab_below htab hb)
    rw [e1] at h'
    exact h'
  have HTb : Hid (∀ W, Vo W (· < W.heap.size) n .nil (.agg #[.int .i64 n.kind, .int .i64 n.int, .int .i64 n.scale, .string (str n.text), .slice An n.names.length cAn, .slice Ak F.nil.len cAk]) → Calls Tryd.prog 28 #[.agg #[.int .i64 n.kind, .int .i64 n.int, .int .i64 n.scale, .string (str n.text), .slice An n.names.length cAn, .slice Ak F.nil.len cAk]] W (Ret (.tuple #[.string (str (textN n)), .int .i64 0]) W)) := fun W h => by
    have h' := rtext6_any n .nil _ W h
    rw [e1] at h'
    exact h'
  have HPa : Hid (∀ W, Calls Tryd.prog 29 #[.string (str l)] W (Ret (.tuple #[.agg #[.int .i64 (parseR l).1.kind, .int .i64 (parseR l).1.int, .int .i64 (parseR l).1.scale, .string (str (parseR l).1.text), .slice none 0 0, .slice none 0 0], .int .i64 (parseR l).2]) W)) := fun W => Parse_any l hl W
  have HPb : Hid (∀ W, Calls Tryd.prog 30 #[.string (str l)] W (Ret (.tuple #[.agg #[.int .i64 (parseR l).1.kind, .int .i64 (parseR l).1.int, .int .i64 (parseR l).1.scale, .string (str (parseR l).1.text), .slice none 0 0, .slice none 0 0], .int .i64 (parseR l).2]) W)) := fun W => rparse6_any l hl W
  have PR : Hid (plainN (parseR l).1) := parseR_plain _
  have PN : Hid (plainN n) := num_plain hn0
  have HTp : Hid (∀ W, Calls Tryd.prog 29 #[.string (str (textN n))] W (Ret (.tuple #[.agg #[.int .i64 n.kind, .int .i64 n.int, .int .i64 n.scale, .string (str n.text), .slice none 0 0, .slice none 0 0], .int .i64 0]) W)) := fun W => by
    have h' := Parse_any (textN n) (textN_len hn0) W
    rw [parse_text hn0] at h'
    exact h'
  have HEN : Hid (∀ W, Vo W (· < W.heap.size) n .nil (.agg #[.int .i64 n.kind, .int .i64 n.int, .int .i64 n.scale, .string (str n.text), .slice An n.names.length cAn, .slice Ak F.nil.len cAk]) → Calls Tryd.prog 17 #[.agg #[.int .i64 n.kind, .int .i64 n.int, .int .i64 n.scale, .string (str n.text), .slice An n.names.length cAn, .slice Ak F.nil.len cAk], .agg #[.int .i64 n.kind, .int .i64 n.int, .int .i64 n.scale, .string (str n.text), .slice none 0 0, .slice none 0 0]] W (Ret (.bool true) W)) := fun W h => by
    have h' := eq_any n .nil n .nil _ _ W h (plain_vo PN.out W _)
    rw [eqV_iff.2 ⟨rfl, rfl⟩] at h'
    exact h'
  generalize (parseR l).1 = r at *
  generalize (parseR l).2 = e at *
  have HG : Hid (∀ w, Calls Tryd.prog 12 #[.agg #[.int .i64 r.kind, .int .i64 r.int, .int .i64 r.scale, .string (str r.text), .slice none 0 0, .slice none 0 0], .int .i64 e, .agg #[.int .i64 r.kind, .int .i64 r.int, .int .i64 r.scale, .string (str r.text), .slice none 0 0, .slice none 0 0], .int .i64 e] w (Ret (.bool true) w)) := fun w => got_same PR.out e w
  have HK : Hid (∀ w', Below w.heap.size w w' → Calls Tryd.prog 13 #[] w' (Ret (.bool true) w')) := fun w' hb => known6_any w' (tab_below htab hb)
  have q1 : ¬ (500 : Int) < ((l.length : Nat) : Int) := by omega
  rw [h1] at HP0
  clear hv htab h1 h2 h3 e1 hok0 hn0
  generalize textN n = tx at *
  go_enter Tryd.func9, Tryd.ntmps9
  go_upto_region 1 with fail
  clear hW0
  obtain ⟨x0_0, x0_1, x0_2, x0_3, x0_4, x0_5⟩ : _ := ST0.out.six 0 rfl
  go_wp2_with fail
  refine (HP0.out _ (ST0.out.v 0 rfl)).mono ?_
  rintro e' u1 ⟨rfl, c1⟩
  have ST1 : Hid (St w [⟨w.heap.size, n, .nil, An, cAn, Ak, cAk⟩] u1) := ST0.out.step c1
  clear c1
  clear x0_0 x0_1 x0_2 x0_3 x0_4 x0_5
  obtain ⟨x0_0, x0_1, x0_2, x0_3, x0_4, x0_5⟩ : _ := ST1.out.six 0 rfl
  go_wp2_with fail
  refine (HTa.out _ ST1.out.1 (ST1.out.v 0 rfl)).mono ?_
  rintro e' u2 ⟨rfl, c2⟩
  have ST2 : Hid (St w [⟨w.heap.size, n, .nil, An, cAn, Ak, cAk⟩] u2) := ST1.out.step c2
  clear c2
  clear x0_0 x0_1 x0_2 x0_3 x0_4 x0_5
  obtain ⟨x0_0, x0_1, x0_2, x0_3, x0_4, x0_5⟩ : _ := ST2.out.six 0 rfl
  go_wp2_with fail
  refine (HTb.out _ (ST2.out.v 0 rfl)).mono ?_
  rintro e' u3 ⟨rfl, c3⟩
  have ST3 : Hid (St w [⟨w.heap.size, n, .nil, An, cAn, Ak, cAk⟩] u3) := ST2.out.step c3
  clear c3
  clear x0_0 x0_1 x0_2 x0_3 x0_4 x0_5
  go_upto_region 9 with (go_at_call 29; refine (HTp.out _).mono ?_; rintro e' u4 ⟨rfl, c4⟩)
  obtain ⟨W4, hW4⟩ : ∃ W4, u4.alloc (.cells #[.int .i64 n.kind, .int .i64 n.int, .int .i64 n.scale, .string (str n.text), .slice none 0 0, .slice none 0 0] 25) = W4 := ⟨_, rfl⟩
  rw [hW4]
  have ST4 : Hid (St w [⟨w.heap.size, n, .nil, An, cAn, Ak, cAk⟩, ⟨u4.heap.size, n, .nil, none, 0, none, 0⟩] W4) := by show St _ _ _; rw [← hW4]; exact (ST3.out.step c4).put2 PN.out
  clear hW4 c4
  obtain ⟨x0_0, x0_1, x0_2, x0_3, x0_4, x0_5⟩ : _ := ST4.out.six 0 rfl
  obtain ⟨x1_0, x1_1, x1_2, x1_3, x1_4, x1_5⟩ : _ := ST4.out.six2 1 rfl PN.out
  go_wp2_with fail
  refine (HEN.out _ (ST4.out.v 0 rfl)).mono ?_
  rintro e' u5 ⟨rfl, c5⟩
  have ST5 : Hid (St w [⟨w.heap.size, n, .nil, An, cAn, Ak, cAk⟩, ⟨u4.heap.size, n, .nil, none, 0, none, 0⟩] u5) := ST4.out.step c5
  clear c5
  clear x0_0 x0_1 x0_2 x0_3 x0_4 x0_5 x1_0 x1_1 x1_2 x1_3 x1_4 x1_5
  go_upto_region 12 with (go_at_call 29; refine (HPa.out _).mono ?_; rintro e' u6 ⟨rfl, c6⟩)
  obtain ⟨W6, hW6⟩ : ∃ W6, u6.alloc (.cells #[.int .i64 r.kind, .int .i64 r.int, .int .i64 r.scale, .string (str r.text), .slice none 0 0, .slice none 0 0] 25) = W6 := ⟨_, rfl⟩
  rw [hW6]
  have ST6 : Hid (St w [⟨w.heap.size, n, .nil, An, cAn, Ak, cAk⟩, ⟨u4.heap.size, n, .nil, none, 0, none, 0⟩, ⟨u6.heap.size, r, .nil, none, 0, none, 0⟩] W6) := by show St _ _ _; rw [← hW6]; exact (ST5.out.step c6).put2 PR.out
  clear hW6 c6
  go_upto_region 13 with (go_at_call 30; refine (HPb.out _).mono ?_; rintro e' u7 ⟨rfl, c7⟩)
  obtain ⟨W7, hW7⟩ : ∃ W7, u7.alloc (.cells #[.int .i64 r.kind, .int .i64 r.int, .int .i64 r.scale, .string (str r.text), .slice none 0 0, .slice none 0 0] 25) = W7 := ⟨_, rfl⟩
  rw [hW7]
  have ST7 : Hid (St w [⟨w.heap.size, n, .nil, An, cAn, Ak, cAk⟩, ⟨u4.heap.size, n, .nil, none, 0, none, 0⟩, ⟨u6.heap.size, r, .nil, none, 0, none, 0⟩, ⟨u7.heap.size, r, .nil, none, 0, none, 0⟩] W7) := by show St _ _ _; rw [← hW7]; exact (ST6.out.step c7).put2 PR.out
  clear hW7 c7
  obtain ⟨x2_0, x2_1, x2_2, x2_3, x2_4, x2_5⟩ : _ := ST7.out.six2 2 rfl PR.out
  obtain ⟨x3_0, x3_1, x3_2, x3_3, x3_4, x3_5⟩ : _ := ST7.out.six2 3 rfl PR.out
  go_wp2_with fail
  refine (HG.out _).mono ?_
  rintro e' u8 ⟨rfl, c8⟩
  have ST8 : Hid (St w [⟨w.heap.size, n, .nil, An, cAn, Ak, cAk⟩, ⟨u4.heap.size, n, .nil, none, 0, none, 0⟩, ⟨u6.heap.size, r, .nil, none, 0, none, 0⟩, ⟨u7.heap.size, r, .nil, none, 0, none, 0⟩] u8) := ST7.out.step c8
  clear c8
  clear x2_0 x2_1 x2_2 x2_3 x2_4 x2_5 x3_0 x3_1 x3_2 x3_3 x3_4 x3_5
  go_wp2_with fail
  refine (HK.out _ ST8.out.1).mono ?_
  rintro e' u9 ⟨rfl, c9⟩
  have ST9 : Hid (St w [⟨w.heap.size, n, .nil, An, cAn, Ak, cAk⟩, ⟨u4.heap.size, n, .nil, none, 0, none, 0⟩, ⟨u6.heap.size, r, .nil, none, 0, none, 0⟩, ⟨u7.heap.size, r, .nil, none, 0, none, 0⟩] u9) := ST8.out.step c9
  clear c9
  go_wp2_with fail
  go_ret
  first | exact ⟨rfl, ST9.out.1⟩ | exact ⟨ret_bo (by simp; omega), ST9.out.1⟩
theorem decimalTexts_any (n : Nd) (k : F) (v : Value) (l : List UInt8) (w : World) (hv : Vo w (· < w.heap.size) n k v) (hl : l.length ≤ 140737488351232) (htab : Lib.TabIs Tryd.prog w "internal/strconv.uint64pow10" .u64 Lib.pow10Tab) :
    Calls Tryd.prog 9 #[v, .string (str l)] w (Ret (.bool true) w) := by
  cases h1 : plB n k with
  | false => exact decimalTexts_0 n k v l w hv hl htab h1
  | true =>
    by_cases h2 : 500 < l.length
    · exact decimalTexts_1 n k v l w hv hl htab h1 h2
    · cases h3 : numB n k with
      | false => exact decimalTexts_f n k v l w hv hl htab h1 h2 h3
      | true => exact decimalTexts_t n k v l w hv hl htab h1 h2 h3
end Go.Proofs.YtfcbcbpnlnkpcaaDoor
