/- DecimalMakes: the walk of the law. (Printed by gen/dmakes.py.) -/
import Derived.Test.YtfcbcbpnlnkpcaaDoorQKnown6
import Derived.Test.YtfcbcbpnlnkpcaaDoorQRMake
import Derived.Test.YtfcbcbpnlnkpcaaDoorQAn
namespace Go.Proofs.YtfcbcbpnlnkpcaaDoor
set_option linter.all false
open Go.RowKit
set_option maxRecDepth 100000 in
set_option maxHeartbeats 1600000 in
theorem decimalMakes_any (n s : Int) (hn : I64 n) (hs : I64 s) (w : World) (htab : Lib.TabIs Tryd.prog w "internal/strconv.uint64pow10" .u64 Lib.pow10Tab) :
    Calls Tryd.prog 3 #[.int .i64 n, .int .i64 s] w (Ret (.bool true) w) := by
  have HA : Hid (∀ w, Calls Tryd.prog 10 #[.int .i64 n, .int .i64 s] w (Ret (.tuple #[.agg #[.int .i64 (makeR n s).1.kind, .int .i64 (makeR n s).1.int, .int .i64 (makeR n s).1.scale, .string (str (makeR n s).1.text), .slice none 0 0, .slice none 0 0], .int .i64 (makeR n s).2]) w)) := fun w => make_any n s hn hs w
  have HB : Hid (∀ w, Calls Tryd.prog 11 #[.int .i64 n, .int .i64 s] w (Ret (.tuple #[.agg #[.int .i64 (makeR n s).1.kind, .int .i64 (makeR n s).1.int, .int .i64 (makeR n s).1.scale, .string (str (makeR n s).1.text), .slice none 0 0, .slice none 0 0], .int .i64 (makeR n s).2]) w)) := fun w => rmake_any n s hn hs w
  have Pr : Hid (plainN (makeR n s).1) := makeR_plain n s
  generalize (makeR n s).1 = r at *
  generalize (makeR n s).2 = e at *
  have HG : Hid (∀ w, Calls Tryd.prog 12 #[.agg #[.int .i64 r.kind, .int .i64 r.int, .int .i64 r.scale, .string (str r.text), .slice none 0 0, .slice none 0 0], .int .i64 e, .agg #[.int .i64 r.kind, .int .i64 r.int, .int .i64 r.scale, .string (str r.text), .slice none 0 0, .slice none 0 0], .int .i64 e] w (Ret (.bool true) w)) := fun w => got_same Pr.out e w
  have HK : Hid (∀ w', Below w.heap.size w w' → Calls Tryd.prog 13 #[] w' (Ret (.bool true) w')) := fun w' hb => known6_any w' (tab_below htab hb)
  have ST0 : Hid (St w [] w) := St.nil w
  clear htab hn hs
  go_enter Tryd.func3, Tryd.ntmps3
  go_upto_region 2 with (go_at_call 10; refine (HA.out _).mono ?_; rintro e' u1 ⟨rfl, c1⟩)
  obtain ⟨W1, hW1⟩ : ∃ W1, u1.alloc (.cells #[.int .i64 r.kind, .int .i64 r.int, .int .i64 r.scale, .string (str r.text), .slice none 0 0, .slice none 0 0] 25) = W1 := ⟨_, rfl⟩
  rw [hW1]
  have ST1 : Hid (St w [⟨u1.heap.size, r, .nil, none, 0, none, 0⟩] W1) := by show St _ _ _; rw [← hW1]; exact (ST0.out.step c1).put2 Pr.out
  clear hW1 c1
  go_upto_region 3 with (go_at_call 11; refine (HB.out _).mono ?_; rintro e' u2 ⟨rfl, c2⟩)
  obtain ⟨W2, hW2⟩ : ∃ W2, u2.alloc (.cells #[.int .i64 r.kind, .int .i64 r.int, .int .i64 r.scale, .string (str r.text), .slice none 0 0, .slice none 0 0] 25) = W2 := ⟨_, rfl⟩
  rw [hW2]
  have ST2 : Hid (St w [⟨u1.heap.size, r, .nil, none, 0, none, 0⟩, ⟨u2.heap.size, r, .nil, none, 0, none, 0⟩] W2) := by show St _ _ _; rw [← hW2]; exact (ST1.out.step c2).put2 Pr.out
  clear hW2 c2
  obtain ⟨x00, x01, x02, x03, x04, x05⟩ := ST2.out.six2 0 rfl Pr.out
  obtain ⟨x10, x11, x12, x13, x14, x15⟩ := ST2.out.six2 1 rfl Pr.out
  go_wp2_with fail
  refine (HG.out _).mono ?_
  rintro e' u8 ⟨rfl, c8⟩
  have B8 : Hid (Below w.heap.size w u8) := ST2.out.1.trans (c8.mono ST2.out.2.1)
  clear c8
  go_wp2_with fail
  refine (HK.out _ B8.out).mono ?_
  rintro e' u9 ⟨rfl, c9⟩
  have B9 : Hid (Below w.heap.size w u9) := B8.out.trans (c9.mono B8.out.size)
  clear c9
  go_wp2_with fail
  go_ret
  exact ⟨rfl, B9.out⟩
end Go.Proofs.YtfcbcbpnlnkpcaaDoor
