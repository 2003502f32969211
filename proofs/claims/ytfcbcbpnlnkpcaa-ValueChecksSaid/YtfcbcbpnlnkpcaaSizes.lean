/- value.Size, scrivenerref5.Size: how many parts, how deep; of what is no value: nought. -/
import Derived.Test.YtfcbcbpnlnkpcaaRsize
import Derived.Test.YtfcbcbpnlnkpcaaRcheck
namespace Go.Proofs.Ytfcbcbpnlnkpcaa
set_option linter.all false
open Go.RowKit
def sizeN (n : Nd) (k : F) : Nat := if chk n k 1 = 0 then szF k + 1 else 0
def sizeD (n : Nd) (k : F) : Nat := if chk n k 1 = 0 then dpF k + 1 else 0
set_option maxRecDepth 100000 in
set_option maxHeartbeats 1600000 in
theorem Size_any (n : Nd) (k : F) (v : Value) (w : World) (hz : szF k ≤ 1000000) (hv : Vo w (· < w.heap.size) n k v) :
    Calls Try.prog 9 #[v] w (Ret2 (sizeN n k) (sizeD n k) w) := by
  have hc : Hid (∀ (v : Value) (w : World), Vo w (· < w.heap.size) n k v → Calls Try.prog 11 #[v] w (Ret (.int .i64 (chk n k 1 : Int)) w)) := fun v w h => Check_any n k v w h
  have hs : Hid (∀ (v : Value) (w : World), Vo w (· < w.heap.size) n k v → Calls Try.prog 25 #[v] w (Ret2 (szF k + 1) (dpF k + 1) w)) := fun v w h => sz_any n k v w hz h
  have hsn : Hid (sizeN n k = if chk n k 1 = 0 then szF k + 1 else 0) := rfl
  have hsd : Hid (sizeD n k = if chk n k 1 = 0 then dpF k + 1 else 0) := rfl
  have hv0 := hv
  obtain ⟨An, cn, Ak, ck, rfl, _, _, _, _, _⟩ := hv
  have hb := boxw_eq w n An cn Ak k.len ck
  have hb0 := boxw_below w n An cn Ak k.len ck
  have hz0 := boxw_size w n An cn Ak k.len ck
  have hs6 := boxw_six w n An cn Ak k.len ck
  have HS6 := Lib.hid hs6
  obtain ⟨x0, x1, x2, x3, x4, x5⟩ := hs6
  have HV := Lib.hid (hv0.upto hb0)
  clear hv0
  generalize chk n k 1 = C at *
  generalize szF k + 1 = SZ at *
  generalize dpF k + 1 = DP at *
  unfold ncells at *
  have HZ0 := Lib.hid hz0
  clear hz0
  go_enter Try.func9, Try.ntmps9
  go_wp2_with fail
  refine ((unhide hc) _ _ HV.out).mono ?_
  rintro e w1 ⟨rfl, b1⟩
  have hs1 : Six0 w1 w.heap.size n An cn Ak k.len ck := (unhide HS6).below b1 (by rw [HZ0.out]; omega)
  have hb1 := bseq hb0 b1
  have HV1 := Lib.hid (HV.out.upto b1)
  obtain ⟨y0, y1, y2, y3, y4, y5⟩ := hs1
  by_cases hC : C = 0
  · have h1 : Hid (sizeN n k = SZ) := by show _ = _; rw [hsn.out, if_pos hC]
    have h2 : Hid (sizeD n k = DP) := by show _ = _; rw [hsd.out, if_pos hC]
    have q0 : ((C : Int) != 0) = false := by simp [hC]
    clear hC hsn hsd
    go_wp2_with fail
    refine ((unhide hs) _ _ HV1.out).mono ?_
    rintro e w2 ⟨rfl, b2⟩
    go_wp2_with fail
    go_ret2
    exact ⟨tup2 (by rw [h1.out]) (by rw [h2.out]), bseq hb1 b2⟩
  · have h1 : Hid (sizeN n k = 0) := by show _ = _; rw [hsn.out, if_neg hC]
    have h2 : Hid (sizeD n k = 0) := by show _ = _; rw [hsd.out, if_neg hC]
    have q0 : ((C : Int) != 0) = true := by simp [hC]
    clear hC hsn hsd
    go_wp2_with fail
    go_ret2
    exact ⟨tup2 (by rw [h1.out]; rfl) (by rw [h2.out]; rfl), hb1⟩
set_option maxRecDepth 100000 in
set_option maxHeartbeats 1600000 in
theorem RSize_any (n : Nd) (k : F) (v : Value) (w : World) (hz : szF k ≤ 1000000) (hv : Vo w (· < w.heap.size) n k v) :
    Calls Try.prog 10 #[v] w (Ret2 (sizeN n k) (sizeD n k) w) := by
  have hc : Hid (∀ (v : Value) (w : World), Vo w (· < w.heap.size) n k v → Calls Try.prog 12 #[v] w (Ret (.int .i64 (chk n k 1 : Int)) w)) := fun v w h => RCheck_any n k v w h
  have hs : Hid (∀ (v : Value) (w : World), Vo w (· < w.heap.size) n k v → Calls Try.prog 26 #[v] w (Ret2 (szF k + 1) (dpF k + 1) w)) := fun v w h => rsz_any n k v w hz h
  have hsn : Hid (sizeN n k = if chk n k 1 = 0 then szF k + 1 else 0) := rfl
  have hsd : Hid (sizeD n k = if chk n k 1 = 0 then dpF k + 1 else 0) := rfl
  have hv0 := hv
  obtain ⟨An, cn, Ak, ck, rfl, _, _, _, _, _⟩ := hv
  have hb := boxw_eq w n An cn Ak k.len ck
  have hb0 := boxw_below w n An cn Ak k.len ck
  have hz0 := boxw_size w n An cn Ak k.len ck
  have hs6 := boxw_six w n An cn Ak k.len ck
  have HS6 := Lib.hid hs6
  obtain ⟨x0, x1, x2, x3, x4, x5⟩ := hs6
  have HV := Lib.hid (hv0.upto hb0)
  clear hv0
  generalize chk n k 1 = C at *
  generalize szF k + 1 = SZ at *
  generalize dpF k + 1 = DP at *
  unfold ncells at *
  have HZ0 := Lib.hid hz0
  clear hz0
  go_enter Try.func10, Try.ntmps10
  go_wp2_with fail
  refine ((unhide hc) _ _ HV.out).mono ?_
  rintro e w1 ⟨rfl, b1⟩
  have hs1 : Six0 w1 w.heap.size n An cn Ak k.len ck := (unhide HS6).below b1 (by rw [HZ0.out]; omega)
  have hb1 := bseq hb0 b1
  have HV1 := Lib.hid (HV.out.upto b1)
  obtain ⟨y0, y1, y2, y3, y4, y5⟩ := hs1
  by_cases hC : C = 0
  · have h1 : Hid (sizeN n k = SZ) := by show _ = _; rw [hsn.out, if_pos hC]
    have h2 : Hid (sizeD n k = DP) := by show _ = _; rw [hsd.out, if_pos hC]
    have q0 : ((C : Int) != 0) = false := by simp [hC]
    clear hC hsn hsd
    go_wp2_with fail
    refine ((unhide hs) _ _ HV1.out).mono ?_
    rintro e w2 ⟨rfl, b2⟩
    go_wp2_with fail
    go_ret2
    exact ⟨tup2 (by rw [h1.out]) (by rw [h2.out]), bseq hb1 b2⟩
  · have h1 : Hid (sizeN n k = 0) := by show _ = _; rw [hsn.out, if_neg hC]
    have h2 : Hid (sizeD n k = 0) := by show _ = _; rw [hsd.out, if_neg hC]
    have q0 : ((C : Int) != 0) = true := by simp [hC]
    clear hC hsn hsd
    go_wp2_with fail
    go_ret2
    exact ⟨tup2 (by rw [h1.out]; rfl) (by rw [h2.out]; rfl), hb1⟩
end Go.Proofs.Ytfcbcbpnlnkpcaa
