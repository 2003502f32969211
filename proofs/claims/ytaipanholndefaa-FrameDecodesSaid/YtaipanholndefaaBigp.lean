/- The plain law of eight bytes and four bytes. No program in sight. -/
import Derived.Test.YtaipanholndefaaUvp
import Derived.Laws.Strings
namespace Go.Proofs.Ytaipanholndefaa
set_option linter.all false
def rs : List UInt8 → Nat × Nat
  | a :: b :: c :: d :: _ => (a.toNat * 16777216 + b.toNat * 65536 + c.toNat * 256 + d.toNat, 0)
  | _ => (0, 2)
def rb (l : List UInt8) : Nat × Nat := if l.length < 8 then (0, 2) else ((rs l).1 * 4294967296 + (rs (l.drop 4)).1, 0)
def short (v : Nat) : List UInt8 := [b8 (v / 16777216), b8 (v / 65536), b8 (v / 256), b8 v]
def big (v : Nat) : List UInt8 := short (v / 4294967296) ++ short (v % 4294967296)
theorem rs_short {l : List UInt8} (h : l.length < 4) : rs l = (0, 2) := by
  match l, h with
  | [], _ => rfl
  | [_], _ => rfl
  | [_, _], _ => rfl
  | [_, _, _], _ => rfl
theorem four_of {l : List UInt8} (h : 4 ≤ l.length) : ∃ a b c d t, l = a :: b :: c :: d :: t := by
  match l, h with
  | a :: b :: c :: d :: t, _ => exact ⟨a, b, c, d, t, rfl⟩
theorem rs_four (a b c d : UInt8) (t : List UInt8) : rs (a :: b :: c :: d :: t) = (a.toNat * 16777216 + b.toNat * 65536 + c.toNat * 256 + d.toNat, 0) := rfl
theorem rs_ok {l : List UInt8} (h : 4 ≤ l.length) : (rs l).2 = 0 := by
  obtain ⟨a, b, c, d, t, rfl⟩ := four_of h; rfl
theorem rs_lt (l : List UInt8) : (rs l).1 < 4294967296 := by
  by_cases h : 4 ≤ l.length
  · obtain ⟨a, b, c, d, t, rfl⟩ := four_of h
    have := a.toNat_lt; have := b.toNat_lt; have := c.toNat_lt; have := d.toNat_lt
    show _ + _ < _
    omega
  · rw [rs_short (by omega)]; decide
theorem rb_short {l : List UInt8} (h : l.length < 8) : rb l = (0, 2) := by unfold rb; rw [if_pos h]
theorem rb_long {l : List UInt8} (h : 8 ≤ l.length) : rb l = ((rs l).1 * 4294967296 + (rs (l.drop 4)).1, 0) := by unfold rb; rw [if_neg (by omega)]
theorem rs_short_back (v : Nat) (hv : v < 4294967296) (t : List UInt8) : rs (short v ++ t) = (v, 0) := by
  unfold short
  show ((b8 _).toNat * _ + (b8 _).toNat * _ + (b8 _).toNat * _ + (b8 _).toNat, 0) = _
  have e : ∀ k, (b8 k).toNat = k % 256 := fun k => by unfold b8; rw [UInt8.toNat_ofNat']
  simp only [e]
  congr 1
  omega
theorem short_len (v : Nat) : (short v).length = 4 := rfl
theorem big_len (v : Nat) : (big v).length = 8 := rfl
theorem rb_big (v : Nat) (hv : v < 18446744073709551616) (t : List UInt8) : rb (big v ++ t) = (v, 0) := by
  rw [rb_long (by simp [big_len])]
  unfold big
  rw [List.append_assoc, rs_short_back _ (by omega), List.drop_append_of_le_length (by simp [short_len]), List.drop_of_length_le (by simp [short_len]), List.nil_append, rs_short_back _ (by omega)]
  congr 1
  show _ * _ + _ = _
  omega
theorem or_join (i : Nat) (x y : Nat) (hx : x % 2 ^ i = 0) (hy : y < 2 ^ i) (h : x + y < 4294967296) : bits .or .u32 (x : Int) (y : Int) = ((x + y : Nat) : Int) := by
  rw [u32_or_nat _ _ (by omega) (by omega), nat_join i x y hx hy]
theorem or_four (a b c d : UInt8) : bits .or .u32 (bits .or .u32 (bits .or .u32 ((a.toNat : Int) * 16777216) ((b.toNat : Int) * 65536)) ((c.toNat : Int) * 256)) (d.toNat : Int) = ((a.toNat * 16777216 + b.toNat * 65536 + c.toNat * 256 + d.toNat : Nat) : Int) := by
  have ha := a.toNat_lt
  have hb := b.toNat_lt
  have hc := c.toNat_lt
  have hd := d.toNat_lt
  have e1 : (a.toNat : Int) * 16777216 = ((a.toNat * 16777216 : Nat) : Int) := by omega
  have e2 : (b.toNat : Int) * 65536 = ((b.toNat * 65536 : Nat) : Int) := by omega
  have e3 : (c.toNat : Int) * 256 = ((c.toNat * 256 : Nat) : Int) := by omega
  rw [e1, e2, e3, or_join 24 _ _ (by omega) (by omega) (by omega), or_join 16 _ _ (by omega) (by omega) (by omega), or_join 8 _ _ (by omega) (by omega) (by omega)]
theorem or64_join (x y : Nat) (hx : x < 4294967296) (hy : y < 4294967296) : bits .or .u64 ((x : Int) * 4294967296) (y : Int) = ((x * 4294967296 + y : Nat) : Int) := by
  rw [show (x : Int) * 4294967296 = ((x * 4294967296 : Nat) : Int) from by omega, u64_or_nat _ _ (by omega) (by omega), nat_join 32 _ _ (by omega) (by omega)]
/-- Bytes, the highest first, as a number. -/
def bval : List UInt8 → Nat
  | [] => 0
  | a :: l => a.toNat * 256 ^ l.length + bval l
theorem bval_lt : ∀ l : List UInt8, bval l < 256 ^ l.length
  | [] => by simp [bval]
  | a :: l => by
    have h1 := bval_lt l
    have h2 := a.toNat_lt
    have h3 := Nat.mul_le_mul_right (256 ^ l.length) (show a.toNat + 1 ≤ 256 by omega)
    rw [Nat.add_mul, Nat.one_mul] at h3
    simp only [bval, List.length_cons, Nat.pow_succ]
    omega
theorem less_bval : ∀ x y : List UInt8, x.length = y.length → Op.bytesLess x y = decide (bval x < bval y)
  | [], [], _ => rfl
  | a :: x, b :: y, h => by
    have hl : x.length = y.length := by simpa using h
    have ih := less_bval x y hl
    have hx := bval_lt x
    have hy := bval_lt y
    simp only [Op.bytesLess, bval, ih, hl]
    rw [hl] at hx
    by_cases hab : a.toNat < b.toNat
    · have h3 := Nat.mul_le_mul_right (256 ^ y.length) (show a.toNat + 1 ≤ b.toNat by omega)
      rw [Nat.add_mul, Nat.one_mul] at h3
      have : a < b := UInt8.lt_iff_toNat_lt.2 hab
      simp [this]; omega
    · by_cases he : a = b
      · subst he
        have : ¬ a < a := by simp [UInt8.lt_iff_toNat_lt]
        simp
      · have hne : a.toNat ≠ b.toNat := fun e => he (UInt8.toNat_inj.1 e)
        have h3 := Nat.mul_le_mul_right (256 ^ y.length) (show b.toNat + 1 ≤ a.toNat by omega)
        rw [Nat.add_mul, Nat.one_mul] at h3
        have : ¬ a < b := by rw [UInt8.lt_iff_toNat_lt]; omega
        have hge : ¬ (a.toNat * 256 ^ y.length + bval x < b.toNat * 256 ^ y.length + bval y) := by
          generalize 256 ^ y.length = P at *
          omega
        simp only [hge, decide_false]
        simp [this, he]
theorem bval_big (v : Nat) (hv : v < 18446744073709551616) : bval (big v) = v := by
  have e : ∀ k, (b8 k).toNat = k % 256 := fun k => by unfold b8; rw [UInt8.toNat_ofNat']
  simp only [big, short, List.cons_append, List.nil_append, bval, List.length_cons, List.length_nil, e]
  omega
theorem less_big (v w : Nat) (hv : v < 18446744073709551616) (hw : w < 18446744073709551616) : Op.bytesLess (big v) (big w) = decide (v < w) := by
  rw [less_bval _ _ (by simp [big_len]), bval_big v hv, bval_big w hw]
end Go.Proofs.Ytaipanholndefaa
