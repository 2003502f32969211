/- The plain law of CRC-32: four steps of one digit are one step by the table of sixteen; each step can be turned back. No program in sight. -/
namespace Go.Proofs.Ytaipanholndefaa
set_option linter.all false

def cv (b : UInt8) : BitVec 32 := BitVec.ofNat 32 b.toNat
def poly : BitVec 32 := 0xedb88320#32
def bit1 (v : BitVec 32) : BitVec 32 := (v >>> 1) ^^^ (if v.getLsbD 0 then poly else 0#32)
def tabl : List (BitVec 32) := [0x00000000#32, 0x1db71064#32, 0x3b6e20c8#32, 0x26d930ac#32, 0x76dc4190#32, 0x6b6b51f4#32, 0x4db26158#32, 0x5005713c#32,
  0xedb88320#32, 0xf00f9344#32, 0xd6d6a3e8#32, 0xcb61b38c#32, 0x9b64c2b0#32, 0x86d3d2d4#32, 0xa00ae278#32, 0xbdbdf21c#32]
def tab (v : BitVec 32) : BitVec 32 := tabl.getD v.toNat 0#32
def nib (v : BitVec 32) : BitVec 32 := (v >>> 4) ^^^ tab (v &&& 15#32)
def st (v : BitVec 32) (b : UInt8) : BitVec 32 := nib (nib (v ^^^ cv b))
def crcRaw (l : List UInt8) : BitVec 32 := l.foldl st 4294967295#32
def crc (l : List UInt8) : BitVec 32 := ~~~ crcRaw l

theorem xor_lc (a b c : BitVec 32) : a ^^^ (b ^^^ c) = b ^^^ (a ^^^ c) := by
  rw [← BitVec.xor_assoc, BitVec.xor_comm a b, BitVec.xor_assoc]
theorem xor_cc (a b : BitVec 32) : a ^^^ (a ^^^ b) = b := by rw [← BitVec.xor_assoc]; simp
theorem bit1_xor (a b : BitVec 32) : bit1 (a ^^^ b) = bit1 a ^^^ bit1 b := by
  unfold bit1
  rw [BitVec.getLsbD_xor, BitVec.ushiftRight_xor_distrib]
  cases a.getLsbD 0 <;> cases b.getLsbD 0 <;> simp only [if_true, if_false, Bool.false_eq_true, Bool.xor_false, Bool.xor_true, Bool.not_false, Bool.not_true, BitVec.xor_zero, BitVec.xor_assoc]
  all_goals first
    | (rw [BitVec.xor_comm poly]; done)
    | (rw [xor_lc poly, xor_cc]; done)
    | (congr 1; rw [BitVec.xor_comm poly]; done)
    | (rw [BitVec.xor_comm poly, BitVec.xor_assoc, BitVec.xor_self, BitVec.xor_zero]; done)

theorem bit1_zero : bit1 0#32 = 0#32 := by decide

theorem bit1_ne (v : BitVec 32) (h : bit1 v = 0#32) : v = 0#32 := by
  unfold bit1 at h
  have hh : ∀ i, (v >>> 1 ^^^ (if v.getLsbD 0 then poly else 0#32)).getLsbD i = false := by intro i; rw [h]; simp
  cases h0 : v.getLsbD 0
  · apply BitVec.eq_of_getLsbD_eq
    intro i hi
    cases i with
    | zero => simpa using h0
    | succ j =>
      have := hh j
      simp only [h0, Bool.false_eq_true, if_false, BitVec.xor_zero, BitVec.getLsbD_ushiftRight] at this
      rw [Nat.add_comm] at this
      simpa using this
  · have := hh 31
    simp only [h0, if_true, BitVec.getLsbD_xor, BitVec.getLsbD_ushiftRight] at this
    have hp : poly.getLsbD 31 = true := by decide
    have hv : v.getLsbD (1 + 31) = false := BitVec.getLsbD_of_ge _ _ (by omega)
    rw [hp, hv] at this
    cases this

theorem bit1_inj {a b : BitVec 32} (h : bit1 a = bit1 b) : a = b := by
  have : bit1 (a ^^^ b) = 0#32 := by rw [bit1_xor, h]; simp
  have := bit1_ne _ this
  have h2 : (a ^^^ b) ^^^ b = 0#32 ^^^ b := by rw [this]
  simpa [BitVec.xor_assoc] using h2

theorem bit1_shl (z : BitVec 32) (h : z.getLsbD 31 = false) : bit1 (z <<< 1) = z := by
  unfold bit1
  have h0 : (z <<< 1).getLsbD 0 = false := by simp
  rw [h0]
  apply BitVec.eq_of_getLsbD_eq
  intro i hi
  simp only [Bool.false_eq_true, if_false, BitVec.xor_zero, BitVec.getLsbD_ushiftRight, BitVec.getLsbD_shiftLeft]
  by_cases h31 : i = 31
  · subst h31; simpa using h.symm
  · have e1 : 1 + i < 32 := by omega
    simp [e1]

def bit4 (v : BitVec 32) : BitVec 32 := bit1 (bit1 (bit1 (bit1 v)))
theorem bit4_xor (a b : BitVec 32) : bit4 (a ^^^ b) = bit4 a ^^^ bit4 b := by simp only [bit4, bit1_xor]

theorem bit4_hi (v : BitVec 32) : bit4 ((v >>> 4) <<< 4) = v >>> 4 := by
  have e : ∀ x : BitVec 32, x <<< 4 = (((x <<< 1) <<< 1) <<< 1) <<< 1 := by intro x; simp [← BitVec.shiftLeft_add]
  have g : ∀ k, 28 ≤ k → (v >>> 4).getLsbD k = false := by
    intro k hk
    rw [BitVec.getLsbD_ushiftRight]
    exact BitVec.getLsbD_of_ge _ _ (by omega)
  unfold bit4
  rw [e, bit1_shl, bit1_shl, bit1_shl, bit1_shl]
  · exact g 31 (by omega)
  · simp only [BitVec.getLsbD_shiftLeft]; simp [g 30 (by omega)]
  · simp only [BitVec.getLsbD_shiftLeft]; simp [g 29 (by omega)]
  · simp only [BitVec.getLsbD_shiftLeft]; simp [g 28 (by omega)]

theorem split4 (v : BitVec 32) : v = ((v >>> 4) <<< 4) ^^^ (v &&& 15#32) := by
  apply BitVec.eq_of_getLsbD_eq
  intro i hi
  have h15 : ∀ j : Fin 32, (15#32).getLsbD j.1 = decide (j.1 < 4) := by decide
  have := h15 ⟨i, hi⟩
  simp only at this
  simp only [BitVec.getLsbD_xor, BitVec.getLsbD_shiftLeft, BitVec.getLsbD_and, BitVec.getLsbD_ushiftRight, this]
  by_cases h4 : i < 4
  · simp [h4, hi]
  · have e : 4 + (i - 4) = i := by omega
    simp [h4, hi, e]

theorem tab_eq (v : BitVec 32) : bit4 (v &&& 15#32) = tab (v &&& 15#32) := by
  have h : ∀ t : Fin 16, bit4 (BitVec.ofNat 32 t.1) = tab (BitVec.ofNat 32 t.1) := by decide
  have hl : (v &&& 15#32).toNat < 16 := by
    rw [BitVec.toNat_and]
    exact Nat.lt_of_le_of_lt Nat.and_le_right (by decide)
  have := h ⟨_, hl⟩
  simpa using this

theorem nib_eq (v : BitVec 32) : nib v = bit4 v := by
  have h : bit4 v = bit4 (((v >>> 4) <<< 4) ^^^ (v &&& 15#32)) := by rw [← split4]
  rw [h, bit4_xor, bit4_hi, tab_eq]
  rfl

def bits8 : Nat → BitVec 32 → BitVec 32
  | 0, v => v
  | k + 1, v => bit1 (bits8 k v)
theorem st_eq (v : BitVec 32) (b : UInt8) : st v b = bits8 8 (v ^^^ cv b) := by
  unfold st
  rw [nib_eq, nib_eq]
  rfl

theorem bits8_inj : ∀ (k : Nat) {a b : BitVec 32}, bits8 k a = bits8 k b → a = b
  | 0, _, _, h => h
  | k + 1, _, _, h => bits8_inj k (bit1_inj h)
theorem xor_left_cancel {a b c : BitVec 32} (h : a ^^^ b = a ^^^ c) : b = c := by
  have h2 : a ^^^ (a ^^^ b) = a ^^^ (a ^^^ c) := by rw [h]
  simpa [← BitVec.xor_assoc] using h2
theorem cv_inj {a b : UInt8} (h : cv a = cv b) : a = b := by
  have h1 := congrArg BitVec.toNat h
  simp only [cv, BitVec.toNat_ofNat] at h1
  have ha := a.toNat_lt
  have hb := b.toNat_lt
  exact UInt8.toNat_inj.1 (by omega)
theorem st_inj_v {a b : BitVec 32} {x : UInt8} (h : st a x = st b x) : a = b := by
  rw [st_eq, st_eq] at h
  have := bits8_inj 8 h
  rw [BitVec.xor_comm a, BitVec.xor_comm b] at this
  exact xor_left_cancel this
theorem st_inj_b {v : BitVec 32} {x y : UInt8} (h : st v x = st v y) : x = y := by
  rw [st_eq, st_eq] at h
  exact cv_inj (xor_left_cancel (bits8_inj 8 h))
theorem fold_inj : ∀ (l : List UInt8) {a b : BitVec 32}, l.foldl st a = l.foldl st b → a = b
  | [], _, _, h => h
  | x :: l, _, _, h => st_inj_v (fold_inj l h)
theorem crc_inj {a b : List UInt8} (h : crc a = crc b) : crcRaw a = crcRaw b := by
  unfold crc at h
  have := congrArg (~~~ ·) h
  simpa using this
/-- A byte that is another one has another sum. -/
theorem crc_sees (p s : List UInt8) {x y : UInt8} (h : x ≠ y) : crc (p ++ x :: s) ≠ crc (p ++ y :: s) := by
  intro e
  have := crc_inj e
  unfold crcRaw at this
  rw [List.foldl_append, List.foldl_append] at this
  exact h (st_inj_b (fold_inj s this))
theorem split_at {l : List UInt8} {k : Nat} {b : UInt8} (h : l[k]? = some b) (x : UInt8) : l = l.take k ++ b :: l.drop (k + 1) ∧ l.set k x = l.take k ++ x :: l.drop (k + 1) := by
  obtain ⟨hk, e⟩ := List.getElem?_eq_some_iff.1 h
  constructor
  · have h2 := List.take_append_drop k l
    rw [List.drop_eq_getElem_cons hk, e] at h2
    exact h2.symm
  · exact List.set_eq_take_append_cons_drop.trans (if_pos hk)
theorem xor_byte_ne {b y : UInt8} (h : y ≠ 0) : b ≠ b ^^^ y := by
  intro e
  have h2 : b ^^^ b = b ^^^ (b ^^^ y) := congrArg (b ^^^ ·) e
  rw [UInt8.xor_self, ← UInt8.xor_assoc, UInt8.xor_self, UInt8.zero_xor] at h2
  exact h h2.symm
theorem crc_set {l : List UInt8} {k : Nat} {b y : UInt8} (h : l[k]? = some b) (hy : y ≠ 0) : crc l ≠ crc (l.set k (b ^^^ y)) := by
  have hs := split_at h (b ^^^ y)
  rw [hs.2]
  intro e
  exact crc_sees _ _ (xor_byte_ne hy) ((congrArg crc hs.1).symm.trans e)
theorem crcRaw_snoc (l : List UInt8) (b : UInt8) : crcRaw (l ++ [b]) = st (crcRaw l) b := by
  unfold crcRaw; rw [List.foldl_append]; rfl
theorem crcRaw_take {l : List UInt8} {k : Nat} {b : UInt8} (h : l[k]? = some b) : crcRaw (l.take (k + 1)) = st (crcRaw (l.take k)) b := by
  rw [List.take_add_one, h]
  exact crcRaw_snoc _ _
theorem crc_known : crc [49, 50, 51, 52, 53, 54, 55, 56, 57] = 3421780262#32 := by decide +kernel
end Go.Proofs.Ytaipanholndefaa
