/- The plain law of records that tell whether they are whole. No program in sight. -/
import Derived.Test.YtaipanholndefaaBigp
import Derived.Test.YtaipanholndefaaCrc
namespace Go.Proofs.Ytaipanholndefaa
set_option linter.all false
/-- The sum of bytes, as a number. -/
def cn (l : List UInt8) : Nat := (crc l).toNat
theorem cn_lt (l : List UInt8) : cn l < 4294967296 := (crc l).isLt
/-- A record's bytes but for the last four. -/
def fbody (p : List UInt8) : List UInt8 := short p.length ++ short (cn (short p.length)) ++ p
def fenc (p : List UInt8) : List UInt8 := fbody p ++ short (cn (fbody p))
def hd (n : Nat) : Nat := n * 4294967296 + cn (short n)
theorem hd_lt (n : Nat) (h : n < 4294967296) : hd n < 18446744073709551616 := by have := cn_lt (short n); unfold hd; omega
theorem big_hd (n : Nat) : big (hd n) = short n ++ short (cn (short n)) := by
  have := cn_lt (short n)
  unfold big hd
  rw [show (n * 4294967296 + cn (short n)) / 4294967296 = n from by omega, show (n * 4294967296 + cn (short n)) % 4294967296 = cn (short n) from by omega]
theorem fbody_big (p : List UInt8) : big (hd p.length) ++ p = fbody p := by rw [big_hd]; rfl
theorem fbody_len (p : List UInt8) : (fbody p).length = p.length + 8 := by simp [fbody, short_len]; omega
theorem fenc_len (p : List UInt8) : (fenc p).length = p.length + 12 := by simp [fenc, fbody_len, short_len]

/-- What bytes begin with: the record's content, how many bytes it took, the error. -/
def fdec (l : List UInt8) : List UInt8 × Nat × Nat :=
  if l.length < 8 then ([], 0, 2)
  else if (rs (l.drop 4)).1 ≠ cn (l.take 4) then ([], 0, 4)
  else if 524288 < (rs l).1 then ([], 0, 5)
  else if l.length < (rs l).1 + 12 then ([], 0, 2)
  else if (rs (l.drop ((rs l).1 + 8))).1 ≠ cn (l.take ((rs l).1 + 8)) then ([], 0, 4)
  else ((l.drop 8).take (rs l).1, (rs l).1 + 12, 0)
theorem fdec_len (l : List UInt8) : (fdec l).1.length ≤ l.length ∧ (fdec l).2.1 ≤ l.length := by
  unfold fdec
  repeat' split
  all_goals simp
  all_goals omega
theorem fdec_pos {l : List UInt8} : (fdec l).2.2 = 0 → 0 < (fdec l).2.1 := by
  unfold fdec
  repeat' split
  all_goals simp
theorem rs_take4 {l : List UInt8} (h : 4 ≤ l.length) : short (rs l).1 = l.take 4 := by
  obtain ⟨a, b, c, d, t, rfl⟩ := four_of h
  have ha := a.toNat_lt
  have hb := b.toNat_lt
  have hc := c.toNat_lt
  have hd := d.toNat_lt
  have e : ∀ (k : Nat) (x : UInt8), k % 256 = x.toNat → b8 k = x := fun k x h => by
    apply UInt8.toNat_inj.1
    unfold b8; rw [UInt8.toNat_ofNat']; exact h
  simp only [rs_four, short, List.take_succ_cons, List.take_zero]
  rw [e _ a (by omega), e _ b (by omega), e _ c (by omega), e _ d (by omega)]
/-- The test of frame.Decode on the head: the number of eight bytes is the head of its upper half. -/
theorem head_test {l : List UInt8} (h : 8 ≤ l.length) : ((rb l).1 = hd (rs l).1) ↔ (rs (l.drop 4)).1 = cn (l.take 4) := by
  rw [rb_long h]
  unfold hd
  rw [rs_take4 (by omega)]
  constructor <;> intro e <;> simp only at * <;> omega
theorem head_div {l : List UInt8} (h : 8 ≤ l.length) : (rb l).1 / 4294967296 = (rs l).1 := by
  have h1 := rs_lt (l.drop 4)
  rw [rb_long h]
  show ((rs l).1 * 4294967296 + _) / _ = _
  omega
/-- What was written is read as it was. -/
theorem fdec_fenc (p more : List UInt8) (hp : p.length ≤ 524288) : fdec (fenc p ++ more) = (p, p.length + 12, 0) := by
  have hl : (fenc p ++ more).length = p.length + 12 + more.length := by simp [fenc_len]
  have hc := cn_lt (short p.length)
  have hc2 := cn_lt (fbody p)
  have e1 : fenc p ++ more = short p.length ++ (short (cn (short p.length)) ++ (p ++ (short (cn (fbody p)) ++ more))) := by
    simp only [fenc, fbody, List.append_assoc]
  have r1 : (rs (fenc p ++ more)).1 = p.length := by rw [e1, rs_short_back _ (by omega)]
  have t4 : (fenc p ++ more).take 4 = short p.length := by rw [e1, List.take_left' (short_len _)]
  have d4 : (rs ((fenc p ++ more).drop 4)).1 = cn (short p.length) := by rw [e1, List.drop_left' (short_len _), rs_short_back _ hc]
  have e2 : fenc p ++ more = fbody p ++ (short (cn (fbody p)) ++ more) := by simp only [fenc, List.append_assoc]
  have t8 : (fenc p ++ more).take (p.length + 8) = fbody p := by rw [e2, List.take_left' (fbody_len p)]
  have d8 : (rs ((fenc p ++ more).drop (p.length + 8))).1 = cn (fbody p) := by rw [e2, List.drop_left' (fbody_len p), rs_short_back _ hc2]
  have e3 : fenc p ++ more = (short p.length ++ short (cn (short p.length))) ++ (p ++ (short (cn (fbody p)) ++ more)) := by
    simp only [fenc, fbody, List.append_assoc]
  have dp : ((fenc p ++ more).drop 8).take p.length = p := by
    rw [e3, List.drop_left' (by simp [short_len]), List.take_left' rfl]
  unfold fdec
  rw [if_neg (by omega), d4, t4, if_neg (by simp), r1, if_neg (by omega), if_neg (by omega), d8, t8, if_neg (by simp), dp]
theorem rs_short_inj {l : List UInt8} (h : 4 ≤ l.length) {n : Nat} (hn : n < 4294967296) (e : (rs l).1 = n) : l.take 4 = short n := by
  rw [← e, rs_take4 h]
theorem fknown : fdec (fenc [] ++ [1]) = ([], 12, 0) := fdec_fenc [] [1] (by decide)

theorem set_ne {l : List UInt8} {k : Nat} {b y : UInt8} (h : l[k]? = some b) (hy : y ≠ 0) : l.set k (b ^^^ y) ≠ l := by
  intro e
  obtain ⟨hk, hb⟩ := List.getElem?_eq_some_iff.1 h
  have := congrArg (fun m => m[k]?) e
  simp only [List.getElem?_set_self hk, h] at this
  injection this with this
  exact xor_byte_ne hy this.symm
theorem rs_set_ne {s t : List UInt8} {c k : Nat} {b y : UInt8} (hs : s = short c) (h : s[k]? = some b) (hy : y ≠ 0) : (rs (s.set k (b ^^^ y) ++ t)).1 ≠ c := by
  intro e
  have hl : s.length = 4 := by rw [hs]; rfl
  have h4 := rs_take4 (l := s.set k (b ^^^ y) ++ t) (by simp [hl])
  rw [e, List.take_left' (by simp [hl]), ← hs] at h4
  exact set_ne h hy h4.symm
theorem cn_set {l : List UInt8} {k : Nat} {b y : UInt8} (h : l[k]? = some b) (hy : y ≠ 0) : cn l ≠ cn (l.set k (b ^^^ y)) := fun e => crc_set h hy (BitVec.eq_of_toNat_eq e)
/-- A record of which one byte is another one is refused, and nothing is handed back. -/
theorem fdec_sees (p more : List UInt8) (hp : p.length ≤ 524288) {k : Nat} {b y : UInt8} (hk : (fenc p)[k]? = some b) (hy : y ≠ 0) :
    fdec ((fenc p).set k (b ^^^ y) ++ more) = ([], 0, 4) := by
  have hc := cn_lt (short p.length)
  have hc2 := cn_lt (fbody p)
  have hkl : k < p.length + 12 := by
    obtain ⟨h, _⟩ := List.getElem?_eq_some_iff.1 hk
    rwa [fenc_len] at h
  have hl : ((fenc p).set k (b ^^^ y) ++ more).length = p.length + 12 + more.length := by simp [fenc_len]
  have sl : ∀ v, (short v).length = 4 := fun _ => rfl
  have e1 : fenc p = short p.length ++ (short (cn (short p.length)) ++ (p ++ short (cn (fbody p)))) := by simp only [fenc, fbody, List.append_assoc]
  have eb : fbody p = short p.length ++ (short (cn (short p.length)) ++ p) := by simp only [fbody, List.append_assoc]
  by_cases k4 : k < 4
  · have hk' : (short p.length)[k]? = some b := by rw [e1, List.getElem?_append_left (by rw [sl]; exact k4)] at hk; exact hk
    have e2 : (fenc p).set k (b ^^^ y) ++ more = (short p.length).set k (b ^^^ y) ++ (short (cn (short p.length)) ++ ((p ++ short (cn (fbody p))) ++ more)) := by
      rw [e1, List.set_append_left _ _ (by rw [sl]; exact k4)]; simp only [List.append_assoc]
    have t4 : ((fenc p).set k (b ^^^ y) ++ more).take 4 = (short p.length).set k (b ^^^ y) := by rw [e2, List.take_left' (by simp [sl])]
    have d4 : (rs (((fenc p).set k (b ^^^ y) ++ more).drop 4)).1 = cn (short p.length) := by rw [e2, List.drop_left' (by simp [sl]), rs_short_back _ hc]
    unfold fdec
    rw [if_neg (by omega), d4, t4, if_pos (cn_set hk' hy)]
  · by_cases k8 : k < 8
    · have hk' : (short (cn (short p.length)))[k - 4]? = some b := by
        rw [e1, List.getElem?_append_right (by rw [sl]; omega), sl, List.getElem?_append_left (by rw [sl]; omega)] at hk; exact hk
      have e2 : (fenc p).set k (b ^^^ y) ++ more = short p.length ++ ((short (cn (short p.length))).set (k - 4) (b ^^^ y) ++ ((p ++ short (cn (fbody p))) ++ more)) := by
        rw [e1, List.set_append_right _ _ (by rw [sl]; omega), sl, List.set_append_left _ _ (by rw [sl]; omega)]; simp only [List.append_assoc]
      have t4 : ((fenc p).set k (b ^^^ y) ++ more).take 4 = short p.length := by rw [e2, List.take_left' (sl _)]
      have d4 : (rs (((fenc p).set k (b ^^^ y) ++ more).drop 4)).1 ≠ cn (short p.length) := by rw [e2, List.drop_left' (sl _)]; exact rs_set_ne rfl hk' hy
      unfold fdec
      rw [if_neg (by omega), t4, if_pos d4]
    · have hd : ∃ rest, (fenc p).set k (b ^^^ y) ++ more = short p.length ++ (short (cn (short p.length)) ++ rest) := by
        refine ⟨(p ++ short (cn (fbody p))).set (k - 4 - 4) (b ^^^ y) ++ more, ?_⟩
        rw [e1, List.set_append_right _ _ (by rw [sl]; omega), sl, List.set_append_right _ _ (by rw [sl]; omega), sl]; simp only [List.append_assoc]
      have r1 : (rs ((fenc p).set k (b ^^^ y) ++ more)).1 = p.length := by
        obtain ⟨rest, e⟩ := hd
        rw [e, rs_short_back _ (by omega)]
      have t4 : ((fenc p).set k (b ^^^ y) ++ more).take 4 = short p.length := by
        obtain ⟨rest, e⟩ := hd
        rw [e, List.take_left' (sl _)]
      have d4 : (rs (((fenc p).set k (b ^^^ y) ++ more).drop 4)).1 = cn (short p.length) := by
        obtain ⟨rest, e⟩ := hd
        rw [e, List.drop_left' (sl _), rs_short_back _ hc]
      have fl := fbody_len p
      by_cases kb : k < p.length + 8
      · have hk' : (fbody p)[k]? = some b := by unfold fenc at hk; rw [List.getElem?_append_left (by omega)] at hk; exact hk
        have e2 : (fenc p).set k (b ^^^ y) ++ more = (fbody p).set k (b ^^^ y) ++ (short (cn (fbody p)) ++ more) := by
          unfold fenc
          rw [List.set_append_left _ _ (by omega)]; simp only [List.append_assoc]
        have t8 : ((fenc p).set k (b ^^^ y) ++ more).take (p.length + 8) = (fbody p).set k (b ^^^ y) := by rw [e2, List.take_left' (by simp [fl])]
        have d8 : (rs (((fenc p).set k (b ^^^ y) ++ more).drop (p.length + 8))).1 = cn (fbody p) := by rw [e2, List.drop_left' (by simp [fl]), rs_short_back _ hc2]
        unfold fdec
        rw [if_neg (by omega), d4, t4, if_neg (by simp), r1, if_neg (by omega), if_neg (by omega), d8, t8, if_pos (cn_set hk' hy)]
      · have hk' : (short (cn (fbody p)))[k - (p.length + 8)]? = some b := by unfold fenc at hk; rw [List.getElem?_append_right (by omega), fl] at hk; exact hk
        have e2 : (fenc p).set k (b ^^^ y) ++ more = fbody p ++ ((short (cn (fbody p))).set (k - (p.length + 8)) (b ^^^ y) ++ more) := by
          unfold fenc
          rw [List.set_append_right _ _ (by omega), fl]; simp only [List.append_assoc]
        have t8 : ((fenc p).set k (b ^^^ y) ++ more).take (p.length + 8) = fbody p := by rw [e2, List.take_left' fl]
        have d8 : (rs (((fenc p).set k (b ^^^ y) ++ more).drop (p.length + 8))).1 ≠ cn (fbody p) := by rw [e2, List.drop_left' fl]; exact rs_set_ne rfl hk' hy
        unfold fdec
        rw [if_neg (by omega), d4, t4, if_neg (by simp), r1, if_neg (by omega), if_neg (by omega), t8, if_pos d8]
end Go.Proofs.Ytaipanholndefaa
