/- ref disk: may, spot, did, Used, Fuse, New. -/
import Derived.Test.YtcoimlenejffpaaRdiskp
namespace Go.Proofs.Ytcoimlenejffpaa
set_option linter.all false
open Go.RowKit
theorem less_before : ∀ a b : List UInt8, Op.bytesLess a b = bytesBefore a b
  | [], [] => rfl
  | [], _ :: _ => rfl
  | _ :: _, [] => rfl
  | a :: x, b :: y => by simp only [Op.bytesLess, bytesBefore, less_before x y]
def rmayE (left : Int) (l : List (List UInt8)) : Nat := if left = 0 then 20 else if l.all okName then 0 else 1
set_option maxRecDepth 100000 in
set_option maxHeartbeats 1600000 in
theorem rmay_any (base r : Nat) (X : RDS) (w : World) (h : RW w base r X) (A : Option Addr) (n c : Nat) (l : List (List UInt8)) (hr : Rd w w.heap.size 1 A n (l.map sv)) (hn : n ≤ 1000) (hl : ∀ s ∈ l, s.length ≤ 140737488351232) :
    Calls Try.prog 51 #[.pointer (some ⟨r, 0, none⟩), .slice A n c] w (RetS (.int .i64 (rmayE X.left l : Int)) w) := by
  have hc := h.cell
  unfold rdcells at hc
  have c2 : w.cell? ⟨r, 2, none⟩ = some (.int .i64 X.left) := hc.cell 2
  have HL := Lib.hid hl
  have hlen : Hid (l.length = n) := by show _ = _; simpa using hr.1
  clear hc h hl
  have HM : Hid (rmayE X.left l = if X.left = 0 then 20 else if l.all okName then 0 else 1) := rfl
  generalize rmayE X.left l = M at *
  generalize X.left = L at *
  by_cases h0 : L = 0
  · subst h0
    have HM2 : Hid (M = 20) := by show _ = _; rw [HM.out]; simp
    clear HM
    go_enter Try.func51, Try.ntmps51
    go_wp2_with fail
    go_ret
    exact ⟨ret_i (by rw [HM2.out]; rfl), rfl⟩
  · have HM2 : Hid (M = if (l.drop 0).all okName then 0 else 1) := by show _ = _; rw [HM.out, if_neg h0]; simp
    have q0 : (L == 0) = false := by simp [h0]
    clear HM h0
    go_enter Try.func51, Try.ntmps51
    go_wp2_with fail
    go_loop [5] (fun s5 => ∃ i : Nat, i ≤ n ∧ s5 = .int .i64 i ∧ Hid (M = if (l.drop i).all okName then 0 else 1)) (fun s5 => n - (intOf s5).toNat)
    case atStart => exact ⟨0, Nat.zero_le _, rfl, HM2.out⟩
    case round =>
      obtain ⟨i, hi, rfl, HI⟩ := hrel
      by_cases hlt : i < n
      · obtain ⟨g, off, s, rfl, _, hs, hcs⟩ := sv_at hr hlt
        have hz := str_sz s
        have hsl := HL.out s (List.mem_of_getElem? hs)
        have hd := HI.out
        rw [all_drop hs] at hd
        by_cases hok : 1 ≤ s.length ∧ s.length ≤ 64
        · have HN : Hid (M = if (l.drop (i + 1)).all okName then 0 else 1) := by show _ = _; rw [hd]; simp only [okName, decide_eq_true hok, Bool.true_and]
          obtain ⟨o1, o2⟩ := hok
          clear hd HI hs
          go_wp2_with fail
          go_round
          case rel => exact ⟨i + 1, by omega, by go_num, HN.out⟩
          case measure => simp [intOf]; omega
        · have HN : Hid (M = 1) := by show _ = _; rw [hd]; simp only [okName, decide_eq_false hok, Bool.false_and]; rfl
          clear hd HI hs
          by_cases o1 : s.length < 1
          · clear hok
            have h1 : (str s).size < 1 := by omega
            go_wp2_with fail
            go_ret
            exact ⟨ret_i (by rw [HN.out]; rfl), rfl⟩
          · have o2 : 64 < s.length := by omega
            clear hok
            go_wp2_with fail
            go_ret
            exact ⟨ret_i (by rw [HN.out]; rfl), rfl⟩
      · have HN : Hid (M = 0) := by show _ = _; rw [HI.out, List.drop_of_length_le (by rw [hlen.out]; omega)]; rfl
        clear HI
        go_wp2_with fail
        go_ret
        exact ⟨ret_i (by rw [HN.out]; rfl), rfl⟩
/-- Where a name stands, or would stand. -/
def spotI (nm : List UInt8) (L : List RFE) : Nat := (L.takeWhile fun f => bytesBefore f.s nm).length
def spotB (nm : List UInt8) (L : List RFE) : Bool := match L[spotI nm L]? with | some f => f.s == nm | none => false
theorem spot_le (nm : List UInt8) (L : List RFE) : spotI nm L ≤ L.length := by
  unfold spotI
  induction L with
  | nil => simp
  | cons x r ih => rw [List.takeWhile_cons]; split <;> simp <;> omega
theorem spot_step {nm : List UInt8} {L : List RFE} {i : Nat} {f : RFE} (h : L[i]? = some f) : spotI nm (L.drop i) = if bytesBefore f.s nm then spotI nm (L.drop (i + 1)) + 1 else 0 := by
  obtain ⟨h1, e⟩ := List.getElem?_eq_some_iff.1 h
  rw [List.drop_eq_getElem_cons h1, e]
  unfold spotI
  rw [List.takeWhile_cons]
  split <;> simp
/-- A file, as it lies. -/
theorem RW.at_ {w : World} {base r i : Nat} {X : RDS} (h : RW w base r X) (hi : i < X.L.length) : ∃ g f, X.A = some ⟨g, 0, none⟩ ∧ X.v.ownBlock = some g ∧ X.L[i]? = some f ∧ f ∈ X.L ∧
    w.cell? ⟨g, i * 3, none⟩ = some (.string (str f.s)) ∧ w.cell? ⟨g, i * 3 + 1, none⟩ = some (.slice f.A f.b.length f.c) ∧ w.cell? ⟨g, i * 3 + 2, none⟩ = some (.int .i64 (f.l : Int)) ∧
    (∀ k, w.frozen? ⟨g, k, none⟩ = false) ∧ X.L.length ≤ X.c ∧ X.c ≤ 9223372036854775807 := by
  have hrow := h.row
  have hcap := own_cap (A := X.A) (c := X.c) hrow
  have hb : ∃ g, X.v.ownBlock = some g := by
    rcases hrow.2 with ⟨_, h0⟩ | ⟨g, cap, cur, hv, _⟩
    · omega
    · exact ⟨g, by rw [hv]; rfl⟩
  obtain ⟨g, hg⟩ := hb
  obtain ⟨cs, hblk⟩ := h.row_blk hg
  have hcells := hrow.cells hg
  have hA : X.A = some ⟨g, 0, none⟩ := by
    rcases hrow.2 with ⟨_, h0⟩ | ⟨g', cap, cur, hv, _⟩
    · omega
    · unfold RDS.v at hv hg
      injection hv with h1
      rw [h1] at hg
      simp [Value.ownBlock] at hg
      rw [h1, hg]
  have hf : X.L[i]? = some X.L[i] := List.getElem?_eq_getElem hi
  have key : ∀ j u, j < 3 → (rcells X.L[i])[j]? = some u → w.cell? ⟨g, i * 3 + j, none⟩ = some u := fun j u hj hu => by
    have := hcells (i * 3 + j) u (by rw [rc_get hf hj]; exact hu)
    rwa [add_mk, Nat.zero_add] at this
  exact ⟨g, X.L[i], hA, hg, hf, List.getElem_mem hi, key 0 _ (by omega) rfl, key 1 _ (by omega) rfl, key 2 _ (by omega) rfl, fun k => hblk.free k, hcap.1, hcap.2⟩
theorem RW.cap {w : World} {base r : Nat} {X : RDS} (h : RW w base r X) : X.L.length ≤ X.c ∧ X.c ≤ 9223372036854775807 := own_cap (A := X.A) (c := X.c) h.row
set_option maxRecDepth 100000 in
set_option maxHeartbeats 1600000 in
theorem rspot_any (base r : Nat) (X : RDS) (w : World) (h : RW w base r X) (nm : List UInt8) :
    Calls Try.prog 52 #[.pointer (some ⟨r, 0, none⟩), .string (str nm)] w (RetQ (.tuple #[.int .i64 (spotI nm X.L : Int), .bool (spotB nm X.L)]) w) := by
  have hc := h.cell
  unfold rdcells RDS.v at hc
  have c1 : w.cell? ⟨r, 1, none⟩ = some (.slice X.A X.L.length X.c) := hc.cell 1
  have H := Lib.hid h
  obtain ⟨hcap, hcm⟩ := h.cap
  have hfew := h.few
  have HS : Hid (spotI nm X.L = spotI nm (X.L.drop 0) + 0) := by show _ = _; simp
  obtain ⟨n, hn⟩ : ∃ n, n = X.L.length := ⟨_, rfl⟩
  have HN := Lib.hid hn
  rw [← hn] at c1 hcap hfew
  clear hc h hn
  have em : ∀ a : List UInt8, Hid ((str a).toList = a) := str_toList
  go_enter Try.func52, Try.ntmps52
  go_wp2_with fail
  go_loop [6] (fun s6 => ∃ i : Nat, i ≤ n ∧ s6 = .int .i64 (i : Int) ∧ Hid (spotI nm X.L = spotI nm (X.L.drop i) + i)) (fun s6 => n - (intOf s6).toNat)
  case atStart => exact ⟨0, Nat.zero_le _, rfl, HS.out⟩
  case round =>
    obtain ⟨i, hi, rfl, HI⟩ := hrel
    by_cases hlt : i < n
    · obtain ⟨g, f, hA, hg, hf, hm, k0, k1, k2, hfr, _, _⟩ := H.out.at_ (show i < X.L.length by rw [← HN.out]; exact hlt)
      have hst := spot_step (nm := nm) hf
      rcases hb : bytesBefore f.s nm with _ | _
      · have HI2 : Hid (spotI nm X.L = i) := by show _ = _; rw [HI.out, hst, hb]; simp
        have q1 : Op.bytesLess (str f.s).toList (str nm).toList = false := by rw [(em f.s).out, (em nm).out, less_before]; exact hb
        rcases hq : (f.s == nm) with _ | _
        · have q2 : ((str f.s).toList == (str nm).toList) = false := by rw [(em f.s).out, (em nm).out]; exact hq
          have HB : Hid (spotB nm X.L = false) := by show _ = _; unfold spotB; rw [HI2.out, hf]; exact hq
          clear hst hb hq hfr hf HI em k1 k2
          rw [hA] at c1
          go_wp2_with fail
          go_quiet (fail)
          go_wp2_with fail
          go_ret2
          exact ⟨by rw [HI2.out, HB.out]; rfl, nq, rfl⟩
        · have q2 : ((str f.s).toList == (str nm).toList) = true := by rw [(em f.s).out, (em nm).out]; exact hq
          have HB : Hid (spotB nm X.L = true) := by show _ = _; unfold spotB; rw [HI2.out, hf]; exact hq
          clear hst hb hq hfr hf HI em k1 k2
          rw [hA] at c1
          go_wp2_with fail
          go_quiet (fail)
          go_wp2_with fail
          go_ret2
          exact ⟨by rw [HI2.out, HB.out]; rfl, nq, rfl⟩
      · have HI2 : Hid (spotI nm X.L = spotI nm (X.L.drop (i + 1)) + (i + 1)) := by show _ = _; rw [HI.out, hst, hb]; simp; omega
        have q1 : Op.bytesLess (str f.s).toList (str nm).toList = true := by rw [(em f.s).out, (em nm).out, less_before]; exact hb
        clear hst hb hfr hf HI k1 k2
        rw [hA] at c1
        go_wp2_with fail
        go_round
        case rel => exact ⟨i + 1, by omega, by go_num, HI2.out⟩
        case measure => simp [intOf]; omega
    · have hin : i = n := by omega
      have HI2 : Hid (spotI nm X.L = i) := by show _ = _; rw [HI.out, List.drop_of_length_le (by rw [← HN.out]; omega)]; simp [spotI]
      have HB : Hid (spotB nm X.L = false) := by show _ = _; unfold spotB; rw [HI2.out, List.getElem?_eq_none (by rw [← HN.out]; omega)]
      have q3 : decide ((i : Int) < (n : Int)) = false := decide_eq_false (by omega)
      clear HI
      go_wp2_with fail
      go_quiet (fail)
      go_wp2_with fail
      go_ret2
      exact ⟨by rw [HI2.out, HB.out, hin]; rfl, nq, rfl⟩
end Go.Proofs.Ytcoimlenejffpaa
