/- disk: may, burns. -/
import Derived.Test.YtcoimlenejffpaaDiskA
namespace Go.Proofs.Ytcoimlenejffpaa
set_option linter.all false
open Go.RowKit
def sv (s : List UInt8) : Value := .string (str s)
theorem str_sz (l : List UInt8) : (str l).size = l.length := by simp [str, ByteArray.size]
def okName (s : List UInt8) : Bool := decide (1 ≤ s.length ∧ s.length ≤ 64)
/-- What is in the way of something with names: 0, or an error. -/
def mayE (S : DS) (l : List (List UInt8)) : Nat := if S.fused = true ∧ S.left = 0 then 20 else if l.all okName then 0 else 1
theorem all_drop {l : List (List UInt8)} {i : Nat} {s : List UInt8} (h : l[i]? = some s) : (l.drop i).all okName = (okName s && (l.drop (i + 1)).all okName) := by
  obtain ⟨h1, e⟩ := List.getElem?_eq_some_iff.1 h
  rw [List.drop_eq_getElem_cons h1, e]; rfl
theorem sv_at {w : World} {B n k : Nat} {A : Option Addr} {l : List (List UInt8)} (h : Rd w B 1 A n (l.map sv)) (hk : k < n) :
    ∃ g off s, A = some ⟨g, off, none⟩ ∧ g < B ∧ l[k]? = some s ∧ w.cell? ⟨g, off + k, none⟩ = some (.string (str s)) := by
  obtain ⟨g, off, u, hA, hg, hu, hc⟩ := Rd.at_ h hk
  rw [List.getElem?_map] at hu
  cases hb : l[k]? with
  | none => rw [hb] at hu; cases hu
  | some b => rw [hb] at hu; injection hu with hu; subst hu; exact ⟨g, off, b, hA, hg, rfl, hc⟩
set_option maxRecDepth 100000 in
set_option maxHeartbeats 1600000 in
theorem may_any (base d : Nat) (S : DS) (w : World) (h : DW w base d S) (A : Option Addr) (n c : Nat) (l : List (List UInt8)) (hr : Rd w w.heap.size 1 A n (l.map sv)) (hn : n ≤ 1000) (hl : ∀ s ∈ l, s.length ≤ 140737488351232) :
    Calls Try.prog 29 #[.pointer (some ⟨d, 0, none⟩), .slice A n c] w (RetS (.int .i64 (mayE S l : Int)) w) := by
  have hc := h.cell
  unfold dcells at hc
  have c2 : w.cell? ⟨d, 2, none⟩ = some (.bool S.fused) := hc.cell 2
  have c3 : w.cell? ⟨d, 3, none⟩ = some (.int .i64 (S.left : Int)) := hc.cell 3
  have HL := Lib.hid hl
  have hlen : Hid (l.length = n) := by show _ = _; simpa using hr.1
  clear hc h hl
  have HM : Hid (mayE S l = if S.fused = true ∧ S.left = 0 then 20 else if l.all okName then 0 else 1) := rfl
  generalize mayE S l = M at *
  generalize S.left = L at *
  rcases hf : S.fused with _ | _
  · rw [hf] at c2
    have HM2 : Hid (M = if (l.drop 0).all okName then 0 else 1) := by show _ = _; rw [HM.out, hf]; simp
    clear HM hf
    go_enter Try.func29, Try.ntmps29
    go_wp2_with fail
    go_loop [24] (fun s24 => ∃ i : Nat, i ≤ n ∧ s24 = .int .i64 i ∧ Hid (M = if (l.drop i).all okName then 0 else 1)) (fun s24 => n - (intOf s24).toNat)
    case atStart => exact ⟨0, Nat.zero_le _, rfl, HM2.out⟩
    case round =>
      obtain ⟨i, hi, rfl, HI⟩ := hrel
      by_cases hlt : i < n
      · obtain ⟨g, off, s, rfl, _, hs, hcs⟩ := sv_at hr hlt
        have hz := str_sz s
        have hsl := HL.out s (List.mem_of_getElem? hs)
        have hd := HI.out
        rw [all_drop hs] at hd
        by_cases hok : 1 ≤ s.length ∧ s.length ≤ 64
        · have HN : Hid (M = if (l.drop (i + 1)).all okName then 0 else 1) := by show _ = _; rw [hd]; simp only [okName, decide_eq_true hok, Bool.true_and]
          obtain ⟨o1, o2⟩ := hok
          clear hd HI hs
          go_wp2_with fail
          go_round
          case rel => exact ⟨i + 1, by omega, by go_num, HN.out⟩
          case measure => simp [intOf]; omega
        · have HN : Hid (M = 1) := by show _ = _; rw [hd]; simp only [okName, decide_eq_false hok, Bool.false_and]; rfl
          clear hd HI hs
          by_cases o1 : s.length < 1
          · clear hok
            have h1 : (str s).size < 1 := by omega
            go_wp2_with fail
            go_ret
            exact ⟨ret_i (by rw [HN.out]; rfl), rfl⟩
          · have o2 : 64 < s.length := by omega
            clear hok
            go_wp2_with fail
            go_ret
            exact ⟨ret_i (by rw [HN.out]; rfl), rfl⟩
      · have HN : Hid (M = 0) := by show _ = _; rw [HI.out, List.drop_of_length_le (by rw [hlen.out]; omega)]; rfl
        clear HI
        go_wp2_with fail
        go_ret
        exact ⟨ret_i (by rw [HN.out]; rfl), rfl⟩
  · rw [hf] at c2
    by_cases h0 : L = 0
    · subst h0
      have HM2 : Hid (M = 20) := by show _ = _; rw [HM.out, hf]; simp
      clear HM hf
      go_enter Try.func29, Try.ntmps29
      go_wp2_with fail
      go_ret
      exact ⟨ret_i (by rw [HM2.out]; rfl), rfl⟩
    · have HM2 : Hid (M = if (l.drop 0).all okName then 0 else 1) := by show _ = _; rw [HM.out, if_neg (by simp [h0])]; simp
      have q0 : ((L : Int) == 0) = false := by simp; omega
      clear HM hf h0
      go_enter Try.func29, Try.ntmps29
      go_wp2_with fail
      go_loop [24] (fun s24 => ∃ i : Nat, i ≤ n ∧ s24 = .int .i64 i ∧ Hid (M = if (l.drop i).all okName then 0 else 1)) (fun s24 => n - (intOf s24).toNat)
      case atStart => exact ⟨0, Nat.zero_le _, rfl, HM2.out⟩
      case round =>
        obtain ⟨i, hi, rfl, HI⟩ := hrel
        by_cases hlt : i < n
        · obtain ⟨g, off, s, rfl, _, hs, hcs⟩ := sv_at hr hlt
          have hz := str_sz s
          have hsl := HL.out s (List.mem_of_getElem? hs)
          have hd := HI.out
          rw [all_drop hs] at hd
          by_cases hok : 1 ≤ s.length ∧ s.length ≤ 64
          · have HN : Hid (M = if (l.drop (i + 1)).all okName then 0 else 1) := by show _ = _; rw [hd]; simp only [okName, decide_eq_true hok, Bool.true_and]
            obtain ⟨o1, o2⟩ := hok
            clear hd HI hs
            go_wp2_with fail
            go_round
            case rel => exact ⟨i + 1, by omega, by go_num, HN.out⟩
            case measure => simp [intOf]; omega
          · have HN : Hid (M = 1) := by show _ = _; rw [hd]; simp only [okName, decide_eq_false hok, Bool.false_and]; rfl
            clear hd HI hs
            by_cases o1 : s.length < 1
            · clear hok
              have h1 : (str s).size < 1 := by omega
              go_wp2_with fail
              go_ret
              exact ⟨ret_i (by rw [HN.out]; rfl), rfl⟩
            · have o2 : 64 < s.length := by omega
              clear hok
              go_wp2_with fail
              go_ret
              exact ⟨ret_i (by rw [HN.out]; rfl), rfl⟩
        · have HN : Hid (M = 0) := by show _ = _; rw [HI.out, List.drop_of_length_le (by rw [hlen.out]; omega)]; rfl
          clear HI
          go_wp2_with fail
          go_ret
          exact ⟨ret_i (by rw [HN.out]; rfl), rfl⟩
def burnS (S : DS) : DS := if S.fused then { S with left := S.left - 1 } else S
theorem burnS_bl (d : Nat) (S : DS) : (burnS S).bl d = S.bl d := by unfold burnS; split <;> rfl
theorem DW.set_d {w w' : World} {base d : Nat} {S S' : DS} (h : DW w base d S) (hE : S'.E = S.E) (hm : S'.m = S.m) (hroom : S'.room = S.room) (hl : S'.left ≤ 9223372036854775807) (hc : Blk w' d (dcells S') 59) (hg : Turn [d] w w') : DW w' base d S' := by
  have hbl : S'.bl d = S.bl d := by unfold DS.bl; rw [hE, hm]
  have hn := h.nodup
  unfold DS.bl at hn
  rw [List.nodup_cons] at hn
  have hblk : ∀ i, i ∈ S.bl d → i ≠ d → w'.heap[i]? = w.heap[i]? := fun i hi hne => hg.block i (h.ge i hi).2 (by simpa using hne)
  have hned : ∀ i, i ∈ S.m :: S.E.flatMap FE.bl → i ≠ d := fun i hi e => hn.1 (e ▸ hi)
  have hin : ∀ i, i ∈ S.m :: S.E.flatMap FE.bl → i ∈ S.bl d := fun i hi => by unfold DS.bl; exact List.mem_cons_of_mem _ hi
  refine ⟨hc, ?_, ?_, ?_, ?_, ?_, ?_, hl⟩
  · rw [hE, hm]; exact owns_block h.map (hblk _ (bl_m d S) (hned _ (by simp)))
  · rw [hE]
    intro e he
    have mem1 : e.g ∈ S.m :: S.E.flatMap FE.bl := List.mem_cons_of_mem _ (List.mem_flatMap.2 ⟨e, he, by simp [FE.bl]⟩)
    have mem2 : ∀ i, e.v.ownBlock = some i → i ∈ S.m :: S.E.flatMap FE.bl := fun i hi => List.mem_cons_of_mem _ (List.mem_flatMap.2 ⟨e, he, by simp [FE.bl, hi]⟩)
    exact ⟨(hblk _ (hin _ mem1) (hned _ mem1)).trans (h.file e he).1, (h.file e he).2.1.keep fun i hi => hblk _ (hin _ (mem2 i hi)) (hned _ (mem2 i hi)), (h.file e he).2.2⟩
  · rw [hbl]; exact h.nodup
  · rw [hbl]; exact fun i hi => ⟨(h.ge i hi).1, Nat.lt_of_lt_of_le (h.ge i hi).2 hg.size⟩
  · have e1 : S'.used = S.used := by unfold DS.used; rw [hE]
    rw [e1, hroom]; exact h.room
  · rw [hE]; exact h.few
/-- Behind something that has been done: 0; the fuse is shorter. -/
def RetB (base d : Nat) (S : DS) (w : World) (e : Ending) (w' : World) : Prop := e = .returned (.int .i64 0) ∧ DW w' base d (burnS S) ∧ Turn [d] w w'
set_option maxRecDepth 100000 in
set_option maxHeartbeats 1600000 in
theorem burns_any (base d : Nat) (S : DS) (w : World) (h : DW w base d S) (hl : S.fused = true → 0 < S.left) :
    Calls Try.prog 30 #[.pointer (some ⟨d, 0, none⟩)] w (RetB base d S w) := by
  have hc := h.cell
  have HC := Lib.hid hc
  unfold dcells at hc
  have c2 : w.cell? ⟨d, 2, none⟩ = some (.bool S.fused) := hc.cell 2
  have c3 : w.cell? ⟨d, 3, none⟩ = some (.int .i64 (S.left : Int)) := hc.cell 3
  have f3 := hc.free 3
  have hle := h.left
  have H := Lib.hid h
  clear hc h
  rcases hf : S.fused with _ | _
  · rw [hf] at c2
    have e : Hid (burnS S = S) := by show _ = _; unfold burnS; rw [hf]; rfl
    clear hf hl
    go_enter Try.func30, Try.ntmps30
    go_wp2_with fail
    go_ret
    exact ⟨rfl, by rw [e.out]; exact H.out, Turn.refl _ _⟩
  · rw [hf] at c2
    have hpos := hl hf
    have e : Hid (burnS S = { S with left := S.left - 1 }) := by show _ = _; unfold burnS; rw [hf]; rfl
    clear hf hl
    go_enter Try.func30, Try.ntmps30
    go_wp2_with fail
    go_ret
    refine ⟨rfl, ?_, Turn.set (.inl (by simp))⟩
    rw [e.out]
    refine H.out.set_d rfl rfl rfl (by simp only; omega) ?_ (Turn.set (.inl (by simp)))
    have := Blk.set HC.out 3 (.int .i64 ((S.left : Int) - 1))
    have e2 : ((S.left - 1 : Nat) : Int) = (S.left : Int) - 1 := by omega
    unfold dcells
    simp only
    rw [e2]
    exact this
end Go.Proofs.Ytcoimlenejffpaa
