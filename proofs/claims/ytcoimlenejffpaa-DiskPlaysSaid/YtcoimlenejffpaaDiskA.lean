/- disk: told, Used, may, burns. -/
import Derived.Test.YtcoimlenejffpaaDiskp
import Derived.LoopTactic
import Derived.Deep.QuietTactic
import Derived.BigQuiet
import Derived.IntWalk
import Derived.Outline
namespace Go.Proofs.Ytcoimlenejffpaa
set_option linter.all false
open Go.RowKit
theorem ret_i {k : IntKind} {a b : Int} (h : a = b) : Ending.returned (.int k a) = .returned (.int k b) := by rw [h]
set_option maxRecDepth 100000 in
set_option maxHeartbeats 1600000 in
theorem told_any (g : Nat) (A : Option Addr) (n c l : Nat) (w : World) (h : Blk w g #[.slice A n c, .int .u32 (l : Int)] 64) (hn : n ≤ 1073741824) (hl : l ≤ n) :
    Calls Try.prog 31 #[.pointer (some ⟨g, 0, none⟩)] w (RetQ (.int .u64 ((l * 4294967296 + n : Nat) : Int)) w) := by
  have c0 : w.cell? ⟨g, 0, none⟩ = some (.slice A n c) := h.cell 0
  have c1 : w.cell? ⟨g, 1, none⟩ = some (.int .u32 (l : Int)) := h.cell 1
  clear h
  go_enter Try.func31, Try.ntmps31
  go_wp2_with fail
  go_quiet (fail)
  go_wp2_with fail
  go_ret
  refine ⟨ret_i ?_, nq, rfl⟩
  rw [u64_or _ _ (by omega) (by omega) (by omega) (by omega), nat_join 32 _ _ (by omega) (by omega)]
  omega
theorem key_inv {key : Value} {kl : Lit} (h : keyOf Try.prog 9 key = some kl) : ∃ s : ByteArray, key = .string s ∧ kl = .string s.data.toList := by
  cases key <;> simp [keyOf, Try.underlying9, mapKey] at h
  exact ⟨_, rfl, h.2.symm⟩
theorem at_all {L : En} {s : List UInt8} {c : Option Nat} (h : ∀ zd, (DL L).atKey (.string s) zd = mkD c) : ∃ g, c = some g ∧ getL s L = some g := by
  have h1 := h .nil
  rw [DL_at] at h1
  have h2 := mkD_inj h1
  rcases hc : getL s L with _ | g
  · exfalso
    rw [hc] at h2
    subst h2
    have h3 := h (.lit (.bool true))
    unfold DL DataW.atKey at h3
    simp only at h3
    have : (L.map enL).find? (fun p => p.1.sameKey (.string s)) = none := by
      rw [List.find?_eq_none]
      intro p hp
      obtain ⟨q, hq, rfl⟩ := List.mem_map.1 hp
      have := getL_none hc q hq
      simpa [enL, Lit.sameKey] using this
    rw [this] at h3
    simp [mkD] at h3
  · exact ⟨g, by rw [← h2, hc], rfl⟩
theorem doneL_le (left : Lit → Bool) (f : List UInt8 × Nat → Nat) : ∀ L : En, doneL left f L ≤ sumL f L
  | [] => Nat.le_refl _
  | p :: q => by
    have ih := doneL_le left f q
    unfold doneL at ih ⊢
    simp only [sumL]
    split <;> omega
theorem unhide3 {p : Prop} (h : Hid p) : p := h
theorem gb_below0 {w w' : World} (h : w.grownBy w' none) : Below w.heap.size w w' := ⟨h.os, h.tape, h.output, h.size, fun i hi => h.block i hi (by simp)⟩
def lenE (S : DS) (p : List UInt8 × Nat) : Nat := match getE p.1 S.E with | some e => e.b.length | none => 0
theorem getE_of_mem {E : List FE} {e : FE} (hn : Nd1 (enOf E)) (he : e ∈ E) : getE e.s E = some e := by
  induction E with
  | nil => simp at he
  | cons x r ih =>
    obtain ⟨h1, h2⟩ := List.pairwise_cons.1 (show List.Pairwise _ (enE x :: enOf r) from hn)
    unfold getE
    rw [List.find?_cons]
    rcases List.mem_cons.1 he with e1 | hm
    · subst e1; simp
    · have hne : x.s ≠ e.s := fun e1 => h1 (enE e) (List.mem_map.2 ⟨e, hm, rfl⟩) e1
      have : (x.s == e.s) = false := by simpa using hne
      rw [this]
      exact ih h2 hm
theorem sum_used (S : DS) (hn : Nd1 (enOf S.E)) : sumL (lenE S) (enOf S.E) = S.used := by
  have : ∀ E : List FE, (∀ e ∈ E, getE e.s S.E = some e) → sumL (lenE S) (enOf E) = (E.map fun e => e.b.length).sum := by
    intro E
    induction E with
    | nil => intro _; rfl
    | cons x r ih =>
      intro h
      show lenE S (enE x) + sumL (lenE S) (enOf r) = x.b.length + _
      rw [ih fun e he => h e (by simp [he])]
      have : lenE S (enE x) = x.b.length := by unfold lenE enE; simp only; rw [h x (by simp)]
      rw [this]; rfl
  exact this S.E fun e he => getE_of_mem hn he
theorem mem_le_sum {E : List FE} {e : FE} (h : e ∈ E) : e.b.length ≤ (E.map fun e => e.b.length).sum := by
  induction E with
  | nil => simp at h
  | cons x r ih =>
    rw [used_cons]
    rcases List.mem_cons.1 h with e1 | hm
    · subst e1; omega
    · have := ih hm; omega
set_option maxRecDepth 100000 in
set_option maxHeartbeats 1600000 in
theorem used_any (base d : Nat) (S : DS) (w : World) (h : DW w base d S) : Calls Try.prog 16 #[.pointer (some ⟨d, 0, none⟩)] w (Ret (.int .i64 (S.used : Int)) w) := by
  have hc := h.cell
  unfold dcells at hc
  have c1 : w.cell? ⟨d, 1, none⟩ = some (.map (some S.m)) := hc.cell 1
  have hnd := Lib.hid h.nd
  have H := Lib.hid h
  have hmap := h.map
  have hro := h.room
  clear hc h
  have HU : Hid (sumL (lenE S) (enOf S.E) = S.used) := sum_used S hnd.out
  go_enter Try.func16, Try.ntmps16
  go_wp2_with (first
    | (at_range
       refine wpList_range_own _ rfl _ 57 rfl 9 61 (Go.Maps.string_keyed Try.underlying9) Try.underlying57 ptrR S.m S.E.length (DL (enOf S.E)) rfl hmap ?_
       intro w0 hrg0 hg0 hs0))
  go_frame
  have HB0 : Hid (Below w.heap.size w w0) := gb_below0 hg0
  generalize hr : w.heap.size = r at *
  have HR := Lib.hid hr
  clear hr hg0 hmap
  go_loopw [3] (fun s3 wr => ∃ (x : Nat) (left : Lit → Bool) (cnt : Nat), s3 = .int .u64 (x : Int) ∧ Hid (x = doneL left (lenE S) (enOf S.E)) ∧ Hid (wr.ranges Try.prog 9 ptrR S.m r S.E.length (DL (enOf S.E)) left cnt) ∧ Hid (Below r w wr)) (fun _ wr => wr.rangeLeft S.m r)
  case atStart => exact ⟨0, _, _, rfl, (doneL_none _ _).symm, hrg0, HB0.out⟩
  case round =>
    obtain ⟨x, left, cnt, rfl, HX, HRG, HB⟩ := hrel
    go_wp2_with (first
      | (at_next
         refine wpList_next_ranges _ rfl _ rfl 9 (Go.Maps.string_keyed Try.underlying9) ptrR (fun s : ByteArray => Value.string s) mkP (fun key kl hk => by obtain ⟨s, e, _⟩ := key_inv hk; exact ⟨s, e⟩) (fun v y hv => by obtain ⟨c, e, _⟩ := ptrR_inv hv; exact ⟨c, e⟩)
           S.m r _ _ left cnt rfl HRG.out ?_ ?_))
    · intro hc0 hl0
      have HF : Hid (x = S.used) := by show _ = _; rw [HX.out, doneL_all _ _ _ hl0]; exact HU.out
      have hx : x ≤ 1073741824 := by have := HF.out; omega
      clear hl0 hc0
      go_wp2_with fail
      go_ret
      exact ⟨ret_i (by rw [HF.out]), by rw [HR.out]; exact HB.out⟩
    · intro s c kl ya yb w1 cnt1 hkey hleft hR hat hrg1 hlt hg1 hs1 hen
      obtain ⟨s', e1, e2⟩ := key_inv hkey
      injection e1 with e1
      subst e1
      rw [ptrR_mk] at hR
      injection hR with hR
      injection hR with hR1 hR2
      subst hR1
      rw [e2] at hat
      obtain ⟨g, e3, hget⟩ := at_all hat
      subst e3
      have hstep := doneL_step (lenE S) (left := left) hnd.out (getL_mem hget) (by rw [← e2]; exact hleft)
      rw [← e2] at hstep
      rw [getL_getE] at hget
      obtain ⟨e, he1, he2⟩ := Option.map_eq_some_iff.1 hget
      obtain ⟨hem, hes⟩ := getE_mem he1
      have hB1 : Below r w w1 := ⟨hg1.os.trans HB.out.os, hg1.tape.trans HB.out.tape, hg1.output.trans HB.out.output, Nat.le_trans HB.out.size hg1.size, fun i hi => (hg1.block i (by have := HB.out.size; have := HR.out; omega) (fun e => by injection e with e; omega)).trans (HB.out.block i hi)⟩
      obtain ⟨f1, f2, f3⟩ := (H.out.below (by rw [HR.out]; exact hB1)).file e hem
      have hlen : lenE S (s.data.toList, g) = e.b.length := by unfold lenE; simp only; rw [he1]
      have hle := mem_le_sum hem
      have hle' : e.b.length ≤ S.used := hle
      have HN : Hid (x + e.b.length = doneL (fun z => left z && !z.sameKey kl) (lenE S) (enOf S.E)) := by show _ = _; rw [hstep, hlen, HX.out]
      have hxs : x + e.b.length ≤ S.used := by
        have := doneL_le (fun z => left z && !z.sameKey kl) (lenE S) (enOf S.E)
        rw [HU.out, ← HN.out] at this
        exact this
      obtain ⟨A, cc, ev, _, _⟩ := f2.form
      rw [ev, he2] at f1
      have HT := told_any g A e.b.length cc e.l w1 f1 (by omega) f3
      have HT1 : Hid (∃ t : Nat, t = e.l * 4294967296 + e.b.length ∧ Calls Try.prog 31 #[.pointer (some ⟨g, 0, none⟩)] w1 (RetQ (.int .u64 (t : Int)) w1)) := ⟨_, rfl, HT⟩
      obtain ⟨t, ht, HT2⟩ := HT1.out
      have HT3 := Lib.hid HT2
      have ht2 : IntKind.u32.wrap (t : Int) = (e.b.length : Int) := by rw [IntKind.wrap_u32']; omega
      have HRG1 := Lib.hid hrg1
      have HB1 := Lib.hid hB1
      have HM : Hid (wr.rangeLeft S.m r = cnt ∧ cnt1 < cnt) := ⟨HRG.out.left_eq, hlt⟩
      generalize e.b.length = n at *
      clear hrg1 hB1 HT HT1 HT2 ht hstep hat hkey hleft hg1 hs1 f1 f2 f3 hes hem he1 he2 hget ev hlt HX e2 HRG
      go_wp2_with fail
      refine (unhide3 HT3).mono ?_
      rintro en w2 ⟨rfl, mm, rfl⟩
      go_wp2_with fail
      go_roundw
      case rel => exact ⟨x + n, _, cnt1, congrArg (Value.int .u64) (by omega), HN.out, HRG1.out, below_drewN HB1.out mm⟩
      case measure =>
        have h1 : (w1.drewN mm).rangeLeft S.m r = cnt1 := HRG1.out.left_eq
        rw [HM.out.1, h1]
        exact HM.out.2
end Go.Proofs.Ytcoimlenejffpaa
