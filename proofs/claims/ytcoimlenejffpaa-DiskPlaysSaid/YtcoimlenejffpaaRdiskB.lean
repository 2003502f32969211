/- ref disk: did, Used, Fuse, New. -/
import Derived.Test.YtcoimlenejffpaaRdiskA
namespace Go.Proofs.Ytcoimlenejffpaa
set_option linter.all false
open Go.RowKit
def didX (X : RDS) : RDS := if 0 < X.left then { X with left := X.left - 1 } else X
theorem didX_bl (r : Nat) (X : RDS) : (didX X).bl r = X.bl r := by unfold didX; split <;> rfl
theorem didX_L (X : RDS) : (didX X).L = X.L := by unfold didX; split <;> rfl
theorem didX_room (X : RDS) : (didX X).room = X.room := by unfold didX; split <;> rfl
def RetDid (base r : Nat) (X : RDS) (w : World) (e : Ending) (w' : World) : Prop := e = .returned (.int .i64 0) ∧ RW w' base r (didX X) ∧ Turn (X.bl r) w w'
set_option maxRecDepth 100000 in
set_option maxHeartbeats 1600000 in
theorem rdid_any (base r : Nat) (X : RDS) (w : World) (h : RW w base r X) :
    Calls Try.prog 53 #[.pointer (some ⟨r, 0, none⟩)] w (RetDid base r X w) := by
  have hc := h.cell
  unfold rdcells at hc
  have c2 : w.cell? ⟨r, 2, none⟩ = some (.int .i64 X.left) := hc.cell 2
  have f2 := hc.free 2
  have hl := h.left
  have H := Lib.hid h
  clear hc h
  by_cases h0 : 0 < X.left
  · have e : Hid (didX X = { X with left := X.left - 1 }) := by show _ = _; unfold didX; rw [if_pos h0]
    have q0 : decide (0 < X.left) = true := decide_eq_true h0
    have HK := Lib.hid (H.out.set_left (X.left - 1) (by omega) (by omega))
    have hw : IntKind.i64.wrap (X.left - 1) = X.left - 1 := IntWalk.i64_in _ ⟨by omega, by omega⟩
    generalize X.left = L at *
    go_enter Try.func53, Try.ntmps53
    go_wp2_with fail
    go_ret
    exact ⟨rfl, by rw [e.out]; exact HK.out.1, HK.out.2⟩
  · have e : Hid (didX X = X) := by show _ = _; unfold didX; rw [if_neg h0]
    have q0 : decide (0 < X.left) = false := decide_eq_false h0
    clear h0
    go_enter Try.func53, Try.ntmps53
    go_wp2_with fail
    go_ret
    exact ⟨rfl, by rw [e.out]; exact H.out, Turn.refl _ _⟩
theorem rused_step {L : List RFE} {i : Nat} {f : RFE} (h : L[i]? = some f) : ((L.drop i).map fun f => f.b.length).sum = f.b.length + ((L.drop (i + 1)).map fun f => f.b.length).sum := by
  obtain ⟨h1, e⟩ := List.getElem?_eq_some_iff.1 h
  rw [List.drop_eq_getElem_cons h1, e]
  simp
set_option maxRecDepth 100000 in
set_option maxHeartbeats 1600000 in
theorem rused_any (base r : Nat) (X : RDS) (w : World) (h : RW w base r X) :
    Calls Try.prog 47 #[.pointer (some ⟨r, 0, none⟩)] w (RetS (.int .i64 (X.used : Int)) w) := by
  have hc := h.cell
  unfold rdcells RDS.v at hc
  have c1 : w.cell? ⟨r, 1, none⟩ = some (.slice X.A X.L.length X.c) := hc.cell 1
  have H := Lib.hid h
  obtain ⟨hcap, hcm⟩ := h.cap
  have hfew := h.few
  have hro := h.room
  have HU : Hid (X.used = 0 + ((X.L.drop 0).map fun f => f.b.length).sum) := by show _ = _; simp [RDS.used]
  obtain ⟨n, hn⟩ : ∃ n, n = X.L.length := ⟨_, rfl⟩
  have HN := Lib.hid hn
  rw [← hn] at c1 hcap hfew
  generalize X.used = U at *
  clear hc h hn
  go_enter Try.func47, Try.ntmps47
  go_wp2_with fail
  go_loop [3, 4] (fun s3 s4 => ∃ i t : Nat, i ≤ n ∧ s4 = .int .i64 (i : Int) ∧ s3 = .int .i64 (t : Int) ∧ Hid (U = t + ((X.L.drop i).map fun f => f.b.length).sum)) (fun s3 s4 => n - (intOf s4).toNat)
  case atStart => exact ⟨0, 0, Nat.zero_le _, rfl, rfl, HU.out⟩
  case round =>
    obtain ⟨i, t, hi, rfl, rfl, HI⟩ := hrel
    by_cases hlt : i < n
    · obtain ⟨g, f, hA, hg, hf, hm, k0, k1, k2, hfr, _, _⟩ := H.out.at_ (show i < X.L.length by rw [← HN.out]; exact hlt)
      have hst := rused_step hf
      have HI2 : Hid (U = (t + f.b.length) + ((X.L.drop (i + 1)).map fun f => f.b.length).sum) := by show _ = _; rw [HI.out, hst]; omega
      have hle : t + f.b.length ≤ 1073741824 := by have := HI2.out; omega
      clear hst hfr hf HI k0 k2
      rw [hA] at c1
      generalize f.b.length = m at *
      go_wp2_with fail
      go_round
      case rel => exact ⟨i + 1, t + m, by omega, by go_num, by go_num, HI2.out⟩
      case measure => simp [intOf]; omega
    · have HI2 : Hid (U = t) := by show _ = _; rw [HI.out, List.drop_of_length_le (by rw [← HN.out]; omega)]; simp
      have q3 : decide ((i : Int) < (n : Int)) = false := decide_eq_false (by omega)
      clear HI
      go_wp2_with fail
      go_ret
      exact ⟨ret_i (by rw [HI2.out]), rfl⟩
set_option maxRecDepth 100000 in
set_option maxHeartbeats 1600000 in
theorem rfuse_any (base r : Nat) (X : RDS) (w : World) (h : RW w base r X) (n : Int) (h1 : -9223372036854775808 ≤ n) (h2 : n ≤ 9223372036854775807) :
    Calls Try.prog 43 #[.pointer (some ⟨r, 0, none⟩), .int .i64 n] w (fun e w' => e = .returned (.tuple #[]) ∧ RW w' base r { X with left := if -1 < n then n else -1 } ∧ Turn (X.bl r) w w') := by
  have hc := h.cell
  unfold rdcells at hc
  have c2 : w.cell? ⟨r, 2, none⟩ = some (.int .i64 X.left) := hc.cell 2
  have f2 := hc.free 2
  have H := Lib.hid h
  clear hc h
  by_cases hn : -1 < n
  · have HK := Lib.hid (H.out.set_left n (by omega) h2)
    have HN := Lib.hid hn
    go_enter Try.func43, Try.ntmps43
    go_wp2_with fail
    go_end0
    exact ⟨rfl, HK.out⟩
  · have HK := Lib.hid (H.out.set_left (-1) (by omega) (by omega))
    have HN := Lib.hid hn
    go_enter Try.func43, Try.ntmps43
    go_wp2_with fail
    go_end0
    exact ⟨rfl, HK.out⟩
def rnewX (room : Nat) : RDS := ⟨room, -1, none, 0, []⟩
set_option maxRecDepth 100000 in
set_option maxHeartbeats 1600000 in
theorem rnew_any (room : Nat) (hr : room ≤ 1073741824) (w : World) :
    Calls Try.prog 23 #[.int .i64 (room : Int)] w (fun e w' => ∃ r, e = .returned (.tuple #[.pointer (some ⟨r, 0, none⟩), .int .i64 0]) ∧ RW w' w.heap.size r (rnewX room) ∧ Below w.heap.size w w') := by
  have q1 : decide ((room : Int) < 0) = false := decide_eq_false (by omega)
  have q2 : decide (1073741824 < (room : Int)) = false := decide_eq_false (by omega)
  go_enter Try.func23, Try.ntmps23
  go_wp2_with fail
  go_ret2
  refine ⟨_, rfl, ⟨Blk.new w _ _, World.ownsRow_nil _ _ _ _, fun f hf => by simp [rnewX] at hf, fun i hi => ?_, ⟨by simp [rnewX, RDS.used], hr⟩, by simp [rnewX], by simp [rnewX]⟩, below_refl_alloc _ _⟩
  have : i = w.heap.size := by simpa [RDS.bl, rnewX, RDS.v, Value.ownBlock] using hi
  simp; omega
set_option maxRecDepth 100000 in
set_option maxHeartbeats 1600000 in
theorem rnew_bad (room : Int) (hr : room < 0 ∨ 1073741824 < room) (w : World) :
    Calls Try.prog 23 #[.int .i64 room] w (RetS (.tuple #[.pointer none, .int .i64 1]) w) := by
  rcases hr with hr | hr
  · have q1 : decide (room < 0) = true := decide_eq_true (by omega)
    go_enter Try.func23, Try.ntmps23
    go_wp2_with fail
    go_ret2
    exact ⟨rfl, rfl⟩
  · have q1 : decide (room < 0) = false := decide_eq_false (by omega)
    have q2 : decide (1073741824 < room) = true := decide_eq_true (by omega)
    go_enter Try.func23, Try.ntmps23
    go_wp2_with fail
    go_ret2
    exact ⟨rfl, rfl⟩
set_option maxRecDepth 100000 in
set_option maxHeartbeats 1600000 in
theorem new_bad (room : Int) (hr : room < 0 ∨ 1073741824 < room) (w : World) :
    Calls Try.prog 10 #[.int .i64 room] w (RetS (.tuple #[.pointer none, .int .i64 1]) w) := by
  rcases hr with hr | hr
  · have q1 : decide (room < 0) = true := decide_eq_true (by omega)
    go_enter Try.func10, Try.ntmps10
    go_wp2_with fail
    go_ret2
    exact ⟨rfl, rfl⟩
  · have q1 : decide (room < 0) = false := decide_eq_false (by omega)
    have q2 : decide (1073741824 < room) = true := decide_eq_true (by omega)
    go_enter Try.func10, Try.ntmps10
    go_wp2_with fail
    go_ret2
    exact ⟨rfl, rfl⟩
end Go.Proofs.Ytcoimlenejffpaa
