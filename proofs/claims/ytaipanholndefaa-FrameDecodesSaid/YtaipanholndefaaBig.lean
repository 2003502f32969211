/- Big, Short, ReadBig, ReadShort of octet and of the reference. -/
import Derived.Test.YtaipanholndefaaMem
import Derived.Test.YtaipanholndefaaBigp
import Derived.Deep.QuietTactic
import Derived.BigQuiet
namespace Go.Proofs.Ytaipanholndefaa
set_option linter.all false
open Go.RowKit
/-- Behind a reader of numbers: the value, the error. -/
def RetN (k : IntKind) (r : Nat × Nat) (w : World) (e : Ending) (w' : World) : Prop :=
  e = .returned (.tuple #[.int k (r.1 : Int), .int .i64 (r.2 : Int)]) ∧ Below w.heap.size w w'
theorem tup2u {k1 k2 : IntKind} {a b : Int} {r r' : Nat × Nat} (hr : r = r') (h1 : a = r'.1) (h2 : b = r'.2) :
    Ending.returned (.tuple #[.int k1 a, .int k2 b]) = Ending.returned (.tuple #[.int k1 r.1, .int k2 r.2]) := by rw [hr, h1, h2]
theorem bs_four {w : World} {B n : Nat} {A : Option Addr} {l t : List UInt8} {x y z u : UInt8} (h : Bs w B A n l) (hl : l = x :: y :: z :: u :: t) :
    ∃ g off, A = some ⟨g, off, none⟩ ∧ w.cell? ⟨g, off, none⟩ = some (.int .u8 (x.toNat : Int)) ∧ w.cell? ⟨g, off + 1, none⟩ = some (.int .u8 (y.toNat : Int)) ∧ w.cell? ⟨g, off + 2, none⟩ = some (.int .u8 (z.toNat : Int)) ∧ w.cell? ⟨g, off + 3, none⟩ = some (.int .u8 (u.toNat : Int)) := by
  subst hl
  have hn := h.1
  obtain ⟨g, off, hA, _, hc⟩ := h.2 (by simp at hn; omega)
  exact ⟨g, off, hA, hc 0 _ rfl, hc 1 _ rfl, hc 2 _ rfl, hc 3 _ rfl⟩

set_option maxHeartbeats 800000 in
theorem ors_any (A1 : Option Addr) (n1 c1 : Nat) (l1 : List UInt8) (w : World) (h1 : Bs w w.heap.size A1 n1 l1) (m1 : n1 ≤ 9223372036854775807) :
    Calls Try.prog 29 #[.slice A1 n1 c1] w (RetN .u32 (rs l1) w) := by
  have e1 := h1.len
  by_cases hn : n1 < 4
  · have HR := Lib.hid (rs_short (l := l1) (by omega))
    go_enter Try.func29, Try.ntmps29
    go_wp2
    go_ret2
    exact ⟨tup2u HR.out rfl rfl, Below.refl _ _⟩
  · obtain ⟨x, y, z, u, t, hl⟩ := four_of (l := l1) (by omega)
    obtain ⟨g, off, hA, hc⟩ := bs_four h1 hl
    subst hA
    obtain ⟨hx, hy, hz, hu⟩ := hc
    have HL := Lib.hid hl
    have bx := x.toNat_lt
    have bY := y.toNat_lt
    have bz := z.toNat_lt
    have bu := u.toNat_lt
    have HO := Lib.hid (or_four x y z u)
    clear hl h1 e1
    go_enter Try.func29, Try.ntmps29
    go_wp2
    go_quiet (fail)
    go_wp2
    go_ret2
    exact ⟨tup2u (by rw [HL.out]) HO.out rfl, below_drewN (Below.refl _ _) _⟩
set_option maxHeartbeats 800000 in
theorem rrs_any (A1 : Option Addr) (n1 c1 : Nat) (l1 : List UInt8) (w : World) (h1 : Bs w w.heap.size A1 n1 l1) (m1 : n1 ≤ 9223372036854775807) :
    Calls Try.prog 30 #[.slice A1 n1 c1] w (RetN .u32 (rs l1) w) := by
  have e1 := h1.len
  by_cases hn : n1 < 4
  · have HR := Lib.hid (rs_short (l := l1) (by omega))
    go_enter Try.func30, Try.ntmps30
    go_wp2
    go_ret2
    exact ⟨tup2u HR.out rfl rfl, Below.refl _ _⟩
  · obtain ⟨x, y, z, u, t, hl⟩ := four_of (l := l1) (by omega)
    obtain ⟨g, off, hA, hc⟩ := bs_four h1 hl
    subst hA
    obtain ⟨hx, hy, hz, hu⟩ := hc
    have HL := Lib.hid hl
    have bx := x.toNat_lt
    have bY := y.toNat_lt
    have bz := z.toNat_lt
    have bu := u.toNat_lt
    have HO := Lib.hid (or_four x y z u)
    clear hl h1 e1
    go_enter Try.func30, Try.ntmps30
    go_wp2
    go_quiet (fail)
    go_wp2
    go_ret2
    exact ⟨tup2u (by rw [HL.out]) HO.out rfl, below_drewN (Below.refl _ _) _⟩
set_option maxHeartbeats 800000 in
theorem osh_any (v : Nat) (hv : v < 4294967296) (w : World) :
    Calls Try.prog 33 #[.int .u32 (v : Int)] w (RetOwn 5 1 4 ((short v).map bv) w) := by
  go_enter Try.func33, Try.ntmps33
  go_wp2
  go_ret
  have e : ∀ k : Nat, bv (b8 k) = .int .u8 ((k : Int) % 256) := fun k => by
    unfold bv b8; rw [UInt8.toNat_ofNat']; congr 1
  refine ⟨some ⟨w.heap.size, 0, none⟩, 4, rfl, ?_, (Below.refl _ _).alloc (Nat.le_refl _) _, by omega, by omega⟩
  have := World.ownsRow_lit (base := w.heap.size) (e := 5) (size := 1) w ((short v).map bv).toArray 4 (Nat.le_refl _) (by simp [maxLen]) rfl
  refine Eq.mp ?_ this
  congr 4
  simp only [short, List.map_cons, List.map_nil, e]
  have e1 : ((v / 16777216 : Nat) : Int) % 256 = (v : Int) / 16777216 := by omega
  have e2 : ((v / 65536 : Nat) : Int) = (v : Int) / 65536 := by omega
  have e3 : ((v / 256 : Nat) : Int) = (v : Int) / 256 := by omega
  rw [e1, e2, e3]
set_option maxHeartbeats 800000 in
theorem rsh_any (v : Nat) (hv : v < 4294967296) (w : World) :
    Calls Try.prog 34 #[.int .u32 (v : Int)] w (RetOwn 5 1 4 ((short v).map bv) w) := by
  go_enter Try.func34, Try.ntmps34
  go_wp2
  go_ret
  have e : ∀ k : Nat, bv (b8 k) = .int .u8 ((k : Int) % 256) := fun k => by
    unfold bv b8; rw [UInt8.toNat_ofNat']; congr 1
  refine ⟨some ⟨w.heap.size, 0, none⟩, 4, rfl, ?_, (Below.refl _ _).alloc (Nat.le_refl _) _, by omega, by omega⟩
  have := World.ownsRow_lit (base := w.heap.size) (e := 5) (size := 1) w ((short v).map bv).toArray 4 (Nat.le_refl _) (by simp [maxLen]) rfl
  refine Eq.mp ?_ this
  congr 4
  simp only [short, List.map_cons, List.map_nil, e]
  have e1 : ((v / 16777216 : Nat) : Int) % 256 = (v : Int) / 16777216 := by omega
  have e2 : ((v / 65536 : Nat) : Int) = (v : Int) / 65536 := by omega
  have e3 : ((v / 256 : Nat) : Int) = (v : Int) / 256 := by omega
  rw [e1, e2, e3]
set_option maxHeartbeats 800000 in
theorem orb_any (A1 : Option Addr) (n1 c1 : Nat) (l1 : List UInt8) (w : World) (h1 : Bs w w.heap.size A1 n1 l1) (hnc : n1 ≤ c1) (m1 : c1 ≤ 9223372036854775807) :
    Calls Try.prog 27 #[.slice A1 n1 c1] w (RetN .u64 (rb l1) w) := by
  have e1 := h1.len
  by_cases hn : n1 < 8
  · have HR := Lib.hid (rb_short (l := l1) (by omega))
    go_enter Try.func27, Try.ntmps27
    go_wp2
    go_ret2
    exact ⟨tup2u HR.out rfl rfl, Below.refl _ _⟩
  · obtain ⟨g, off, b, hA, _⟩ := Bs.at_ h1 (k := 0) (by omega)
    subst hA
    have HR := Lib.hid (rb_long (l := l1) (by omega))
    have h4 : Bs w w.heap.size (some ⟨g, off + 4, none⟩) (n1 - 4) (l1.drop 4) := by
      have := Bs.cut h1 (k := 4) (cap := c1) (by omega) hnc
      rwa [if_neg (by omega), Option.map_some, add_mk] at this
    have q1 := rs_lt l1
    have q2 := rs_lt (l1.drop 4)
    have HO := Lib.hid (or64_join _ _ q1 q2)
    go_enter Try.func27, Try.ntmps27
    go_wp2_with fail
    refine (ors_any _ n1 c1 l1 _ h1 (by omega)).mono ?_
    rintro e w1 ⟨rfl, b1⟩
    go_wp2_with fail
    refine (ors_any _ (n1 - 4) (c1 - 4) (l1.drop 4) _ (h4.upto b1 b1.size) (by omega)).mono ?_
    rintro e w2 ⟨rfl, b2⟩
    go_wp2
    go_ret2
    exact ⟨tup2u HR.out HO.out rfl, b1.trans (b2.mono b1.size)⟩
set_option maxHeartbeats 800000 in
theorem rrb_any (A1 : Option Addr) (n1 c1 : Nat) (l1 : List UInt8) (w : World) (h1 : Bs w w.heap.size A1 n1 l1) (hnc : n1 ≤ c1) (m1 : c1 ≤ 9223372036854775807) :
    Calls Try.prog 28 #[.slice A1 n1 c1] w (RetN .u64 (rb l1) w) := by
  have e1 := h1.len
  by_cases hn : n1 < 8
  · have HR := Lib.hid (rb_short (l := l1) (by omega))
    go_enter Try.func28, Try.ntmps28
    go_wp2
    go_ret2
    exact ⟨tup2u HR.out rfl rfl, Below.refl _ _⟩
  · obtain ⟨g, off, b, hA, _⟩ := Bs.at_ h1 (k := 0) (by omega)
    subst hA
    have HR := Lib.hid (rb_long (l := l1) (by omega))
    have h4 : Bs w w.heap.size (some ⟨g, off + 4, none⟩) (n1 - 4) (l1.drop 4) := by
      have := Bs.cut h1 (k := 4) (cap := c1) (by omega) hnc
      rwa [if_neg (by omega), Option.map_some, add_mk] at this
    have q1 := rs_lt l1
    have q2 := rs_lt (l1.drop 4)
    have HO := Lib.hid (or64_join _ _ q1 q2)
    go_enter Try.func28, Try.ntmps28
    go_wp2_with fail
    refine (rrs_any _ n1 c1 l1 _ h1 (by omega)).mono ?_
    rintro e w1 ⟨rfl, b1⟩
    go_wp2_with fail
    refine (rrs_any _ (n1 - 4) (c1 - 4) (l1.drop 4) _ (h4.upto b1 b1.size) (by omega)).mono ?_
    rintro e w2 ⟨rfl, b2⟩
    go_wp2
    go_ret2
    exact ⟨tup2u HR.out HO.out rfl, b1.trans (b2.mono b1.size)⟩
set_option maxHeartbeats 800000 in
theorem obig_any (v : Nat) (hv : v < 18446744073709551616) (w : World) :
    Calls Try.prog 31 #[.int .u64 (v : Int)] w (RetOwn 5 1 8 ((big v).map bv) w) := by
  have k1 : (v : Int) / 4294967296 = ((v / 4294967296 : Nat) : Int) := by omega
  have k2 : (v : Int) % 4294967296 = ((v % 4294967296 : Nat) : Int) := by omega
  have K1 := Lib.hid k1
  have K2 := Lib.hid k2
  clear k1 k2
  go_enter Try.func31, Try.ntmps31
  go_wp2_with fail
  rw [K1.out]
  refine (osh_any (v / 4294967296) (by omega) _).mono ?_
  rintro e w1 ⟨A1, c1, rfl, o1, b1, hc1, hm1⟩
  go_wp2_with fail
  rw [K2.out]
  refine (osh_any (v % 4294967296) (by omega) _).mono ?_
  rintro e w2 ⟨A2, c2, rfl, o2, b2, hc2, hm2⟩
  have r2 := Rd.of_own o2
  go_wp2_with (first
    | (at_builtin
       refine wpB_append rfl (.tmp 6) (.tmp 9) rfl w.heap.size _ 4 (short (v / 4294967296)) rfl (own_below o1 b2) w2.heap.size A2 4 c2 (short (v % 4294967296)) rfl r2 8 (big v) rfl rfl (by omega) (by have := b1.size; have := b2.size; omega) ?_
       intro A3 c3 w3 o3 b3 hc3 hm3))
  go_ret
  exact ⟨A3, c3, rfl, o3, (b1.trans (b2.mono b1.size)).trans b3, hc3, hm3⟩
set_option maxHeartbeats 800000 in
theorem rbig_any (v : Nat) (hv : v < 18446744073709551616) (w : World) :
    Calls Try.prog 32 #[.int .u64 (v : Int)] w (RetOwn 5 1 8 ((big v).map bv) w) := by
  have k1 : (v : Int) / 4294967296 = ((v / 4294967296 : Nat) : Int) := by omega
  have k2 : (v : Int) % 4294967296 = ((v % 4294967296 : Nat) : Int) := by omega
  have K1 := Lib.hid k1
  have K2 := Lib.hid k2
  clear k1 k2
  go_enter Try.func32, Try.ntmps32
  go_wp2_with fail
  rw [K1.out]
  refine (rsh_any (v / 4294967296) (by omega) _).mono ?_
  rintro e w1 ⟨A1, c1, rfl, o1, b1, hc1, hm1⟩
  go_wp2_with fail
  rw [K2.out]
  refine (rsh_any (v % 4294967296) (by omega) _).mono ?_
  rintro e w2 ⟨A2, c2, rfl, o2, b2, hc2, hm2⟩
  have r2 := Rd.of_own o2
  go_wp2_with (first
    | (at_builtin
       refine wpB_append rfl (.tmp 6) (.tmp 9) rfl w.heap.size _ 4 (short (v / 4294967296)) rfl (own_below o1 b2) w2.heap.size A2 4 c2 (short (v % 4294967296)) rfl r2 8 (big v) rfl rfl (by omega) (by have := b1.size; have := b2.size; omega) ?_
       intro A3 c3 w3 o3 b3 hc3 hm3))
  go_ret
  exact ⟨A3, c3, rfl, o3, (b1.trans (b2.mono b1.size)).trans b3, hc3, hm3⟩
end Go.Proofs.Ytaipanholndefaa
