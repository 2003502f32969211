/- scrivenerref6: what the walks of Add, Sub, Mul keep. -/
import Derived.Test.YtfcbcbpnlnkpcaaDoorQLawp6
import Derived.Test.YtfcbcbpnlnkpcaaDoorQRdec
import Derived.Test.YtfcbcbpnlnkpcaaDoorQRdecLeast
import Derived.WalkKit
import Derived.Deep.RegionHeld3
import Derived.Deep.DeepCutAuto
namespace Go.Proofs.YtfcbcbpnlnkpcaaDoor
set_option linter.all false
open Go.RowKit
/-- The two boxes, the result's cell; what was there is as it was. -/
def Fr (w : World) (c1 c2 : Array Value) (wx : World) : Prop :=
  Below w.heap.size w wx ∧ Blk wx w.heap.size c1 25 ∧ Blk wx (w.heap.size + 1) c2 25 ∧
  Blk wx (w.heap.size + 1 + 1) #[.int .i64 0, .int .i64 0, .int .i64 0, .string ⟨#[]⟩, .slice none 0 0, .slice none 0 0] 25
theorem Fr.step {w wx wy : World} {c1 c2 : Array Value} (h : Fr w c1 c2 wx) (b : Below wx.heap.size wx wy) : Fr w c1 c2 wy :=
  ⟨h.1.trans (b.mono h.1.size), h.2.1.below b h.2.1.lt, h.2.2.1.below b h.2.2.1.lt, h.2.2.2.below b h.2.2.2.lt⟩
theorem Fr.drew {w wx : World} {c1 c2 : Array Value} (h : Fr w c1 c2 wx) : Fr w c1 c2 wx.drew := ⟨⟨h.1.os, h.1.tape, h.1.output, h.1.size, h.1.block⟩, h.2.1, h.2.2.1, h.2.2.2⟩
theorem Fr.lt {w wx : World} {c1 c2 : Array Value} (h : Fr w c1 c2 wx) : w.heap.size + 1 + 1 < wx.heap.size := h.2.2.2.lt
theorem Fr.set {w wx : World} {c1 c2 : Array Value} (h : Fr w c1 c2 wx) {g : Nat} (hg : w.heap.size + 1 + 1 < g) (o : Nat) (v : Value) : Fr w c1 c2 (wx.setCell ⟨g, o, none⟩ v) :=
  ⟨h.1.setCell (by show _ ≤ g; omega) _, h.2.1.set_other o v (by omega), h.2.2.1.set_other o v (by omega), h.2.2.2.set_other o v (by omega)⟩
theorem Fr.six1 {w wx : World} {n : Nd} {An : Option Addr} {cn : Nat} {Ak : Option Addr} {kl ck : Nat} {c2 : Array Value} (h : Fr w (ncells n An cn Ak kl ck).toArray c2 wx) : Six0 wx w.heap.size n An cn Ak kl ck := h.2.1.six
theorem Fr.six2 {w wx : World} {n : Nd} {An : Option Addr} {cn : Nat} {Ak : Option Addr} {kl ck : Nat} {c1 : Array Value} (h : Fr w c1 (ncells n An cn Ak kl ck).toArray wx) : Six0 wx (w.heap.size + 1) n An cn Ak kl ck := h.2.2.1.six
theorem ten_ret (x : Int) (h0 : 0 ≤ x) (h1 : x ≤ 18) (w : World) : Calls Tryd.prog 41 #[.int .i64 x] w (Ret (.int .u64 ((10 ^ x.toNat : Nat) : Int)) w) :=
  (rtenI_any x h0 (by omega) w).mono fun e w' ⟨a, b⟩ => ⟨a, by rw [← b]; exact Below.refl _ _⟩
theorem abs_ret (n : Int) (hn : I64 n) (w : World) : Calls Tryd.prog 44 #[.int .i64 n] w (Ret (.int .u64 (n.natAbs : Int)) w) :=
  (rabs_any n hn w).mono fun e w' ⟨a, b⟩ => ⟨a, by rw [← b]; exact Below.refl _ _⟩
/-- A product of a number and a power of ten, as a wide number. -/
theorem by_wide (x : Bool) (l p : Nat) (hl : l ≤ 9223372036854775808) (hp : p ≤ 1000000000000000000) : ∃ A B : Nat, WideIs (.agg #[.int .u64 A, .int .u64 B, .bool x]) (sg x (l * p)) ∧ (sg x (l * p)).natAbs < 170141183460469231731687303715884105728 ∧
    ∀ w, Calls Tryd.prog 40 #[.agg #[.int .u64 0, .int .u64 l, .bool x], .int .u64 p] w (Ret (.tuple #[.agg #[.int .u64 A, .int .u64 B, .bool x], .bool true]) w) := by
  have h : l * p ≤ 9223372036854775808 * 1000000000000000000 := Nat.mul_le_mul hl hp
  refine ⟨l * p / 18446744073709551616, l * p % 18446744073709551616, ⟨l * p / 18446744073709551616, l * p % 18446744073709551616, x, rfl, by omega, by omega, by congr 1; omega⟩, by rw [sg_nat]; omega, fun w => by_any l p x (by omega) (by omega) w⟩
theorem pow_le18 {t : Nat} (h : t ≤ 18) : 10 ^ t ≤ 1000000000000000000 := by
  have : 10 ^ t ≤ 10 ^ 18 := Nat.pow_le_pow_right (by omega) h
  simpa using this
end Go.Proofs.YtfcbcbpnlnkpcaaDoor
