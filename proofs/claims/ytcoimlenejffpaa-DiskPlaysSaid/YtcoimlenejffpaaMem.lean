/- Append of bytes onto a row of the call's own, over this seat's program. -/
import Derived.Test.YtcoimlenejffpaaCore
namespace Go.Proofs.Ytcoimlenejffpaa
set_option linter.all false
open Go.RowKit
/-! ### append of bytes -/
theorem infoU8 : (Try.prog.info? 5).map (fun i => (i.zero, i.size, i.bytes)) = some (some (.int .u8 0), 1, 1) := by kernel_rfl
theorem wpB_append {ops : Array Oper} {rest : List Oper} {o : Oper} {a : Act} {Q : Exit → Act → World → Prop} {w : World} (hgd : o.guard = none) (s x : Operand)
    (ho : o.op = .call { callee := .builtin .append, args := #[s, x], argTypes := #[23, 23] })
    (base : Nat) (v : Value) (n : Nat) (l : List UInt8) (hs : a.eval s = v) (hown : w.ownsRow base 5 1 v n (l.map bv))
    (B : Nat) (A : Option Addr) (m c : Nat) (l' : List UInt8) (hx : a.eval x = .slice A m c) (hr : Bs w B A m l')
    (N : Nat) (L : List UInt8) (hN : N = n + m) (hL : L = l ++ l') (hsm : N ≤ 140737488355328) (hbase : base ≤ w.heap.size)
    (h : ∀ A' c' w', w'.ownsRow base 5 1 (.slice A' N c') N (L.map bv) → Below base w w' → N ≤ c' → c' ≤ 9223372036854775807 → wpList Try.prog ops Q rest (a.put o.dst (.slice A' N c')) w') : wpList Try.prog ops Q (o :: rest) a w := by
  subst hN
  subst hL
  obtain ⟨i0, hi, hz0, hz1, hz2⟩ := info_parts infoU8
  refine wpList_append_rd w hgd s x _ ho base 5 i0 _ 1 1 Try.underlying23 hi hz0 hz1 hz2 rfl (by omega) v n _ hs hown B A m c _ hx hr (bv_one _) (by simp only [maxLen]; omega) (by omega) hbase ?_
  rw [List.map_append] at h
  intro A' c' w' h1 h2
  exact h A' c' w' h1 h2 (own_cap h1).1 (own_cap h1).2
end Go.Proofs.Ytcoimlenejffpaa
