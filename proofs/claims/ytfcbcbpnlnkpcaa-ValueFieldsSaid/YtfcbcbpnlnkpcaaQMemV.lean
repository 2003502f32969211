/- Append of texts, and of values, onto a row of the call's own, over this seat's program. -/
import Derived.Test.YtfcbcbpnlnkpcaaQBase
namespace Go.Proofs.Ytfcbcbpnlnkpcaa
set_option linter.all false
open Go.RowKit
theorem infoStr : (Try.prog.info? 9).map (fun i => (i.zero, i.size, i.bytes)) = some (some (.string ⟨#[]⟩), 1, 16) := by kernel_rfl
theorem infoVal : (Try.prog.info? 25).map (fun i => (i.zero, i.size, i.bytes)) = some (some (.agg #[.int .i64 0, .int .i64 0, .int .i64 0, .string ⟨#[]⟩, .slice none 0 0, .slice none 0 0]), 6, 88) := by kernel_rfl
theorem sv_one (l : List (List UInt8)) : ∀ u ∈ l.map sv, u.oneCell' = true := by
  intro u hu
  obtain ⟨b, _, rfl⟩ := List.mem_map.1 hu
  rfl
theorem ncells_one (n : Nd) (An : Option Addr) (cn : Nat) (Ak : Option Addr) (kl ck : Nat) : ∀ u ∈ ncells n An cn Ak kl ck, u.oneCell' = true := by
  intro u hu
  simp only [ncells, List.mem_cons, List.not_mem_nil, or_false] at hu
  rcases hu with rfl | rfl | rfl | rfl | rfl | rfl <;> rfl
section
variable {ops : Array Oper} {rest : List Oper} {o : Oper} {a : Act} {Q : Exit → Act → World → Prop} {w : World}
theorem wpS_append (hgd : o.guard = none) (s x : Operand)
    (ho : o.op = .call { callee := .builtin .append, args := #[s, x], argTypes := #[22, 22] })
    (base : Nat) (v : Value) (n : Nat) (l : List (List UInt8)) (hs : a.eval s = v) (hown : w.ownsRow base 9 1 v n (l.map sv))
    (B : Nat) (A : Option Addr) (m c : Nat) (l' : List (List UInt8)) (hx : a.eval x = .slice A m c) (hr : Rd w B 1 A m (l'.map sv))
    (N : Nat) (L : List (List UInt8)) (hN : N = n + m) (hL : L = l ++ l') (hsm : N ≤ 8796093022207) (hbase : base ≤ w.heap.size)
    (h : ∀ A' c' w', w'.ownsRow base 9 1 (.slice A' N c') N (L.map sv) → Below base w w' → N ≤ c' → c' ≤ 9223372036854775807 → wpList Try.prog ops Q rest (a.put o.dst (.slice A' N c')) w') : wpList Try.prog ops Q (o :: rest) a w := by
  subst hN
  subst hL
  obtain ⟨i0, hi, hz0, hz1, hz2⟩ := info_parts infoStr
  refine wpList_append_rd w hgd s x _ ho base 9 i0 _ 1 16 Try.underlying22 hi hz0 hz1 hz2 rfl (by omega) v n _ hs hown B A m c _ hx hr (sv_one _) (by simp only [maxLen]; omega) (by omega) hbase ?_
  rw [List.map_append] at h
  intro A' c' w' h1 h2
  exact h A' c' w' h1 h2 (own_cap h1).1 (own_cap h1).2
theorem wpV_append (hgd : o.guard = none) (s x : Operand)
    (ho : o.op = .call { callee := .builtin .append, args := #[s, x], argTypes := #[23, 23] })
    (base : Nat) (v : Value) (n : Nat) (xs : List Value) (hs : a.eval s = v) (hown : w.ownsRow base 25 6 v n xs)
    (B : Nat) (A : Option Addr) (m c : Nat) (news : List Value) (hx : a.eval x = .slice A m c) (hr : Rd w B 6 A m news) (h1 : ∀ u ∈ news, u.oneCell' = true)
    (N : Nat) (hN : N = n + m) (hsm : N ≤ 1000000000000) (hbase : base ≤ w.heap.size)
    (h : ∀ A' c' w', w'.ownsRow base 25 6 (.slice A' N c') N (xs ++ news) → w.grownBy w' v.ownBlock → ((Value.slice A' N c').ownBlock = v.ownBlock ∨ (Value.slice A' N c').ownBlock = some w.heap.size) → Below base w w' → N ≤ c' → c' ≤ 9223372036854775807 → wpList Try.prog ops Q rest (a.put o.dst (.slice A' N c')) w') : wpList Try.prog ops Q (o :: rest) a w := by
  subst hN
  obtain ⟨i0, hi, hz0, hz1, hz2⟩ := info_parts infoVal
  refine wpList_plain hgd fun K hK => ?_
  obtain ⟨v', w', hrun, h2, h3, h4⟩ := run_append_rd (P := Try.prog) w base _ o.type _ i0 _ 6 88 Try.underlying23 hi hz0 hz1 hz2 rfl (by omega) v n xs hown B A m c news hr h1 (by simp only [maxLen]; omega) (by omega) hbase
  obtain ⟨A', c', rfl, _, _⟩ := own_form h2
  unfold Oper.wp execOp
  simp only [ho, resolve, invoke, builtin, Sem.run_bind, Sem.run_pure, Result.andThen_ok, List.map_toArray, List.map_cons, List.map_nil, hs, hx, hrun]
  exact hK _ _ (h A' c' w' h2 h3 h4 ((Below.refl base w).grown h3 hbase (fun k hk => (hown.lt k hk).1)) (own_cap h2).1 (own_cap h2).2)
end
end Go.Proofs.Ytfcbcbpnlnkpcaa
