/- Values in boxes of the law's own: any number of them. -/
import Derived.Test.YtfcbcbpnlnkpcaaQBase
import Derived.Test.YtfcbcbpnlnkpcaaQCloneV
import Derived.Test.YtfcbcbpnlnkpcaaQGreat
namespace Go.Proofs.Ytfcbcbpnlnkpcaa
set_option linter.all false
open Go.RowKit
/-- A box: its block, and the value in it. -/
structure BP where
  g : Nat
  n : Nd
  k : F
  An : Option Addr
  cn : Nat
  Ak : Option Addr
  ck : Nat
def BP.val (b : BP) : Value := .agg (ncells b.n b.An b.cn b.Ak b.k.len b.ck).toArray
def Bx (wr : World) (b : BP) : Prop := Blk wr b.g (ncells b.n b.An b.cn b.Ak b.k.len b.ck).toArray 25 ∧ Vo wr (· < wr.heap.size) b.n b.k b.val
theorem Bx.step {wr wr' : World} {b : BP} (h : Bx wr b) (hb : Below wr.heap.size wr wr') : Bx wr' b := ⟨h.1.below hb h.1.lt, h.2.upto hb⟩
theorem Bx.same {wr wr' : World} {b : BP} (h : Bx wr b) (hb : wr'.heap = wr.heap) : Bx wr' b :=
  ⟨by have := h.1; unfold Blk at *; rw [hb]; exact this, h.2.keep (fun _ _ => by rw [hb]) (fun i hi => by rw [hb]; exact hi)⟩
/-- What stands in a law: what was there is there; values in boxes. -/
def St (w : World) (L : List BP) (wr : World) : Prop := Below w.heap.size w wr ∧ w.heap.size ≤ wr.heap.size ∧ ∀ (i : Nat) (b : BP), L[i]? = some b → Bx wr b
theorem St.step {w wr wr' : World} {L : List BP} (h : St w L wr) (b : Below wr.heap.size wr wr') : St w L wr' :=
  ⟨h.1.trans (b.mono h.2.1), Nat.le_trans h.2.1 b.size, fun i x hx => (h.2.2 i x hx).step b⟩
theorem St.drew {w wr : World} {L : List BP} (h : St w L wr) : St w L wr.drew :=
  ⟨⟨h.1.os, h.1.tape, h.1.output, h.1.size, h.1.block⟩, h.2.1, fun i x hx => (h.2.2 i x hx).same rfl⟩
theorem St.drewN {w wr : World} {L : List BP} (h : St w L wr) (n : Nat) : St w L (wr.drewN n) :=
  ⟨below_drewN h.1 _, h.2.1, fun i x hx => (h.2.2 i x hx).same rfl⟩
theorem St.box {w wr : World} {L : List BP} (h : St w L wr) (i : Nat) {b : BP} (hb : L[i]? = some b) : Bx wr b := h.2.2 i b hb
theorem St.six {w wr : World} {L : List BP} (h : St w L wr) (i : Nat) {b : BP} (hb : L[i]? = some b) : Six0 wr b.g b.n b.An b.cn b.Ak b.k.len b.ck := (h.box i hb).1.six
theorem St.v {w wr : World} {L : List BP} (h : St w L wr) (i : Nat) {b : BP} (hb : L[i]? = some b) : Vo wr (· < wr.heap.size) b.n b.k b.val := (h.box i hb).2
theorem St.lt {w wr : World} {L : List BP} (h : St w L wr) (i : Nat) {b : BP} (hb : L[i]? = some b) : b.g < wr.heap.size := (h.box i hb).1.lt
theorem St.nil (w : World) : St w [] w := ⟨Below.refl _ _, Nat.le_refl _, fun i b h => by simp at h⟩
/-- One box more. -/
theorem St.snoc {w wr wr' : World} {L : List BP} (h : St w L wr) (hb : Below wr.heap.size wr wr') {b : BP} (hx : Bx wr' b) : St w (L ++ [b]) wr' := by
  refine ⟨(h.step hb).1, (h.step hb).2.1, fun i x hi => ?_⟩
  rcases Nat.lt_or_ge i L.length with h1 | h1
  · rw [List.getElem?_append_left h1] at hi
    exact (h.step hb).2.2 i x hi
  · rw [List.getElem?_append_right h1] at hi
    have : i - L.length = 0 := by
      rcases Nat.eq_zero_or_pos (i - L.length) with h0 | h0
      · exact h0
      · rw [List.getElem?_eq_none (by simp; omega)] at hi; cases hi
    rw [this] at hi
    injection hi with hi
    subst hi
    exact hx
/-- A parameter that the callee boxes. -/
theorem St.box_new {w wr : World} {L : List BP} (h : St w L wr) {n : Nd} {k : F} {An : Option Addr} {cn : Nat} {Ak : Option Addr} {ck : Nat} (hv : Vo w (· < w.heap.size) n k (.agg (ncells n An cn Ak k.len ck).toArray)) :
    St w (L ++ [⟨wr.heap.size, n, k, An, cn, Ak, ck⟩]) (wr.alloc (.cells (ncells n An cn Ak k.len ck).toArray 25)) := by
  have hb : Below wr.heap.size wr (wr.alloc (.cells (ncells n An cn Ak k.len ck).toArray 25)) := (Below.refl _ _).alloc (Nat.le_refl _) _
  have h2 := (h.step hb)
  refine h.snoc hb ⟨Blk.new wr _ _, hv.keep (fun b hbb => h2.1.block b hbb) (fun b hbb => Nat.lt_of_lt_of_le hbb h2.2.1)⟩
theorem Vo.kc {w : World} {S : Nat → Prop} {n : Nd} {k r : F} {An : Option Addr} {cn : Nat} {Ak : Option Addr} {ck : Nat} {cs : List Value} (h : Vo w S n k (.agg (ncells n An cn Ak k.len ck).toArray)) (hr : Kc w S r cs) :
    Kc w S (.cons n k r) (ncells n An cn Ak k.len ck ++ cs) := by
  obtain ⟨Bn, dn, Bk, dk, e, hok, h1, h2, hn, ks, hrr, hk⟩ := h
  have e' : ncells n An cn Ak k.len ck = ncells n Bn dn Bk k.len dk := by simpa using e
  exact ⟨Bn, dn, Bk, dk, cs, ks, by rw [e'], hok, h1, h2, hn, hrr, hk, hr⟩
theorem kids_new {w : World} {S : Nat → Prop} {f : F} {cs : List Value} (h : Kc w S f cs) (hS : ∀ b, S b → b < w.heap.size) (T : TypeId) :
    Kids (w.alloc (.cells cs.toArray T)) (· < (w.alloc (.cells cs.toArray T)).heap.size) (some ⟨w.heap.size, 0, none⟩) f := by
  have hbl : ∀ b, S b → (w.alloc (.cells cs.toArray T)).heap[b]? = w.heap[b]? := fun b hb => ((Below.refl w.heap.size w).alloc (Nat.le_refl _) _).block b (hS b hb)
  refine ⟨cs, ⟨Kc.len f cs h, fun _ => ⟨w.heap.size, 0, rfl, by simp, fun j u hu => by rw [World.cell?_alloc_new]; simpa using hu⟩⟩, h.keep hbl (fun b hb => by have := hS b hb; simp; omega)⟩
end Go.Proofs.Ytfcbcbpnlnkpcaa
