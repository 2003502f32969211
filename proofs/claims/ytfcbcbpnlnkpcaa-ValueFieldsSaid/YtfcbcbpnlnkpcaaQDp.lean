/- Values whose rows may be written over: what the law's spoilt asks, and what it leaves. -/
import Derived.Test.YtfcbcbpnlnkpcaaQGreat
import Derived.Test.YtfcbcbpnlnkpcaaQMemV
import Derived.Test.YtfcbcbpnlnkpcaaQBase
import Derived.Test.YtfcbcbpnlnkpcaaQCloneV
namespace Go.Proofs.Ytfcbcbpnlnkpcaa
set_option linter.all false
open Go.RowKit
/-- The six cells of the i-th element. -/
def chunk (xs : List Value) (i : Nat) : List Value := (xs.drop (i * 6)).take 6
/-- A row of texts that may be written over. -/
def DpN (S : Nat → Prop) (w : World) (A : Option Addr) (n : Nat) : Prop :=
  0 < n → ∃ g cur, A = some ⟨g, 0, none⟩ ∧ S g ∧ w.heap[g]? = some (.cells cur 9 (0, 0)) ∧ ∀ j, j < n → ∃ s, cur[j]? = some (.string s)
/-- Six cells that hold a value whose rows (in blocks of S) may be written over, d deep. -/
def Dp (S : Nat → Prop) (w : World) : Nat → List Value → Prop
  | 0, _ => False
  | d + 1, cs => ∃ a b c s An nn cn Ak kk ck, cs = [.int .i64 a, .int .i64 b, .int .i64 c, .string s, .slice An nn cn, .slice Ak kk ck] ∧ okl nn cn ∧ okl kk ck ∧ DpN S w An nn ∧
      (0 < kk → ∃ g cur, Ak = some ⟨g, 0, none⟩ ∧ S g ∧ w.heap[g]? = some (.cells cur 25 (0, 0)) ∧ kk * 6 ≤ cur.size ∧ ∀ i, i < kk → Dp S w d (chunk cur.toList i))
theorem DpN.keep {S S' : Nat → Prop} {w w' : World} {A : Option Addr} {n : Nat} (hk : ∀ b, S b → w'.heap[b]? = w.heap[b]?) (hS : ∀ b, S b → S' b) (h : DpN S w A n) : DpN S' w' A n := fun hn => by
  obtain ⟨g, cur, e, hg, hh, hc⟩ := h hn
  exact ⟨g, cur, e, hS g hg, (hk g hg).trans hh, hc⟩
theorem Dp.keep {S S' : Nat → Prop} {w w' : World} (hk : ∀ b, S b → w'.heap[b]? = w.heap[b]?) (hS : ∀ b, S b → S' b) : ∀ (d : Nat) (cs : List Value), Dp S w d cs → Dp S' w' d cs
  | 0, _, h => h
  | d + 1, cs, h => by
    obtain ⟨a, b, c, s, An, nn, cn, Ak, kk, ck, e, h1, h2, h3, h4⟩ := h
    refine ⟨a, b, c, s, An, nn, cn, Ak, kk, ck, e, h1, h2, h3.keep hk hS, fun hkk => ?_⟩
    obtain ⟨g, cur, e, hg, hh, hc, hd⟩ := h4 hkk
    exact ⟨g, cur, e, hS g hg, (hk g hg).trans hh, hc, fun i hi => Dp.keep hk hS d _ (hd i hi)⟩
theorem Dp.more {S : Nat → Prop} {w : World} : ∀ (d d' : Nat) (cs : List Value), d ≤ d' → Dp S w d cs → Dp S w d' cs
  | 0, _, _, _, h => h.elim
  | d + 1, 0, _, hd, _ => by omega
  | d + 1, d' + 1, cs, hd, h => by
    obtain ⟨a, b, c, s, An, nn, cn, Ak, kk, ck, e, h1, h2, h3, h4⟩ := h
    refine ⟨a, b, c, s, An, nn, cn, Ak, kk, ck, e, h1, h2, h3, fun hkk => ?_⟩
    obtain ⟨g, cur, e, hg, hh, hc, hdd⟩ := h4 hkk
    exact ⟨g, cur, e, hg, hh, hc, fun i hi => Dp.more d d' _ (by omega) (hdd i hi)⟩
/-- The elements of a row, all of them. -/
def DpL (S : Nat → Prop) (w : World) (k : Nat) (xs : List Value) : Prop := ∃ d, ∀ i, i < k → Dp S w d (chunk xs i)
theorem DpL.keep {S S' : Nat → Prop} {w w' : World} {k : Nat} {xs : List Value} (hk : ∀ b, S b → w'.heap[b]? = w.heap[b]?) (hS : ∀ b, S b → S' b) (h : DpL S w k xs) : DpL S' w' k xs := by
  obtain ⟨d, h⟩ := h
  exact ⟨d, fun i hi => Dp.keep hk hS d _ (h i hi)⟩
theorem DpL.nil_ (S : Nat → Prop) (w : World) (xs : List Value) : DpL S w 0 xs := ⟨0, fun i hi => absurd hi (by omega)⟩
theorem chunk_append {xs ys : List Value} {i k : Nat} (hl : xs.length = k * 6) (hi : i < k) : chunk (xs ++ ys) i = chunk xs i := by
  unfold chunk
  rw [List.drop_append_of_le_length (by omega), List.take_append_of_le_length (by rw [List.length_drop]; omega)]
theorem chunk_last {xs ys : List Value} {k : Nat} (hl : xs.length = k * 6) (hy : ys.length = 6) : chunk (xs ++ ys) k = ys := by
  unfold chunk
  rw [List.drop_left' hl, List.take_of_length_le (by omega)]
theorem DpL.snoc {S : Nat → Prop} {w : World} {k d : Nat} {xs ys : List Value} (h : DpL S w k xs) (hl : xs.length = k * 6) (hy : ys.length = 6) (hd : Dp S w d ys) : DpL S w (k + 1) (xs ++ ys) := by
  obtain ⟨d0, h⟩ := h
  refine ⟨max d0 d, fun i hi => ?_⟩
  by_cases hik : i < k
  · rw [chunk_append hl hik]; exact Dp.more _ _ _ (by omega) (h i hik)
  · obtain rfl : i = k := by omega
    rw [chunk_last hl hy]; exact Dp.more _ _ _ (by omega) hd
theorem chunk_take {xs : List Value} {i k : Nat} (hi : i < k) : chunk (xs.take (k * 6)) i = chunk xs i := by
  unfold chunk
  rw [List.drop_take, List.take_take, Nat.min_eq_left (by omega)]
theorem DpN.of_own {w : World} {S : Nat → Prop} {base n c : Nat} {A : Option Addr} {l : List (List UInt8)} (h : w.ownsRow base 9 1 (.slice A n c) n (l.map sv)) (hS : ∀ g, (Value.slice A n c).ownBlock = some g → S g) : DpN S w A n := fun hn => by
  obtain ⟨hl, ⟨_, h0⟩ | ⟨g, cap, cur, e, hb, hg, hnc, hc, hs, hx⟩⟩ := h
  · omega
  · obtain ⟨rfl, _, rfl⟩ := Value.slice.inj e
    refine ⟨g, cur, rfl, hS g rfl, hg, fun j hj => ?_⟩
    have h1 : (l.map sv)[j]? = cur[j]? := by rw [← hx, List.getElem?_take, if_pos (by omega)]; simp
    rw [List.getElem?_map, List.getElem?_eq_getElem (by have : (l.map sv).length = n * 1 := hl; rw [List.length_map] at this; omega)] at h1
    exact ⟨_, h1.symm⟩
/-- A value made of two rows of the call's own. -/
theorem Dp.of_own {w : World} {S : Nat → Prop} {base : Nat} {n : Nd} {An Ak : Option Addr} {cn kl ck : Nat} {xs : List Value} (h1 : okl n.names.length cn) (h2 : okl kl ck)
    (hn : w.ownsRow base 9 1 (.slice An n.names.length cn) n.names.length (n.names.map sv)) (hk : w.ownsRow base 25 6 (.slice Ak kl ck) kl xs) (hd : DpL S w kl xs)
    (hSn : ∀ g, (Value.slice An n.names.length cn).ownBlock = some g → S g) (hSk : ∀ g, (Value.slice Ak kl ck).ownBlock = some g → S g) : ∃ d, Dp S w d (ncells n An cn Ak kl ck) := by
  obtain ⟨d, hd⟩ := hd
  refine ⟨d + 1, _, _, _, _, An, n.names.length, cn, Ak, kl, ck, rfl, h1, h2, DpN.of_own hn hSn, fun hkk => ?_⟩
  obtain ⟨hl, ⟨_, h0⟩ | ⟨g, cap, cur, e, hb, hg, hnc, hc, hs, hx⟩⟩ := hk
  · omega
  · obtain ⟨rfl, _, rfl⟩ := Value.slice.inj e
    refine ⟨g, cur, rfl, hSk g rfl, hg, by rw [hs]; exact Nat.mul_le_mul_right _ hnc, fun i hi => ?_⟩
    have := hd i hi
    rw [← hx, chunk_take hi] at this
    exact this
/-- Behind a call: it answers a value in memory of its own: two rows of its own, and beside them, in other blocks, the kids' rows. -/
def Apart (w0 w' : World) (vn vk : Value) : Nat → Prop := fun b => w0.heap.size ≤ b ∧ b < w'.heap.size ∧ vn.ownBlock ≠ some b ∧ vk.ownBlock ≠ some b
def RetO (n : Nd) (k : F) (w : World) (e : Ending) (w' : World) : Prop :=
  ∃ An cn Ak ck xs, e = .returned (.agg (ncells n An cn Ak k.len ck).toArray) ∧ n.ok ∧ okl n.names.length cn ∧ okl k.len ck ∧ w'.ownsRow w.heap.size 9 1 (.slice An n.names.length cn) n.names.length (n.names.map sv) ∧
    w'.ownsRow w.heap.size 25 6 (.slice Ak k.len ck) k.len xs ∧ Kc w' (Apart w w' (.slice An n.names.length cn) (.slice Ak k.len ck)) k xs ∧ DpL (Apart w w' (.slice An n.names.length cn) (.slice Ak k.len ck)) w' k.len xs ∧ Below w.heap.size w w'
theorem vo_of_own {w0 w' : World} {n : Nd} {k : F} {An Ak : Option Addr} {cn ck : Nat} {xs : List Value} {S : Nat → Prop} (ho : n.ok) (h1 : okl n.names.length cn) (h2 : okl k.len ck) (hn : w'.ownsRow w0.heap.size 9 1 (.slice An n.names.length cn) n.names.length (n.names.map sv))
    (hk : w'.ownsRow w0.heap.size 25 6 (.slice Ak k.len ck) k.len xs) (hc : Kc w' S k xs) (hS : ∀ b, S b → w0.heap.size ≤ b ∧ b < w'.heap.size) : Vo w' (Fresh w0.heap.size w'.heap.size) n k (.agg (ncells n An cn Ak k.len ck).toArray) :=
  ⟨An, cn, Ak, ck, rfl, ho, h1, h2, rdS_of_own hn, xs, rdS_of_own hk, Kc.keep (fun _ _ => rfl) hS _ _ hc⟩
theorem RetO.retV {n : Nd} {k : F} {w : World} {e : Ending} {w' : World} (h : RetO n k w e w') : RetV n k w e w' := by
  obtain ⟨An, cn, Ak, ck, xs, rfl, ho, h1, h2, hn, hk, hc, hd, hb⟩ := h
  exact ⟨_, rfl, vo_of_own ho h1 h2 hn hk hc (fun b hb => ⟨hb.1, hb.2.1⟩), hb⟩
theorem RetO.dp {n : Nd} {k : F} {w : World} {e : Ending} {w' : World} (h : RetO n k w e w') : ∃ An cn Ak ck d, e = .returned (.agg (ncells n An cn Ak k.len ck).toArray) ∧ Vo w' (Fresh w.heap.size w'.heap.size) n k (.agg (ncells n An cn Ak k.len ck).toArray) ∧ Dp (Fresh w.heap.size w'.heap.size) w' d (ncells n An cn Ak k.len ck) ∧ Below w.heap.size w w' := by
  obtain ⟨An, cn, Ak, ck, xs, rfl, ho, h1, h2, hn, hk, hc, hd, hb⟩ := h
  obtain ⟨d, hdd⟩ := Dp.of_own (S := Fresh w.heap.size w'.heap.size) h1 h2 hn hk (hd.keep (fun _ _ => rfl) (fun b hb => ⟨hb.1, hb.2.1⟩)) (fun g hg => ⟨(hn.lt g hg).1, (hn.lt g hg).2⟩) (fun g hg => ⟨(hk.lt g hg).1, (hk.lt g hg).2⟩)
  exact ⟨An, cn, Ak, ck, d, rfl, vo_of_own ho h1 h2 hn hk hc (fun b hb => ⟨hb.1, hb.2.1⟩), hdd, hb⟩
end Go.Proofs.Ytfcbcbpnlnkpcaa
