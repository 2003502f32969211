/- Values: trees of nodes, and what it is that memory holds one. A value is a node with its kids, a forest; a forest is empty, or a node, its kids, and the rest. -/
import Derived.Test.YtfcbcbpnlnkpcaaCore
namespace Go.Proofs.Ytfcbcbpnlnkpcaa
set_option linter.all false
open Go.RowKit

structure Nd where
  kind : Int
  int : Int
  scale : Int
  text : List UInt8
  names : List (List UInt8)
inductive F where
  | nil
  | cons (n : Nd) (k r : F)
def F.len : F → Nat
  | .nil => 0
  | .cons _ _ r => r.len + 1
def F.get : F → Nat → Option (Nd × F)
  | .nil, _ => none
  | .cons n k _, 0 => some (n, k)
  | .cons _ _ r, i + 1 => r.get i
def F.drop : F → Nat → F
  | f, 0 => f
  | .nil, _ + 1 => .nil
  | .cons _ _ r, i + 1 => r.drop i
theorem F.get_lt : ∀ (f : F) (i : Nat), i < f.len → ∃ n k, f.get i = some (n, k)
  | .nil, i, h => absurd h (by simp [F.len])
  | .cons n k r, 0, _ => ⟨n, k, rfl⟩
  | .cons n k r, i + 1, h => F.get_lt r i (by simp [F.len] at h; omega)
theorem F.drop_get : ∀ (f : F) (i : Nat) {n : Nd} {k : F}, f.get i = some (n, k) → f.drop i = .cons n k (f.drop (i + 1))
  | .nil, i, n, k, h => by simp [F.get] at h
  | .cons n' k' r, 0, n, k, h => by
    simp only [F.get, Option.some.injEq, Prod.mk.injEq] at h
    obtain ⟨rfl, rfl⟩ := h
    simp [F.drop]
  | .cons n' k' r, i + 1, n, k, h => by
    have := F.drop_get r i h
    simpa [F.drop] using this
theorem F.drop_len : ∀ (f : F) (i : Nat), f.len ≤ i → f.drop i = .nil
  | .nil, 0, _ => rfl
  | .nil, i + 1, _ => rfl
  | .cons n k r, 0, h => by simp [F.len] at h
  | .cons n k r, i + 1, h => by
    have := F.drop_len r i (by simp [F.len] at h; omega)
    simpa [F.drop] using this
/-- What holds of each node whose kids have it holds of all nodes. -/
theorem F.nodes {C : Nd → F → Prop} (h : ∀ n k, (∀ i m j, k.get i = some (m, j) → C m j) → C n k) : ∀ (f : F) (i : Nat) (n : Nd) (k : F), f.get i = some (n, k) → C n k
  | .nil, i, n, k, hg => by simp [F.get] at hg
  | .cons n' k' r, 0, n, k, hg => by
    simp only [F.get, Option.some.injEq, Prod.mk.injEq] at hg
    obtain ⟨rfl, rfl⟩ := hg
    exact h _ _ (F.nodes h k')
  | .cons n' k' r, i + 1, n, k, hg => F.nodes h r i n k hg
theorem F.node {C : Nd → F → Prop} (h : ∀ n k, (∀ i m j, k.get i = some (m, j) → C m j) → C n k) (n : Nd) (k : F) : C n k := h n k (F.nodes h k)

/-- A slice that reads as a list of cells, in blocks of the set S. -/
def RdS (w : World) (S : Nat → Prop) (sz : Nat) (A : Option Addr) (n : Nat) (xs : List Value) : Prop :=
  xs.length = n * sz ∧ (0 < n → ∃ g off, A = some ⟨g, off, none⟩ ∧ S g ∧ ∀ j u, xs[j]? = some u → w.cell? ⟨g, off + j, none⟩ = some u)
theorem RdS.keep {w w' : World} {S S' : Nat → Prop} {sz n : Nat} {A : Option Addr} {xs : List Value} (h : RdS w S sz A n xs) (hk : ∀ b, S b → w'.heap[b]? = w.heap[b]?) (hS : ∀ b, S b → S' b) : RdS w' S' sz A n xs :=
  ⟨h.1, fun hn => by
    obtain ⟨g, off, e, hg, hc⟩ := h.2 hn
    exact ⟨g, off, e, hS g hg, fun j u hu => (World.cell?_of_block (hk g hg)).trans (hc j u hu)⟩⟩
theorem RdS.rd {w : World} {B sz n : Nat} {A : Option Addr} {xs : List Value} (h : RdS w (· < B) sz A n xs) : Rd w B sz A n xs := h
theorem Rd.rdS {w : World} {B sz n : Nat} {A : Option Addr} {xs : List Value} (h : Rd w B sz A n xs) : RdS w (· < B) sz A n xs := h

def sv (s : List UInt8) : Value := .string (str s)
/-- A node's six cells. -/
def ncells (n : Nd) (An : Option Addr) (cn : Nat) (Ak : Option Addr) (kl ck : Nat) : List Value :=
  [.int .i64 n.kind, .int .i64 n.int, .int .i64 n.scale, .string (str n.text), .slice An n.names.length cn, .slice Ak kl ck]
/-- A number of 64 digits. -/
def I64 (x : Int) : Prop := -9223372036854775808 ≤ x ∧ x ≤ 9223372036854775807
def Nd.ok (n : Nd) : Prop := I64 n.kind ∧ I64 n.int ∧ I64 n.scale ∧ n.text.length ≤ 140737488351232 ∧ ∀ s ∈ n.names, s.length ≤ 140737488351232
/-- A length and a capacity, within reach (a new row.s capacity is known by its length alone). -/
def okl (n c : Nat) : Prop := n ≤ c ∧ (c ≤ 9223372036854775807 ∧ n ≤ 8796093021952)
/-- The cells of a forest. -/
def Kc (w : World) (S : Nat → Prop) : F → List Value → Prop
  | .nil, cs => cs = []
  | .cons n k r, cs => ∃ (An : Option Addr) (cn : Nat) (Ak : Option Addr) (ck : Nat) (cs' ks : List Value), cs = ncells n An cn Ak k.len ck ++ cs' ∧ n.ok ∧ okl n.names.length cn ∧ okl k.len ck ∧
      RdS w S 1 An n.names.length (n.names.map sv) ∧ RdS w S 6 Ak k.len ks ∧ Kc w S k ks ∧ Kc w S r cs'
theorem Kc.keep {w w' : World} {S S' : Nat → Prop} (hk : ∀ b, S b → w'.heap[b]? = w.heap[b]?) (hS : ∀ b, S b → S' b) : ∀ (f : F) (cs : List Value), Kc w S f cs → Kc w' S' f cs
  | .nil, cs, h => h
  | .cons n k r, cs, h => by
    obtain ⟨An, cn, Ak, ck, cs', ks, e, ho, h1, h2, hn, hr, hkk, hrr⟩ := h
    exact ⟨An, cn, Ak, ck, cs', ks, e, ho, h1, h2, hn.keep hk hS, hr.keep hk hS, Kc.keep hk hS k ks hkk, Kc.keep hk hS r cs' hrr⟩
theorem Kc.len {w : World} {S : Nat → Prop} : ∀ (f : F) (cs : List Value), Kc w S f cs → cs.length = f.len * 6
  | .nil, cs, h => by rw [show cs = [] from h]; rfl
  | .cons n k r, cs, h => by
    obtain ⟨An, cn, Ak, ck, cs', ks, e, _, _, _, _, _, _, hrr⟩ := h
    have := Kc.len r cs' hrr
    rw [e, List.length_append, this]
    simp only [ncells, F.len, List.length_cons, List.length_nil]
    omega
/-- The slice '.slice A f.len _' holds the forest f. -/
def Kids (w : World) (S : Nat → Prop) (A : Option Addr) (f : F) : Prop := ∃ ks, RdS w S 6 A f.len ks ∧ Kc w S f ks
theorem Kids.keep {w w' : World} {S S' : Nat → Prop} {A : Option Addr} {f : F} (h : Kids w S A f) (hk : ∀ b, S b → w'.heap[b]? = w.heap[b]?) (hS : ∀ b, S b → S' b) : Kids w' S' A f := by
  obtain ⟨ks, h1, h2⟩ := h
  exact ⟨ks, h1.keep hk hS, Kc.keep hk hS f ks h2⟩
/-- The value v is the node n with the kids k. -/
def Vo (w : World) (S : Nat → Prop) (n : Nd) (k : F) (v : Value) : Prop :=
  ∃ An cn Ak ck, v = .agg (ncells n An cn Ak k.len ck).toArray ∧ n.ok ∧ okl n.names.length cn ∧ okl k.len ck ∧ RdS w S 1 An n.names.length (n.names.map sv) ∧ Kids w S Ak k
theorem Vo.keep {w w' : World} {S S' : Nat → Prop} {n : Nd} {k : F} {v : Value} (h : Vo w S n k v) (hk : ∀ b, S b → w'.heap[b]? = w.heap[b]?) (hS : ∀ b, S b → S' b) : Vo w' S' n k v := by
  obtain ⟨An, cn, Ak, ck, e, ho, h1, h2, hn, hkk⟩ := h
  exact ⟨An, cn, Ak, ck, e, ho, h1, h2, hn.keep hk hS, hkk.keep hk hS⟩
theorem Vo.below {w w' : World} {B : Nat} {n : Nd} {k : F} {v : Value} (h : Vo w (· < B) n k v) (hb : Below B w w') : Vo w' (· < B) n k v := h.keep (fun b hbb => hb.block b hbb) (fun _ h => h)
theorem Vo.upto {w w' : World} {n : Nd} {k : F} {v : Value} (h : Vo w (· < w.heap.size) n k v) (hb : Below w.heap.size w w') : Vo w' (· < w'.heap.size) n k v :=
  h.keep (fun b hbb => hb.block b hbb) (fun b h => Nat.lt_of_lt_of_le h hb.size)
theorem Kids.upto {w w' : World} {A : Option Addr} {f : F} (h : Kids w (· < w.heap.size) A f) (hb : Below w.heap.size w w') : Kids w' (· < w'.heap.size) A f :=
  h.keep (fun b hbb => hb.block b hbb) (fun b h => Nat.lt_of_lt_of_le h hb.size)
/-- A node of a forest: its cells in memory. -/
theorem Kc.at_ {w : World} {S : Nat → Prop} : ∀ (f : F) (cs : List Value) (i : Nat) {n : Nd} {k : F}, Kc w S f cs → f.get i = some (n, k) →
    ∃ An cn Ak ck, (∀ j u, (ncells n An cn Ak k.len ck)[j]? = some u → cs[i * 6 + j]? = some u) ∧ n.ok ∧ okl n.names.length cn ∧ okl k.len ck ∧ RdS w S 1 An n.names.length (n.names.map sv) ∧ Kids w S Ak k
  | .nil, cs, i, n, k, _, hg => by simp [F.get] at hg
  | .cons n' k' r, cs, 0, n, k, h, hg => by
    simp only [F.get, Option.some.injEq, Prod.mk.injEq] at hg
    obtain ⟨rfl, rfl⟩ := hg
    obtain ⟨An, cn, Ak, ck, cs', ks, e, ho, h1, h2, hn, hr, hkk, hrr⟩ := h
    refine ⟨An, cn, Ak, ck, fun j u hu => ?_, ho, h1, h2, hn, ks, hr, hkk⟩
    rw [e, Nat.zero_mul, Nat.zero_add, List.getElem?_append_left (List.getElem?_eq_some_iff.1 hu).1]
    exact hu
  | .cons n' k' r, cs, i + 1, n, k, h, hg => by
    obtain ⟨An, cn, Ak, ck, cs', ks, e, _, _, _, _, _, _, hrr⟩ := h
    obtain ⟨Bn, dn, Bk, dk, hc, rest⟩ := Kc.at_ r cs' i hrr hg
    refine ⟨Bn, dn, Bk, dk, fun j u hu => ?_, rest⟩
    rw [e, List.getElem?_append_right (by simp [ncells]; omega)]
    have : (i + 1) * 6 + j - (ncells n' An cn Ak k'.len ck).length = i * 6 + j := by simp [ncells]; omega
    rw [this]
    exact hc j u hu
/-- The six cells of a node at an address, as a walk reads them. -/
def Six (w : World) (g o : Nat) (n : Nd) (An : Option Addr) (cn : Nat) (Ak : Option Addr) (kl ck : Nat) : Prop :=
  w.cell? ⟨g, o, none⟩ = some (.int .i64 n.kind) ∧ w.cell? ⟨g, o + 1, none⟩ = some (.int .i64 n.int) ∧ w.cell? ⟨g, o + 2, none⟩ = some (.int .i64 n.scale) ∧
  w.cell? ⟨g, o + 3, none⟩ = some (.string (str n.text)) ∧ w.cell? ⟨g, o + 4, none⟩ = some (.slice An n.names.length cn) ∧ w.cell? ⟨g, o + 5, none⟩ = some (.slice Ak kl ck)
theorem Kids.at_ {w : World} {S : Nat → Prop} {A : Option Addr} {f : F} {i : Nat} {n : Nd} {k : F} (h : Kids w S A f) (hg : f.get i = some (n, k)) (hi : i < f.len) :
    ∃ g off An cn Ak ck, A = some ⟨g, off, none⟩ ∧ S g ∧ Six w g (off + i * 6) n An cn Ak k.len ck ∧ Vo w S n k (.agg (ncells n An cn Ak k.len ck).toArray) := by
  obtain ⟨ks, hr, hk⟩ := h
  obtain ⟨g, off, hA, hS, hc⟩ := hr.2 (by omega)
  obtain ⟨An, cn, Ak, ck, hcs, ho, h1, h2, hn, hkk⟩ := Kc.at_ f ks i hk hg
  have hcell : ∀ j u, (ncells n An cn Ak k.len ck)[j]? = some u → w.cell? ⟨g, off + i * 6 + j, none⟩ = some u := fun j u hu => by
    rw [Nat.add_assoc]; exact hc _ _ (hcs j u hu)
  exact ⟨g, off, An, cn, Ak, ck, hA, hS, ⟨hcell 0 _ rfl, hcell 1 _ rfl, hcell 2 _ rfl, hcell 3 _ rfl, hcell 4 _ rfl, hcell 5 _ rfl⟩, An, cn, Ak, ck, rfl, ho, h1, h2, hn, hkk⟩
end Go.Proofs.Ytfcbcbpnlnkpcaa
