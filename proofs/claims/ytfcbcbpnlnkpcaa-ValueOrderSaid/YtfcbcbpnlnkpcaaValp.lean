/- What is wrong with a value: the plain law. No program in sight. -/
import Derived.Test.YtfcbcbpnlnkpcaaVal
namespace Go.Proofs.Ytfcbcbpnlnkpcaa
set_option linter.all false
open Go.RowKit
/-- Is a node's own data as its kind wants it? -/
def okF (kind i s : Int) (bare plain te nz : Bool) : Bool :=
  if kind = 1 then bare && plain && te
  else if kind = 2 then (i / 2 == 0) && (s == 0) && plain && te
  else if kind = 3 then (s == 0) && plain && te
  else if kind = 4 then decide (1 ≤ s) && decide (s ≤ 18) && (i.tmod 10 != 0) && plain && te
  else if kind = 5 then decide (0 ≤ i) && decide (i ≤ 9007199254740992) && (s == 0) && plain && te
  else if kind = 6 then bare && plain
  else if kind = 7 then bare && plain
  else if kind = 8 then bare && nz && te
  else if kind = 9 then bare && te
  else false
/-- May a text name a field? -/
def nameOk (s : List UInt8) : Bool := decide (1 ≤ s.length) && decide (s.length ≤ 40)
/-- Are names as they should be, each above the one ahead of it? -/
def upFrom : Option (List UInt8) → List (List UInt8) → Bool
  | _, [] => true
  | none, a :: r => nameOk a && upFrom (some a) r
  | some b, a :: r => nameOk a && !(Op.bytesLess a b || a == b) && upFrom (some a) r
def prevOf (l : List (List UInt8)) : Nat → Option (List UInt8)
  | 0 => none
  | k + 1 => l[k]?
def fieldsOk (names : List (List UInt8)) (kl : Nat) : Bool := upFrom none names && decide (names.length = kl)
theorem upFrom_drop {l : List (List UInt8)} {k : Nat} {a : List UInt8} (h : l[k]? = some a) (p : Option (List UInt8)) :
    upFrom p (l.drop k) = (nameOk a && (match p with | none => true | some b => !(Op.bytesLess a b || a == b)) && upFrom (some a) (l.drop (k + 1))) := by
  obtain ⟨hk, e⟩ := List.getElem?_eq_some_iff.1 h
  rw [List.drop_eq_getElem_cons hk, e]
  cases p <;> simp [upFrom]
def okN (n : Nd) (kl : Nat) : Bool :=
  okF n.kind n.int n.scale ((n.int == 0) && (n.scale == 0)) (((n.names.length : Int) == 0) && ((kl : Int) == 0)) n.text.isEmpty ((n.names.length : Int) == 0)
/-- What is wrong with a node, but for its kids: 0, 3 or 5. -/
def nerr (n : Nd) (kl : Nat) : Nat :=
  if okN n kl = false then 3 else if 16384 < n.text.length ∨ 200 < kl then 5 else if n.kind = 9 ∧ fieldsOk n.names kl = false then 3 else 0

end Go.Proofs.Ytfcbcbpnlnkpcaa
