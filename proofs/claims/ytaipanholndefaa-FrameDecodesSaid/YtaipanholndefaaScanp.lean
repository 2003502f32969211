/- The plain law of records one behind the other. No program in sight. -/
import Derived.Test.YtaipanholndefaaFramep
namespace Go.Proofs.Ytaipanholndefaa
set_option linter.all false
/-- All records from the beginning on: what they hold, how many bytes they took, the error. -/
def fscan : Nat → List UInt8 → List (List UInt8) × Nat × Nat
  | 0, _ => ([], 0, 0)
  | f + 1, l => if l = [] then ([], 0, 0) else if (fdec l).2.2 ≠ 0 then ([], 0, (fdec l).2.2) else ((fdec l).1 :: (fscan f (l.drop (fdec l).2.1)).1, (fdec l).2.1 + (fscan f (l.drop (fdec l).2.1)).2.1, (fscan f (l.drop (fdec l).2.1)).2.2)
def fsc (l : List UInt8) : List (List UInt8) × Nat × Nat := fscan l.length l
/-- Where a scan stands: 'R' is done, 'k' bytes are taken. -/
def At (l : List UInt8) (R : List (List UInt8)) (k f : Nat) : Prop :=
  fsc l = (R ++ (fscan f (l.drop k)).1, k + (fscan f (l.drop k)).2.1, (fscan f (l.drop k)).2.2)
theorem fscan_rows : ∀ (f : Nat) (l : List UInt8), (fscan f l).1.length ≤ f
  | 0, _ => by simp [fscan]
  | f + 1, l => by
    have := fscan_rows f (l.drop (fdec l).2.1)
    unfold fscan
    split
    · simp
    · split
      · simp
      · simp only [List.length_cons]; omega
theorem at_start (l : List UInt8) : At l [] 0 l.length := by unfold At fsc; simp
theorem at_end {l : List UInt8} {R : List (List UInt8)} {k f : Nat} (h : At l R k f) (hk : l.length ≤ k) : fsc l = (R, k, 0) := by
  rw [h, List.drop_of_length_le hk]
  cases f <;> simp [fscan]
theorem at_err {l : List UInt8} {R : List (List UInt8)} {k f : Nat} (h : At l R k (f + 1)) (hk : k < l.length) (he : (fdec (l.drop k)).2.2 ≠ 0) : fsc l = (R, k, (fdec (l.drop k)).2.2) := by
  rw [h]
  have hn : l.drop k ≠ [] := by intro e; have := congrArg List.length e; simp at this; omega
  simp [fscan, hn, he]
theorem at_next {l : List UInt8} {R : List (List UInt8)} {k f : Nat} (h : At l R k (f + 1)) (hk : k < l.length) (he : (fdec (l.drop k)).2.2 = 0) : At l (R ++ [(fdec (l.drop k)).1]) (k + (fdec (l.drop k)).2.1) f := by
  unfold At at h ⊢
  rw [h]
  have hn : l.drop k ≠ [] := by intro e; have := congrArg List.length e; simp at this; omega
  simp [fscan, hn, he, List.drop_drop, Nat.add_assoc]
end Go.Proofs.Ytaipanholndefaa
