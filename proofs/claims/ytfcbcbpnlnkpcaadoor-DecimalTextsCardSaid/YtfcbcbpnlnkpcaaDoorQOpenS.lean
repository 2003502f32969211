/- A text argument opened. -/
import Derived.Test.YtfcbcbpnlnkpcaaDoorQOpen
import Derived.ChangeArms
import Derived.Deep.Slices
import Derived.SizedLaws
import Derived.ChangeOld
namespace Go.Proofs.YtfcbcbpnlnkpcaaDoor
set_option linter.all false
open Go.RowKit Go.ChangeShapes
variable {H : Type} {enc : TypeId × Value → H} {P : Program} {w : World}
variable {H : Type} {enc : TypeId × Value → H} {w : World} {r : Reach} {b0 : Nat} {v : Value} {d : DataW H} {p : List MemPlace}
set_option maxRecDepth 100000 in
theorem arg_str (o : Value.okWide Tryd.prog w r b0 9 v) (h : DataW.Trod enc Tryd.prog w 0 (fun _ => true) true 9 v d p) (hw : Lt Tryd.prog 9 d) : ∃ l : List UInt8, v = .string (str l) ∧ l.length ≤ 140737488351232 := by
  obtain ⟨s, rfl⟩ := WideShapes.okWide_string Tryd.underlying9 o
  obtain ⟨fuel, hf⟩ := h
  obtain ⟨s', e, hx, _⟩ := DataW.trod_string Tryd.underlying9 hf
  have e2 : [Value.string s] = [Value.string s'] := e
  injection e2 with e2
  injection e2 with e3
  subst e3
  refine ⟨s.toList, by rw [str_data], ?_⟩
  have hd : d = .lit (.string s.data.toList) := by injection hx
  have := hw s.data.toList.length (by rw [hd]; simp [DataW.weights])
  simpa [ByteArray.toList_eq] using this
end Go.Proofs.YtfcbcbpnlnkpcaaDoor
