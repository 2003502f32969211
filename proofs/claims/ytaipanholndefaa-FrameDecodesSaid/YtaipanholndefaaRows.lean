/-
  No cell of these rows narrows 'for every input' (looked for: loops, veiled, ifaces, maps, wideKeys, modest, calm, conditions, laid).
  DERIVED. THE GIVEN ROWS OF THIS SEAT. 10 by the template 'for every input the law returns true; each argument reads behind the call as it read before'; 0 by the template 'total and deterministic' (their statements: YtaipanholndefaaTotals.lean).
  GIVEN WITH THE SEED: the statements are not yours to turn. If you find one false, say at which input.
  Laid BY PROGRAM, IN A SANDBOX (cutbox-rows.mjs): the forced cells as the released guide's own fill.sh prints them over the translation 2d45838ed6ec66a9… (all of the seat's roots in one cut). By AI agents, Wed Nov 11 2026. No macro, syntax, notation, axiom, sorry.
-/
import Derived.Test.YtaipanholndefaaChecked
import GoSem.Claim
import GoSem.ClaimJoined
import GoSem.ClaimMapViews
import Derived.JoinedTies
import Derived.KernelRfl
namespace Go.Proofs.Ytaipanholndefaa
/- THE CELL 'sum', in the pinned program and in every row, IS THE sha256 OF THE DUMP (.gsa) THAT YtaipanholndefaaProg.lean LOADS. Nothing in Lean hashes anything: it is a label: what it is worth is what the hold of that sum in a sandbox is worth. -/
noncomputable def Try.pinned : Pinned := { name := "ytaipanholndefaa", sum := "2d45838ed6ec66a9c52398052f8c0f1f19ad69a9b6ae7584c1bc30195e709489", checked := Try.checked }
namespace Rows
def none {H : Type} : Left H := { results := [], args := [] }

/-- 'scrivenerlaw1.OctetSums': WHATEVER THE INPUT: true; the input reads as it did. -/
def octetSumsSpec : ChangeSpec := { name := "octetSums", fn := fun _ => fun
  | [d] => { results := [.lit (.bool true)], args := [d] }
  | _ => none }
def octetSumsRow : OpenClaim := { program := "ytaipanholndefaa", sum := "2d45838ed6ec66a9c52398052f8c0f1f19ad69a9b6ae7584c1bc30195e709489", func := "scrivener/scrivenerlaw1.OctetSums", spec := "octetSums", apart := false }
def OctetSumsSaid : Prop := octetSumsRow.holds Try.pinned (OpenSpec.ofChange octetSumsSpec)

/-- ITS FALSE NEIGHBOUR: 'it returns false'. Refute it at one input. -/
def octetSumsWrong : ChangeSpec := { name := "octetSums", fn := fun _ => fun
  | [d] => { results := [.lit (.bool false)], args := [d] }
  | _ => none }
def OctetSumsWrongFalsely : Prop := octetSumsRow.holds Try.pinned (OpenSpec.ofChange octetSumsWrong)

/-- 'scrivenerlaw1.OctetSees': WHATEVER THE INPUT: true; the input reads as it did. -/
def octetSeesSpec : ChangeSpec := { name := "octetSees", fn := fun _ => fun
  | [d1, d2, d3] => { results := [.lit (.bool true)], args := [d1, d2, d3] }
  | _ => none }
def octetSeesRow : OpenClaim := { program := "ytaipanholndefaa", sum := "2d45838ed6ec66a9c52398052f8c0f1f19ad69a9b6ae7584c1bc30195e709489", func := "scrivener/scrivenerlaw1.OctetSees", spec := "octetSees", apart := false }
def OctetSeesSaid : Prop := octetSeesRow.holds Try.pinned (OpenSpec.ofChange octetSeesSpec)

/-- ITS FALSE NEIGHBOUR: 'it returns false'. Refute it at one input. -/
def octetSeesWrong : ChangeSpec := { name := "octetSees", fn := fun _ => fun
  | [d1, d2, d3] => { results := [.lit (.bool false)], args := [d1, d2, d3] }
  | _ => none }
def OctetSeesWrongFalsely : Prop := octetSeesRow.holds Try.pinned (OpenSpec.ofChange octetSeesWrong)

/-- 'scrivenerlaw1.OctetZigs': WHATEVER THE INPUT: true; the input reads as it did. -/
def octetZigsSpec : ChangeSpec := { name := "octetZigs", fn := fun _ => fun
  | [d1, d2] => { results := [.lit (.bool true)], args := [d1, d2] }
  | _ => none }
def octetZigsRow : OpenClaim := { program := "ytaipanholndefaa", sum := "2d45838ed6ec66a9c52398052f8c0f1f19ad69a9b6ae7584c1bc30195e709489", func := "scrivener/scrivenerlaw1.OctetZigs", spec := "octetZigs", apart := false }
def OctetZigsSaid : Prop := octetZigsRow.holds Try.pinned (OpenSpec.ofChange octetZigsSpec)

/-- ITS FALSE NEIGHBOUR: 'it returns false'. Refute it at one input. -/
def octetZigsWrong : ChangeSpec := { name := "octetZigs", fn := fun _ => fun
  | [d1, d2] => { results := [.lit (.bool false)], args := [d1, d2] }
  | _ => none }
def OctetZigsWrongFalsely : Prop := octetZigsRow.holds Try.pinned (OpenSpec.ofChange octetZigsWrong)

/-- 'scrivenerlaw1.OctetUvarints': WHATEVER THE INPUT: true; the input reads as it did. -/
def octetUvarintsSpec : ChangeSpec := { name := "octetUvarints", fn := fun _ => fun
  | [d1, d2] => { results := [.lit (.bool true)], args := [d1, d2] }
  | _ => none }
def octetUvarintsRow : OpenClaim := { program := "ytaipanholndefaa", sum := "2d45838ed6ec66a9c52398052f8c0f1f19ad69a9b6ae7584c1bc30195e709489", func := "scrivener/scrivenerlaw1.OctetUvarints", spec := "octetUvarints", apart := false }
def OctetUvarintsSaid : Prop := octetUvarintsRow.holds Try.pinned (OpenSpec.ofChange octetUvarintsSpec)

/-- ITS FALSE NEIGHBOUR: 'it returns false'. Refute it at one input. -/
def octetUvarintsWrong : ChangeSpec := { name := "octetUvarints", fn := fun _ => fun
  | [d1, d2] => { results := [.lit (.bool false)], args := [d1, d2] }
  | _ => none }
def OctetUvarintsWrongFalsely : Prop := octetUvarintsRow.holds Try.pinned (OpenSpec.ofChange octetUvarintsWrong)

/-- 'scrivenerlaw1.OctetReads': WHATEVER THE INPUT: true; the input reads as it did. -/
def octetReadsSpec : ChangeSpec := { name := "octetReads", fn := fun _ => fun
  | [d] => { results := [.lit (.bool true)], args := [d] }
  | _ => none }
def octetReadsRow : OpenClaim := { program := "ytaipanholndefaa", sum := "2d45838ed6ec66a9c52398052f8c0f1f19ad69a9b6ae7584c1bc30195e709489", func := "scrivener/scrivenerlaw1.OctetReads", spec := "octetReads", apart := false }
def OctetReadsSaid : Prop := octetReadsRow.holds Try.pinned (OpenSpec.ofChange octetReadsSpec)

/-- ITS FALSE NEIGHBOUR: 'it returns false'. Refute it at one input. -/
def octetReadsWrong : ChangeSpec := { name := "octetReads", fn := fun _ => fun
  | [d] => { results := [.lit (.bool false)], args := [d] }
  | _ => none }
def OctetReadsWrongFalsely : Prop := octetReadsRow.holds Try.pinned (OpenSpec.ofChange octetReadsWrong)

/-- 'scrivenerlaw1.OctetBigs': WHATEVER THE INPUT: true; the input reads as it did. -/
def octetBigsSpec : ChangeSpec := { name := "octetBigs", fn := fun _ => fun
  | [d1, d2] => { results := [.lit (.bool true)], args := [d1, d2] }
  | _ => none }
def octetBigsRow : OpenClaim := { program := "ytaipanholndefaa", sum := "2d45838ed6ec66a9c52398052f8c0f1f19ad69a9b6ae7584c1bc30195e709489", func := "scrivener/scrivenerlaw1.OctetBigs", spec := "octetBigs", apart := false }
def OctetBigsSaid : Prop := octetBigsRow.holds Try.pinned (OpenSpec.ofChange octetBigsSpec)

/-- ITS FALSE NEIGHBOUR: 'it returns false'. Refute it at one input. -/
def octetBigsWrong : ChangeSpec := { name := "octetBigs", fn := fun _ => fun
  | [d1, d2] => { results := [.lit (.bool false)], args := [d1, d2] }
  | _ => none }
def OctetBigsWrongFalsely : Prop := octetBigsRow.holds Try.pinned (OpenSpec.ofChange octetBigsWrong)

/-- 'scrivenerlaw4.FrameEncodes': WHATEVER THE INPUT: true; the input reads as it did. -/
def frameEncodesSpec : ChangeSpec := { name := "frameEncodes", fn := fun _ => fun
  | [d] => { results := [.lit (.bool true)], args := [d] }
  | _ => none }
def frameEncodesRow : OpenClaim := { program := "ytaipanholndefaa", sum := "2d45838ed6ec66a9c52398052f8c0f1f19ad69a9b6ae7584c1bc30195e709489", func := "scrivener/scrivenerlaw4.FrameEncodes", spec := "frameEncodes", apart := false }
def FrameEncodesSaid : Prop := frameEncodesRow.holds Try.pinned (OpenSpec.ofChange frameEncodesSpec)

/-- ITS FALSE NEIGHBOUR: 'it returns false'. Refute it at one input. -/
def frameEncodesWrong : ChangeSpec := { name := "frameEncodes", fn := fun _ => fun
  | [d] => { results := [.lit (.bool false)], args := [d] }
  | _ => none }
def FrameEncodesWrongFalsely : Prop := frameEncodesRow.holds Try.pinned (OpenSpec.ofChange frameEncodesWrong)

/-- 'scrivenerlaw4.FrameBack': WHATEVER THE INPUT: true; the input reads as it did. -/
def frameBackSpec : ChangeSpec := { name := "frameBack", fn := fun _ => fun
  | [d1, d2] => { results := [.lit (.bool true)], args := [d1, d2] }
  | _ => none }
def frameBackRow : OpenClaim := { program := "ytaipanholndefaa", sum := "2d45838ed6ec66a9c52398052f8c0f1f19ad69a9b6ae7584c1bc30195e709489", func := "scrivener/scrivenerlaw4.FrameBack", spec := "frameBack", apart := false }
def FrameBackSaid : Prop := frameBackRow.holds Try.pinned (OpenSpec.ofChange frameBackSpec)

/-- ITS FALSE NEIGHBOUR: 'it returns false'. Refute it at one input. -/
def frameBackWrong : ChangeSpec := { name := "frameBack", fn := fun _ => fun
  | [d1, d2] => { results := [.lit (.bool false)], args := [d1, d2] }
  | _ => none }
def FrameBackWrongFalsely : Prop := frameBackRow.holds Try.pinned (OpenSpec.ofChange frameBackWrong)

/-- 'scrivenerlaw4.FrameSees': WHATEVER THE INPUT: true; the input reads as it did. -/
def frameSeesSpec : ChangeSpec := { name := "frameSees", fn := fun _ => fun
  | [d1, d2, d3, d4] => { results := [.lit (.bool true)], args := [d1, d2, d3, d4] }
  | _ => none }
def frameSeesRow : OpenClaim := { program := "ytaipanholndefaa", sum := "2d45838ed6ec66a9c52398052f8c0f1f19ad69a9b6ae7584c1bc30195e709489", func := "scrivener/scrivenerlaw4.FrameSees", spec := "frameSees", apart := false }
def FrameSeesSaid : Prop := frameSeesRow.holds Try.pinned (OpenSpec.ofChange frameSeesSpec)

/-- ITS FALSE NEIGHBOUR: 'it returns false'. Refute it at one input. -/
def frameSeesWrong : ChangeSpec := { name := "frameSees", fn := fun _ => fun
  | [d1, d2, d3, d4] => { results := [.lit (.bool false)], args := [d1, d2, d3, d4] }
  | _ => none }
def FrameSeesWrongFalsely : Prop := frameSeesRow.holds Try.pinned (OpenSpec.ofChange frameSeesWrong)

/-- 'scrivenerlaw4.FrameDecodes': WHATEVER THE INPUT: true; the input reads as it did. -/
def frameDecodesSpec : ChangeSpec := { name := "frameDecodes", fn := fun _ => fun
  | [d] => { results := [.lit (.bool true)], args := [d] }
  | _ => none }
def frameDecodesRow : OpenClaim := { program := "ytaipanholndefaa", sum := "2d45838ed6ec66a9c52398052f8c0f1f19ad69a9b6ae7584c1bc30195e709489", func := "scrivener/scrivenerlaw4.FrameDecodes", spec := "frameDecodes", apart := false }
def FrameDecodesSaid : Prop := frameDecodesRow.holds Try.pinned (OpenSpec.ofChange frameDecodesSpec)

/-- ITS FALSE NEIGHBOUR: 'it returns false'. Refute it at one input. -/
def frameDecodesWrong : ChangeSpec := { name := "frameDecodes", fn := fun _ => fun
  | [d] => { results := [.lit (.bool false)], args := [d] }
  | _ => none }
def FrameDecodesWrongFalsely : Prop := frameDecodesRow.holds Try.pinned (OpenSpec.ofChange frameDecodesWrong)

/- THE SECOND FORM. 'bulk': how many values and letters a reading holds, each counted each time it is reached (what is shared counts as often as it is met; a slice's spare places count too). A statement '..UptoSaid' is the law's where the arguments, and the package variables that the reading takes, are together of bulk at most 1048576: NARROWER than '..Said'. Prove '..Said' where nothing that the law and all that it calls make is longer than what came in: it says more and counts as full. Else prove '..UptoSaid'. A law counts once. -/
mutual
def uptoBulk {H : Type} : DataW H → Nat
  | .lit (.string bytes) => bytes.length + 1
  | .lit _ => 1
  | .nil => 1
  | .ptr d => uptoBulk d + 1
  | .slice elems spare => uptoBulkAll elems + uptoBulkAll spare + 1
  | .agg parts => uptoBulkAll parts + 1
  | .iface _ d => uptoBulk d + 1
  | .map entries => uptoBulkEntries entries + 1
  | .held _ => 1
def uptoBulkAll {H : Type} : List (DataW H) → Nat
  | [] => 0
  | d :: r => uptoBulk d + uptoBulkAll r
def uptoBulkEntries {H : Type} : List (Lit × DataW H) → Nat
  | [] => 0
  | x :: r => uptoBulkEntry x + uptoBulkEntries r
def uptoBulkEntry {H : Type} : Lit × DataW H → Nat
  | (.string bytes, d) => bytes.length + uptoBulk d + 1
  | (_, d) => uptoBulk d + 1
 end
def uptoSmall : (H : Type) → List (DataW H) → Bool := fun _ ds => decide (uptoBulkAll ds ≤ 1048576)
def OpenSpec.upto (s : _root_.Go.ChangeSpec) : _root_.Go.OpenSpec := { _root_.Go.OpenSpec.ofChange s with cond := some uptoSmall }

/-- 'scrivenerlaw1.OctetSums', WHERE WHAT IT READS IS OF BULK AT MOST 1048576: true; the input reads as it did. -/
def octetSumsUptoRow : OpenClaim := { program := "ytaipanholndefaa", sum := "2d45838ed6ec66a9c52398052f8c0f1f19ad69a9b6ae7584c1bc30195e709489", func := "scrivener/scrivenerlaw1.OctetSums", spec := "octetSums", apart := false, narrowed := true }
def OctetSumsUptoSaid : Prop := octetSumsUptoRow.holds Try.pinned (OpenSpec.upto octetSumsSpec)

/-- 'scrivenerlaw1.OctetSees', WHERE WHAT IT READS IS OF BULK AT MOST 1048576: true; the input reads as it did. -/
def octetSeesUptoRow : OpenClaim := { program := "ytaipanholndefaa", sum := "2d45838ed6ec66a9c52398052f8c0f1f19ad69a9b6ae7584c1bc30195e709489", func := "scrivener/scrivenerlaw1.OctetSees", spec := "octetSees", apart := false, narrowed := true }
def OctetSeesUptoSaid : Prop := octetSeesUptoRow.holds Try.pinned (OpenSpec.upto octetSeesSpec)

/-- 'scrivenerlaw1.OctetZigs', WHERE WHAT IT READS IS OF BULK AT MOST 1048576: true; the input reads as it did. -/
def octetZigsUptoRow : OpenClaim := { program := "ytaipanholndefaa", sum := "2d45838ed6ec66a9c52398052f8c0f1f19ad69a9b6ae7584c1bc30195e709489", func := "scrivener/scrivenerlaw1.OctetZigs", spec := "octetZigs", apart := false, narrowed := true }
def OctetZigsUptoSaid : Prop := octetZigsUptoRow.holds Try.pinned (OpenSpec.upto octetZigsSpec)

/-- 'scrivenerlaw1.OctetUvarints', WHERE WHAT IT READS IS OF BULK AT MOST 1048576: true; the input reads as it did. -/
def octetUvarintsUptoRow : OpenClaim := { program := "ytaipanholndefaa", sum := "2d45838ed6ec66a9c52398052f8c0f1f19ad69a9b6ae7584c1bc30195e709489", func := "scrivener/scrivenerlaw1.OctetUvarints", spec := "octetUvarints", apart := false, narrowed := true }
def OctetUvarintsUptoSaid : Prop := octetUvarintsUptoRow.holds Try.pinned (OpenSpec.upto octetUvarintsSpec)

/-- 'scrivenerlaw1.OctetReads', WHERE WHAT IT READS IS OF BULK AT MOST 1048576: true; the input reads as it did. -/
def octetReadsUptoRow : OpenClaim := { program := "ytaipanholndefaa", sum := "2d45838ed6ec66a9c52398052f8c0f1f19ad69a9b6ae7584c1bc30195e709489", func := "scrivener/scrivenerlaw1.OctetReads", spec := "octetReads", apart := false, narrowed := true }
def OctetReadsUptoSaid : Prop := octetReadsUptoRow.holds Try.pinned (OpenSpec.upto octetReadsSpec)

/-- 'scrivenerlaw1.OctetBigs', WHERE WHAT IT READS IS OF BULK AT MOST 1048576: true; the input reads as it did. -/
def octetBigsUptoRow : OpenClaim := { program := "ytaipanholndefaa", sum := "2d45838ed6ec66a9c52398052f8c0f1f19ad69a9b6ae7584c1bc30195e709489", func := "scrivener/scrivenerlaw1.OctetBigs", spec := "octetBigs", apart := false, narrowed := true }
def OctetBigsUptoSaid : Prop := octetBigsUptoRow.holds Try.pinned (OpenSpec.upto octetBigsSpec)

/-- 'scrivenerlaw4.FrameEncodes', WHERE WHAT IT READS IS OF BULK AT MOST 1048576: true; the input reads as it did. -/
def frameEncodesUptoRow : OpenClaim := { program := "ytaipanholndefaa", sum := "2d45838ed6ec66a9c52398052f8c0f1f19ad69a9b6ae7584c1bc30195e709489", func := "scrivener/scrivenerlaw4.FrameEncodes", spec := "frameEncodes", apart := false, narrowed := true }
def FrameEncodesUptoSaid : Prop := frameEncodesUptoRow.holds Try.pinned (OpenSpec.upto frameEncodesSpec)

/-- 'scrivenerlaw4.FrameBack', WHERE WHAT IT READS IS OF BULK AT MOST 1048576: true; the input reads as it did. -/
def frameBackUptoRow : OpenClaim := { program := "ytaipanholndefaa", sum := "2d45838ed6ec66a9c52398052f8c0f1f19ad69a9b6ae7584c1bc30195e709489", func := "scrivener/scrivenerlaw4.FrameBack", spec := "frameBack", apart := false, narrowed := true }
def FrameBackUptoSaid : Prop := frameBackUptoRow.holds Try.pinned (OpenSpec.upto frameBackSpec)

/-- 'scrivenerlaw4.FrameSees', WHERE WHAT IT READS IS OF BULK AT MOST 1048576: true; the input reads as it did. -/
def frameSeesUptoRow : OpenClaim := { program := "ytaipanholndefaa", sum := "2d45838ed6ec66a9c52398052f8c0f1f19ad69a9b6ae7584c1bc30195e709489", func := "scrivener/scrivenerlaw4.FrameSees", spec := "frameSees", apart := false, narrowed := true }
def FrameSeesUptoSaid : Prop := frameSeesUptoRow.holds Try.pinned (OpenSpec.upto frameSeesSpec)

/-- 'scrivenerlaw4.FrameDecodes', WHERE WHAT IT READS IS OF BULK AT MOST 1048576: true; the input reads as it did. -/
def frameDecodesUptoRow : OpenClaim := { program := "ytaipanholndefaa", sum := "2d45838ed6ec66a9c52398052f8c0f1f19ad69a9b6ae7584c1bc30195e709489", func := "scrivener/scrivenerlaw4.FrameDecodes", spec := "frameDecodes", apart := false, narrowed := true }
def FrameDecodesUptoSaid : Prop := frameDecodesUptoRow.holds Try.pinned (OpenSpec.upto frameDecodesSpec)

end Rows
end Go.Proofs.Ytaipanholndefaa
