/-
  No cell of these rows narrows 'for every input' (looked for: loops, veiled, ifaces, maps, wideKeys, modest, calm, conditions, laid).
  DERIVED. THE GIVEN ROWS OF THIS SEAT. 18 by the template 'for every input the law returns true; each argument reads behind the call as it read before'; 0 by the template 'total and deterministic' (their statements: YtaegjapbkkfpdaaTotals.lean).
  GIVEN WITH THE SEED: the statements are not yours to turn. If you find one false, say at which input.
  Laid BY PROGRAM, IN A SANDBOX (cutbox-rows.mjs): the forced cells as the released guide's own fill.sh prints them over the translation 610d25513eb8779a… (all of the seat's roots in one cut). By AI agents, Wed Nov 11 2026. No macro, syntax, notation, axiom, sorry.
-/
import Derived.Test.YtaegjapbkkfpdaaChecked
import GoSem.Claim
import GoSem.ClaimJoined
import GoSem.ClaimMapViews
import Derived.JoinedTies
import Derived.KernelRfl
namespace Go.Proofs.Ytaegjapbkkfpdaa
/- THE CELL 'sum', in the pinned program and in every row, IS THE sha256 OF THE DUMP (.gsa) THAT YtaegjapbkkfpdaaProg.lean LOADS. Nothing in Lean hashes anything: it is a label: what it is worth is what the hold of that sum in a sandbox is worth. -/
noncomputable def Try.pinned : Pinned := { name := "ytaegjapbkkfpdaa", sum := "610d25513eb8779a0efba7982ad26927fb7dcd75a1d4c89f739a1ee7bee4672b", checked := Try.checked }
namespace Rows
def none {H : Type} : Left H := { results := [], args := [] }

/-- 'laws.FnExactIsWord': WHATEVER THE INPUT: true; the input reads as it did. -/
def fnExactIsWordSpec : ChangeSpec := { name := "fnExactIsWord", fn := fun _ => fun
  | [d] => { results := [.lit (.bool true)], args := [d] }
  | _ => none }
def fnExactIsWordRow : OpenClaim := { program := "ytaegjapbkkfpdaa", sum := "610d25513eb8779a0efba7982ad26927fb7dcd75a1d4c89f739a1ee7bee4672b", func := "loop.example/g01303/laws.FnExactIsWord", spec := "fnExactIsWord", apart := false }
def FnExactIsWordSaid : Prop := fnExactIsWordRow.holds Try.pinned (OpenSpec.ofChange fnExactIsWordSpec)

/-- ITS FALSE NEIGHBOUR: 'it returns false'. Refute it at one input. -/
def fnExactIsWordWrong : ChangeSpec := { name := "fnExactIsWord", fn := fun _ => fun
  | [d] => { results := [.lit (.bool false)], args := [d] }
  | _ => none }
def FnExactIsWordWrongFalsely : Prop := fnExactIsWordRow.holds Try.pinned (OpenSpec.ofChange fnExactIsWordWrong)

/-- 'laws.FnExactNormalWord': WHATEVER THE INPUT: true; the input reads as it did. -/
def fnExactNormalWordSpec : ChangeSpec := { name := "fnExactNormalWord", fn := fun _ => fun
  | [d] => { results := [.lit (.bool true)], args := [d] }
  | _ => none }
def fnExactNormalWordRow : OpenClaim := { program := "ytaegjapbkkfpdaa", sum := "610d25513eb8779a0efba7982ad26927fb7dcd75a1d4c89f739a1ee7bee4672b", func := "loop.example/g01303/laws.FnExactNormalWord", spec := "fnExactNormalWord", apart := false }
def FnExactNormalWordSaid : Prop := fnExactNormalWordRow.holds Try.pinned (OpenSpec.ofChange fnExactNormalWordSpec)

/-- ITS FALSE NEIGHBOUR: 'it returns false'. Refute it at one input. -/
def fnExactNormalWordWrong : ChangeSpec := { name := "fnExactNormalWord", fn := fun _ => fun
  | [d] => { results := [.lit (.bool false)], args := [d] }
  | _ => none }
def FnExactNormalWordWrongFalsely : Prop := fnExactNormalWordRow.holds Try.pinned (OpenSpec.ofChange fnExactNormalWordWrong)

/-- 'laws.FnExactWordText': WHATEVER THE INPUT: true; the input reads as it did. -/
def fnExactWordTextSpec : ChangeSpec := { name := "fnExactWordText", fn := fun _ => fun
  | [d] => { results := [.lit (.bool true)], args := [d] }
  | _ => none }
def fnExactWordTextRow : OpenClaim := { program := "ytaegjapbkkfpdaa", sum := "610d25513eb8779a0efba7982ad26927fb7dcd75a1d4c89f739a1ee7bee4672b", func := "loop.example/g01303/laws.FnExactWordText", spec := "fnExactWordText", apart := false }
def FnExactWordTextSaid : Prop := fnExactWordTextRow.holds Try.pinned (OpenSpec.ofChange fnExactWordTextSpec)

/-- ITS FALSE NEIGHBOUR: 'it returns false'. Refute it at one input. -/
def fnExactWordTextWrong : ChangeSpec := { name := "fnExactWordText", fn := fun _ => fun
  | [d] => { results := [.lit (.bool false)], args := [d] }
  | _ => none }
def FnExactWordTextWrongFalsely : Prop := fnExactWordTextRow.holds Try.pinned (OpenSpec.ofChange fnExactWordTextWrong)

/-- 'laws.FnExactParseWord': WHATEVER THE INPUT: true; the input reads as it did. -/
def fnExactParseWordSpec : ChangeSpec := { name := "fnExactParseWord", fn := fun _ => fun
  | [d] => { results := [.lit (.bool true)], args := [d] }
  | _ => none }
def fnExactParseWordRow : OpenClaim := { program := "ytaegjapbkkfpdaa", sum := "610d25513eb8779a0efba7982ad26927fb7dcd75a1d4c89f739a1ee7bee4672b", func := "loop.example/g01303/laws.FnExactParseWord", spec := "fnExactParseWord", apart := false }
def FnExactParseWordSaid : Prop := fnExactParseWordRow.holds Try.pinned (OpenSpec.ofChange fnExactParseWordSpec)

/-- ITS FALSE NEIGHBOUR: 'it returns false'. Refute it at one input. -/
def fnExactParseWordWrong : ChangeSpec := { name := "fnExactParseWord", fn := fun _ => fun
  | [d] => { results := [.lit (.bool false)], args := [d] }
  | _ => none }
def FnExactParseWordWrongFalsely : Prop := fnExactParseWordRow.holds Try.pinned (OpenSpec.ofChange fnExactParseWordWrong)

/-- 'laws.FnExactRotationNumber': WHATEVER THE INPUT: true; the input reads as it did. -/
def fnExactRotationNumberSpec : ChangeSpec := { name := "fnExactRotationNumber", fn := fun _ => fun
  | [d] => { results := [.lit (.bool true)], args := [d] }
  | _ => none }
def fnExactRotationNumberRow : OpenClaim := { program := "ytaegjapbkkfpdaa", sum := "610d25513eb8779a0efba7982ad26927fb7dcd75a1d4c89f739a1ee7bee4672b", func := "loop.example/g01303/laws.FnExactRotationNumber", spec := "fnExactRotationNumber", apart := false }
def FnExactRotationNumberSaid : Prop := fnExactRotationNumberRow.holds Try.pinned (OpenSpec.ofChange fnExactRotationNumberSpec)

/-- ITS FALSE NEIGHBOUR: 'it returns false'. Refute it at one input. -/
def fnExactRotationNumberWrong : ChangeSpec := { name := "fnExactRotationNumber", fn := fun _ => fun
  | [d] => { results := [.lit (.bool false)], args := [d] }
  | _ => none }
def FnExactRotationNumberWrongFalsely : Prop := fnExactRotationNumberRow.holds Try.pinned (OpenSpec.ofChange fnExactRotationNumberWrong)

/-- 'laws.FnExactReflectWord': WHATEVER THE INPUT: true; the input reads as it did. -/
def fnExactReflectWordSpec : ChangeSpec := { name := "fnExactReflectWord", fn := fun _ => fun
  | [d] => { results := [.lit (.bool true)], args := [d] }
  | _ => none }
def fnExactReflectWordRow : OpenClaim := { program := "ytaegjapbkkfpdaa", sum := "610d25513eb8779a0efba7982ad26927fb7dcd75a1d4c89f739a1ee7bee4672b", func := "loop.example/g01303/laws.FnExactReflectWord", spec := "fnExactReflectWord", unfollowed := true, recurses := true, apart := false }
def FnExactReflectWordSaid : Prop := fnExactReflectWordRow.holds Try.pinned (OpenSpec.ofChange fnExactReflectWordSpec)

/-- ITS FALSE NEIGHBOUR: 'it returns false'. Refute it at one input. -/
def fnExactReflectWordWrong : ChangeSpec := { name := "fnExactReflectWord", fn := fun _ => fun
  | [d] => { results := [.lit (.bool false)], args := [d] }
  | _ => none }
def FnExactReflectWordWrongFalsely : Prop := fnExactReflectWordRow.holds Try.pinned (OpenSpec.ofChange fnExactReflectWordWrong)

/-- 'laws.FnExactSymmetryNumber': WHATEVER THE INPUT: true; the input reads as it did. -/
def fnExactSymmetryNumberSpec : ChangeSpec := { name := "fnExactSymmetryNumber", fn := fun _ => fun
  | [d] => { results := [.lit (.bool true)], args := [d] }
  | _ => none }
def fnExactSymmetryNumberRow : OpenClaim := { program := "ytaegjapbkkfpdaa", sum := "610d25513eb8779a0efba7982ad26927fb7dcd75a1d4c89f739a1ee7bee4672b", func := "loop.example/g01303/laws.FnExactSymmetryNumber", spec := "fnExactSymmetryNumber", unfollowed := true, recurses := true, apart := false }
def FnExactSymmetryNumberSaid : Prop := fnExactSymmetryNumberRow.holds Try.pinned (OpenSpec.ofChange fnExactSymmetryNumberSpec)

/-- ITS FALSE NEIGHBOUR: 'it returns false'. Refute it at one input. -/
def fnExactSymmetryNumberWrong : ChangeSpec := { name := "fnExactSymmetryNumber", fn := fun _ => fun
  | [d] => { results := [.lit (.bool false)], args := [d] }
  | _ => none }
def FnExactSymmetryNumberWrongFalsely : Prop := fnExactSymmetryNumberRow.holds Try.pinned (OpenSpec.ofChange fnExactSymmetryNumberWrong)

/-- 'laws.FnExactPlacesOf': WHATEVER THE INPUT: true; the input reads as it did. -/
def fnExactPlacesOfSpec : ChangeSpec := { name := "fnExactPlacesOf", fn := fun _ => fun
  | [d1, d2] => { results := [.lit (.bool true)], args := [d1, d2] }
  | _ => none }
def fnExactPlacesOfRow : OpenClaim := { program := "ytaegjapbkkfpdaa", sum := "610d25513eb8779a0efba7982ad26927fb7dcd75a1d4c89f739a1ee7bee4672b", func := "loop.example/g01303/laws.FnExactPlacesOf", spec := "fnExactPlacesOf", apart := false }
def FnExactPlacesOfSaid : Prop := fnExactPlacesOfRow.holds Try.pinned (OpenSpec.ofChange fnExactPlacesOfSpec)

/-- ITS FALSE NEIGHBOUR: 'it returns false'. Refute it at one input. -/
def fnExactPlacesOfWrong : ChangeSpec := { name := "fnExactPlacesOf", fn := fun _ => fun
  | [d1, d2] => { results := [.lit (.bool false)], args := [d1, d2] }
  | _ => none }
def FnExactPlacesOfWrongFalsely : Prop := fnExactPlacesOfRow.holds Try.pinned (OpenSpec.ofChange fnExactPlacesOfWrong)

/-- 'laws.FnExactRotateWord': WHATEVER THE INPUT: true; the input reads as it did. -/
def fnExactRotateWordSpec : ChangeSpec := { name := "fnExactRotateWord", fn := fun _ => fun
  | [d1, d2] => { results := [.lit (.bool true)], args := [d1, d2] }
  | _ => none }
def fnExactRotateWordRow : OpenClaim := { program := "ytaegjapbkkfpdaa", sum := "610d25513eb8779a0efba7982ad26927fb7dcd75a1d4c89f739a1ee7bee4672b", func := "loop.example/g01303/laws.FnExactRotateWord", spec := "fnExactRotateWord", apart := false }
def FnExactRotateWordSaid : Prop := fnExactRotateWordRow.holds Try.pinned (OpenSpec.ofChange fnExactRotateWordSpec)

/-- ITS FALSE NEIGHBOUR: 'it returns false'. Refute it at one input. -/
def fnExactRotateWordWrong : ChangeSpec := { name := "fnExactRotateWord", fn := fun _ => fun
  | [d1, d2] => { results := [.lit (.bool false)], args := [d1, d2] }
  | _ => none }
def FnExactRotateWordWrongFalsely : Prop := fnExactRotateWordRow.holds Try.pinned (OpenSpec.ofChange fnExactRotateWordWrong)

/-- 'laws.FnExactCountCrossings': WHATEVER THE INPUT: true; the input reads as it did. -/
def fnExactCountCrossingsSpec : ChangeSpec := { name := "fnExactCountCrossings", fn := fun _ => fun
  | [d] => { results := [.lit (.bool true)], args := [d] }
  | _ => none }
def fnExactCountCrossingsRow : OpenClaim := { program := "ytaegjapbkkfpdaa", sum := "610d25513eb8779a0efba7982ad26927fb7dcd75a1d4c89f739a1ee7bee4672b", func := "loop.example/g01303/laws.FnExactCountCrossings", spec := "fnExactCountCrossings", unfollowed := true, recurses := true, apart := false }
def FnExactCountCrossingsSaid : Prop := fnExactCountCrossingsRow.holds Try.pinned (OpenSpec.ofChange fnExactCountCrossingsSpec)

/-- ITS FALSE NEIGHBOUR: 'it returns false'. Refute it at one input. -/
def fnExactCountCrossingsWrong : ChangeSpec := { name := "fnExactCountCrossings", fn := fun _ => fun
  | [d] => { results := [.lit (.bool false)], args := [d] }
  | _ => none }
def FnExactCountCrossingsWrongFalsely : Prop := fnExactCountCrossingsRow.holds Try.pinned (OpenSpec.ofChange fnExactCountCrossingsWrong)

/-- 'laws.FnExactJoinWords': WHATEVER THE INPUT: true; the input reads as it did. -/
def fnExactJoinWordsSpec : ChangeSpec := { name := "fnExactJoinWords", fn := fun _ => fun
  | [d1, d2] => { results := [.lit (.bool true)], args := [d1, d2] }
  | _ => none }
def fnExactJoinWordsRow : OpenClaim := { program := "ytaegjapbkkfpdaa", sum := "610d25513eb8779a0efba7982ad26927fb7dcd75a1d4c89f739a1ee7bee4672b", func := "loop.example/g01303/laws.FnExactJoinWords", spec := "fnExactJoinWords", unfollowed := true, recurses := true, apart := false }
def FnExactJoinWordsSaid : Prop := fnExactJoinWordsRow.holds Try.pinned (OpenSpec.ofChange fnExactJoinWordsSpec)

/-- ITS FALSE NEIGHBOUR: 'it returns false'. Refute it at one input. -/
def fnExactJoinWordsWrong : ChangeSpec := { name := "fnExactJoinWords", fn := fun _ => fun
  | [d1, d2] => { results := [.lit (.bool false)], args := [d1, d2] }
  | _ => none }
def FnExactJoinWordsWrongFalsely : Prop := fnExactJoinWordsRow.holds Try.pinned (OpenSpec.ofChange fnExactJoinWordsWrong)

/-- 'laws.FnExactDeleteChord': WHATEVER THE INPUT: true; the input reads as it did. -/
def fnExactDeleteChordSpec : ChangeSpec := { name := "fnExactDeleteChord", fn := fun _ => fun
  | [d1, d2] => { results := [.lit (.bool true)], args := [d1, d2] }
  | _ => none }
def fnExactDeleteChordRow : OpenClaim := { program := "ytaegjapbkkfpdaa", sum := "610d25513eb8779a0efba7982ad26927fb7dcd75a1d4c89f739a1ee7bee4672b", func := "loop.example/g01303/laws.FnExactDeleteChord", spec := "fnExactDeleteChord", unfollowed := true, recurses := true, apart := false }
def FnExactDeleteChordSaid : Prop := fnExactDeleteChordRow.holds Try.pinned (OpenSpec.ofChange fnExactDeleteChordSpec)

/-- ITS FALSE NEIGHBOUR: 'it returns false'. Refute it at one input. -/
def fnExactDeleteChordWrong : ChangeSpec := { name := "fnExactDeleteChord", fn := fun _ => fun
  | [d1, d2] => { results := [.lit (.bool false)], args := [d1, d2] }
  | _ => none }
def FnExactDeleteChordWrongFalsely : Prop := fnExactDeleteChordRow.holds Try.pinned (OpenSpec.ofChange fnExactDeleteChordWrong)

/-- 'laws.FnExactWordOfChords': WHATEVER THE INPUT: true; the input reads as it did. -/
def fnExactWordOfChordsSpec : ChangeSpec := { name := "fnExactWordOfChords", fn := fun _ => fun
  | [d1, d2] => { results := [.lit (.bool true)], args := [d1, d2] }
  | _ => none }
def fnExactWordOfChordsRow : OpenClaim := { program := "ytaegjapbkkfpdaa", sum := "610d25513eb8779a0efba7982ad26927fb7dcd75a1d4c89f739a1ee7bee4672b", func := "loop.example/g01303/laws.FnExactWordOfChords", spec := "fnExactWordOfChords", unfollowed := true, recurses := true, apart := false }
def FnExactWordOfChordsSaid : Prop := fnExactWordOfChordsRow.holds Try.pinned (OpenSpec.ofChange fnExactWordOfChordsSpec)

/-- ITS FALSE NEIGHBOUR: 'it returns false'. Refute it at one input. -/
def fnExactWordOfChordsWrong : ChangeSpec := { name := "fnExactWordOfChords", fn := fun _ => fun
  | [d1, d2] => { results := [.lit (.bool false)], args := [d1, d2] }
  | _ => none }
def FnExactWordOfChordsWrongFalsely : Prop := fnExactWordOfChordsRow.holds Try.pinned (OpenSpec.ofChange fnExactWordOfChordsWrong)

/-- 'laws.FnExactCrossingRows': WHATEVER THE INPUT: true; the input reads as it did. -/
def fnExactCrossingRowsSpec : ChangeSpec := { name := "fnExactCrossingRows", fn := fun _ => fun
  | [d] => { results := [.lit (.bool true)], args := [d] }
  | _ => none }
def fnExactCrossingRowsRow : OpenClaim := { program := "ytaegjapbkkfpdaa", sum := "610d25513eb8779a0efba7982ad26927fb7dcd75a1d4c89f739a1ee7bee4672b", func := "loop.example/g01303/laws.FnExactCrossingRows", spec := "fnExactCrossingRows", apart := false }
def FnExactCrossingRowsSaid : Prop := fnExactCrossingRowsRow.holds Try.pinned (OpenSpec.ofChange fnExactCrossingRowsSpec)

/-- ITS FALSE NEIGHBOUR: 'it returns false'. Refute it at one input. -/
def fnExactCrossingRowsWrong : ChangeSpec := { name := "fnExactCrossingRows", fn := fun _ => fun
  | [d] => { results := [.lit (.bool false)], args := [d] }
  | _ => none }
def FnExactCrossingRowsWrongFalsely : Prop := fnExactCrossingRowsRow.holds Try.pinned (OpenSpec.ofChange fnExactCrossingRowsWrong)

/-- 'laws.FnExactLeastRotation': WHATEVER THE INPUT: true; the input reads as it did. -/
def fnExactLeastRotationSpec : ChangeSpec := { name := "fnExactLeastRotation", fn := fun _ => fun
  | [d] => { results := [.lit (.bool true)], args := [d] }
  | _ => none }
def fnExactLeastRotationRow : OpenClaim := { program := "ytaegjapbkkfpdaa", sum := "610d25513eb8779a0efba7982ad26927fb7dcd75a1d4c89f739a1ee7bee4672b", func := "loop.example/g01303/laws.FnExactLeastRotation", spec := "fnExactLeastRotation", unfollowed := true, recurses := true, apart := false }
def FnExactLeastRotationSaid : Prop := fnExactLeastRotationRow.holds Try.pinned (OpenSpec.ofChange fnExactLeastRotationSpec)

/-- ITS FALSE NEIGHBOUR: 'it returns false'. Refute it at one input. -/
def fnExactLeastRotationWrong : ChangeSpec := { name := "fnExactLeastRotation", fn := fun _ => fun
  | [d] => { results := [.lit (.bool false)], args := [d] }
  | _ => none }
def FnExactLeastRotationWrongFalsely : Prop := fnExactLeastRotationRow.holds Try.pinned (OpenSpec.ofChange fnExactLeastRotationWrong)

/-- 'laws.FnExactIsDiagram': WHATEVER THE INPUT: true; the input reads as it did. -/
def fnExactIsDiagramSpec : ChangeSpec := { name := "fnExactIsDiagram", fn := fun _ => fun
  | [d] => { results := [.lit (.bool true)], args := [d] }
  | _ => none }
def fnExactIsDiagramRow : OpenClaim := { program := "ytaegjapbkkfpdaa", sum := "610d25513eb8779a0efba7982ad26927fb7dcd75a1d4c89f739a1ee7bee4672b", func := "loop.example/g01303/laws.FnExactIsDiagram", spec := "fnExactIsDiagram", apart := false }
def FnExactIsDiagramSaid : Prop := fnExactIsDiagramRow.holds Try.pinned (OpenSpec.ofChange fnExactIsDiagramSpec)

/-- ITS FALSE NEIGHBOUR: 'it returns false'. Refute it at one input. -/
def fnExactIsDiagramWrong : ChangeSpec := { name := "fnExactIsDiagram", fn := fun _ => fun
  | [d] => { results := [.lit (.bool false)], args := [d] }
  | _ => none }
def FnExactIsDiagramWrongFalsely : Prop := fnExactIsDiagramRow.holds Try.pinned (OpenSpec.ofChange fnExactIsDiagramWrong)

/-- 'laws.FnExactAreSameOnCircle': WHATEVER THE INPUT: true; the input reads as it did. -/
def fnExactAreSameOnCircleSpec : ChangeSpec := { name := "fnExactAreSameOnCircle", fn := fun _ => fun
  | [d1, d2] => { results := [.lit (.bool true)], args := [d1, d2] }
  | _ => none }
def fnExactAreSameOnCircleRow : OpenClaim := { program := "ytaegjapbkkfpdaa", sum := "610d25513eb8779a0efba7982ad26927fb7dcd75a1d4c89f739a1ee7bee4672b", func := "loop.example/g01303/laws.FnExactAreSameOnCircle", spec := "fnExactAreSameOnCircle", unfollowed := true, recurses := true, apart := false }
def FnExactAreSameOnCircleSaid : Prop := fnExactAreSameOnCircleRow.holds Try.pinned (OpenSpec.ofChange fnExactAreSameOnCircleSpec)

/-- ITS FALSE NEIGHBOUR: 'it returns false'. Refute it at one input. -/
def fnExactAreSameOnCircleWrong : ChangeSpec := { name := "fnExactAreSameOnCircle", fn := fun _ => fun
  | [d1, d2] => { results := [.lit (.bool false)], args := [d1, d2] }
  | _ => none }
def FnExactAreSameOnCircleWrongFalsely : Prop := fnExactAreSameOnCircleRow.holds Try.pinned (OpenSpec.ofChange fnExactAreSameOnCircleWrong)

/-- 'laws.FnExactAreMirrored': WHATEVER THE INPUT: true; the input reads as it did. -/
def fnExactAreMirroredSpec : ChangeSpec := { name := "fnExactAreMirrored", fn := fun _ => fun
  | [d1, d2] => { results := [.lit (.bool true)], args := [d1, d2] }
  | _ => none }
def fnExactAreMirroredRow : OpenClaim := { program := "ytaegjapbkkfpdaa", sum := "610d25513eb8779a0efba7982ad26927fb7dcd75a1d4c89f739a1ee7bee4672b", func := "loop.example/g01303/laws.FnExactAreMirrored", spec := "fnExactAreMirrored", unfollowed := true, recurses := true, apart := false }
def FnExactAreMirroredSaid : Prop := fnExactAreMirroredRow.holds Try.pinned (OpenSpec.ofChange fnExactAreMirroredSpec)

/-- ITS FALSE NEIGHBOUR: 'it returns false'. Refute it at one input. -/
def fnExactAreMirroredWrong : ChangeSpec := { name := "fnExactAreMirrored", fn := fun _ => fun
  | [d1, d2] => { results := [.lit (.bool false)], args := [d1, d2] }
  | _ => none }
def FnExactAreMirroredWrongFalsely : Prop := fnExactAreMirroredRow.holds Try.pinned (OpenSpec.ofChange fnExactAreMirroredWrong)

/- THE SECOND FORM. 'bulk': how many values and letters a reading holds, each counted each time it is reached (what is shared counts as often as it is met; a slice's spare places count too). A statement '..UptoSaid' is the law's where the arguments, and the package variables that the reading takes, are together of bulk at most 1048576: NARROWER than '..Said'. Prove '..Said' where nothing that the law and all that it calls make is longer than what came in: it says more and counts as full. Else prove '..UptoSaid'. A law counts once. -/
mutual
def uptoBulk {H : Type} : DataW H → Nat
  | .lit (.string bytes) => bytes.length + 1
  | .lit _ => 1
  | .nil => 1
  | .ptr d => uptoBulk d + 1
  | .slice elems spare => uptoBulkAll elems + uptoBulkAll spare + 1
  | .agg parts => uptoBulkAll parts + 1
  | .iface _ d => uptoBulk d + 1
  | .map entries => uptoBulkEntries entries + 1
  | .held _ => 1
def uptoBulkAll {H : Type} : List (DataW H) → Nat
  | [] => 0
  | d :: r => uptoBulk d + uptoBulkAll r
def uptoBulkEntries {H : Type} : List (Lit × DataW H) → Nat
  | [] => 0
  | x :: r => uptoBulkEntry x + uptoBulkEntries r
def uptoBulkEntry {H : Type} : Lit × DataW H → Nat
  | (.string bytes, d) => bytes.length + uptoBulk d + 1
  | (_, d) => uptoBulk d + 1
 end
def uptoSmall : (H : Type) → List (DataW H) → Bool := fun _ ds => decide (uptoBulkAll ds ≤ 1048576)
def OpenSpec.upto (s : _root_.Go.ChangeSpec) : _root_.Go.OpenSpec := { _root_.Go.OpenSpec.ofChange s with cond := some uptoSmall }

/-- 'laws.FnExactIsWord', WHERE WHAT IT READS IS OF BULK AT MOST 1048576: true; the input reads as it did. -/
def fnExactIsWordUptoRow : OpenClaim := { program := "ytaegjapbkkfpdaa", sum := "610d25513eb8779a0efba7982ad26927fb7dcd75a1d4c89f739a1ee7bee4672b", func := "loop.example/g01303/laws.FnExactIsWord", spec := "fnExactIsWord", apart := false, narrowed := true }
def FnExactIsWordUptoSaid : Prop := fnExactIsWordUptoRow.holds Try.pinned (OpenSpec.upto fnExactIsWordSpec)

/-- 'laws.FnExactNormalWord', WHERE WHAT IT READS IS OF BULK AT MOST 1048576: true; the input reads as it did. -/
def fnExactNormalWordUptoRow : OpenClaim := { program := "ytaegjapbkkfpdaa", sum := "610d25513eb8779a0efba7982ad26927fb7dcd75a1d4c89f739a1ee7bee4672b", func := "loop.example/g01303/laws.FnExactNormalWord", spec := "fnExactNormalWord", apart := false, narrowed := true }
def FnExactNormalWordUptoSaid : Prop := fnExactNormalWordUptoRow.holds Try.pinned (OpenSpec.upto fnExactNormalWordSpec)

/-- 'laws.FnExactWordText', WHERE WHAT IT READS IS OF BULK AT MOST 1048576: true; the input reads as it did. -/
def fnExactWordTextUptoRow : OpenClaim := { program := "ytaegjapbkkfpdaa", sum := "610d25513eb8779a0efba7982ad26927fb7dcd75a1d4c89f739a1ee7bee4672b", func := "loop.example/g01303/laws.FnExactWordText", spec := "fnExactWordText", apart := false, narrowed := true }
def FnExactWordTextUptoSaid : Prop := fnExactWordTextUptoRow.holds Try.pinned (OpenSpec.upto fnExactWordTextSpec)

/-- 'laws.FnExactParseWord', WHERE WHAT IT READS IS OF BULK AT MOST 1048576: true; the input reads as it did. -/
def fnExactParseWordUptoRow : OpenClaim := { program := "ytaegjapbkkfpdaa", sum := "610d25513eb8779a0efba7982ad26927fb7dcd75a1d4c89f739a1ee7bee4672b", func := "loop.example/g01303/laws.FnExactParseWord", spec := "fnExactParseWord", apart := false, narrowed := true }
def FnExactParseWordUptoSaid : Prop := fnExactParseWordUptoRow.holds Try.pinned (OpenSpec.upto fnExactParseWordSpec)

/-- 'laws.FnExactRotationNumber', WHERE WHAT IT READS IS OF BULK AT MOST 1048576: true; the input reads as it did. -/
def fnExactRotationNumberUptoRow : OpenClaim := { program := "ytaegjapbkkfpdaa", sum := "610d25513eb8779a0efba7982ad26927fb7dcd75a1d4c89f739a1ee7bee4672b", func := "loop.example/g01303/laws.FnExactRotationNumber", spec := "fnExactRotationNumber", apart := false, narrowed := true }
def FnExactRotationNumberUptoSaid : Prop := fnExactRotationNumberUptoRow.holds Try.pinned (OpenSpec.upto fnExactRotationNumberSpec)

/-- 'laws.FnExactReflectWord', WHERE WHAT IT READS IS OF BULK AT MOST 1048576: true; the input reads as it did. -/
def fnExactReflectWordUptoRow : OpenClaim := { program := "ytaegjapbkkfpdaa", sum := "610d25513eb8779a0efba7982ad26927fb7dcd75a1d4c89f739a1ee7bee4672b", func := "loop.example/g01303/laws.FnExactReflectWord", spec := "fnExactReflectWord", unfollowed := true, recurses := true, apart := false, narrowed := true }
def FnExactReflectWordUptoSaid : Prop := fnExactReflectWordUptoRow.holds Try.pinned (OpenSpec.upto fnExactReflectWordSpec)

/-- 'laws.FnExactSymmetryNumber', WHERE WHAT IT READS IS OF BULK AT MOST 1048576: true; the input reads as it did. -/
def fnExactSymmetryNumberUptoRow : OpenClaim := { program := "ytaegjapbkkfpdaa", sum := "610d25513eb8779a0efba7982ad26927fb7dcd75a1d4c89f739a1ee7bee4672b", func := "loop.example/g01303/laws.FnExactSymmetryNumber", spec := "fnExactSymmetryNumber", unfollowed := true, recurses := true, apart := false, narrowed := true }
def FnExactSymmetryNumberUptoSaid : Prop := fnExactSymmetryNumberUptoRow.holds Try.pinned (OpenSpec.upto fnExactSymmetryNumberSpec)

/-- 'laws.FnExactPlacesOf', WHERE WHAT IT READS IS OF BULK AT MOST 1048576: true; the input reads as it did. -/
def fnExactPlacesOfUptoRow : OpenClaim := { program := "ytaegjapbkkfpdaa", sum := "610d25513eb8779a0efba7982ad26927fb7dcd75a1d4c89f739a1ee7bee4672b", func := "loop.example/g01303/laws.FnExactPlacesOf", spec := "fnExactPlacesOf", apart := false, narrowed := true }
def FnExactPlacesOfUptoSaid : Prop := fnExactPlacesOfUptoRow.holds Try.pinned (OpenSpec.upto fnExactPlacesOfSpec)

/-- 'laws.FnExactRotateWord', WHERE WHAT IT READS IS OF BULK AT MOST 1048576: true; the input reads as it did. -/
def fnExactRotateWordUptoRow : OpenClaim := { program := "ytaegjapbkkfpdaa", sum := "610d25513eb8779a0efba7982ad26927fb7dcd75a1d4c89f739a1ee7bee4672b", func := "loop.example/g01303/laws.FnExactRotateWord", spec := "fnExactRotateWord", apart := false, narrowed := true }
def FnExactRotateWordUptoSaid : Prop := fnExactRotateWordUptoRow.holds Try.pinned (OpenSpec.upto fnExactRotateWordSpec)

/-- 'laws.FnExactCountCrossings', WHERE WHAT IT READS IS OF BULK AT MOST 1048576: true; the input reads as it did. -/
def fnExactCountCrossingsUptoRow : OpenClaim := { program := "ytaegjapbkkfpdaa", sum := "610d25513eb8779a0efba7982ad26927fb7dcd75a1d4c89f739a1ee7bee4672b", func := "loop.example/g01303/laws.FnExactCountCrossings", spec := "fnExactCountCrossings", unfollowed := true, recurses := true, apart := false, narrowed := true }
def FnExactCountCrossingsUptoSaid : Prop := fnExactCountCrossingsUptoRow.holds Try.pinned (OpenSpec.upto fnExactCountCrossingsSpec)

/-- 'laws.FnExactJoinWords', WHERE WHAT IT READS IS OF BULK AT MOST 1048576: true; the input reads as it did. -/
def fnExactJoinWordsUptoRow : OpenClaim := { program := "ytaegjapbkkfpdaa", sum := "610d25513eb8779a0efba7982ad26927fb7dcd75a1d4c89f739a1ee7bee4672b", func := "loop.example/g01303/laws.FnExactJoinWords", spec := "fnExactJoinWords", unfollowed := true, recurses := true, apart := false, narrowed := true }
def FnExactJoinWordsUptoSaid : Prop := fnExactJoinWordsUptoRow.holds Try.pinned (OpenSpec.upto fnExactJoinWordsSpec)

/-- 'laws.FnExactDeleteChord', WHERE WHAT IT READS IS OF BULK AT MOST 1048576: true; the input reads as it did. -/
def fnExactDeleteChordUptoRow : OpenClaim := { program := "ytaegjapbkkfpdaa", sum := "610d25513eb8779a0efba7982ad26927fb7dcd75a1d4c89f739a1ee7bee4672b", func := "loop.example/g01303/laws.FnExactDeleteChord", spec := "fnExactDeleteChord", unfollowed := true, recurses := true, apart := false, narrowed := true }
def FnExactDeleteChordUptoSaid : Prop := fnExactDeleteChordUptoRow.holds Try.pinned (OpenSpec.upto fnExactDeleteChordSpec)

/-- 'laws.FnExactWordOfChords', WHERE WHAT IT READS IS OF BULK AT MOST 1048576: true; the input reads as it did. -/
def fnExactWordOfChordsUptoRow : OpenClaim := { program := "ytaegjapbkkfpdaa", sum := "610d25513eb8779a0efba7982ad26927fb7dcd75a1d4c89f739a1ee7bee4672b", func := "loop.example/g01303/laws.FnExactWordOfChords", spec := "fnExactWordOfChords", unfollowed := true, recurses := true, apart := false, narrowed := true }
def FnExactWordOfChordsUptoSaid : Prop := fnExactWordOfChordsUptoRow.holds Try.pinned (OpenSpec.upto fnExactWordOfChordsSpec)

/-- 'laws.FnExactCrossingRows', WHERE WHAT IT READS IS OF BULK AT MOST 1048576: true; the input reads as it did. -/
def fnExactCrossingRowsUptoRow : OpenClaim := { program := "ytaegjapbkkfpdaa", sum := "610d25513eb8779a0efba7982ad26927fb7dcd75a1d4c89f739a1ee7bee4672b", func := "loop.example/g01303/laws.FnExactCrossingRows", spec := "fnExactCrossingRows", apart := false, narrowed := true }
def FnExactCrossingRowsUptoSaid : Prop := fnExactCrossingRowsUptoRow.holds Try.pinned (OpenSpec.upto fnExactCrossingRowsSpec)

/-- 'laws.FnExactLeastRotation', WHERE WHAT IT READS IS OF BULK AT MOST 1048576: true; the input reads as it did. -/
def fnExactLeastRotationUptoRow : OpenClaim := { program := "ytaegjapbkkfpdaa", sum := "610d25513eb8779a0efba7982ad26927fb7dcd75a1d4c89f739a1ee7bee4672b", func := "loop.example/g01303/laws.FnExactLeastRotation", spec := "fnExactLeastRotation", unfollowed := true, recurses := true, apart := false, narrowed := true }
def FnExactLeastRotationUptoSaid : Prop := fnExactLeastRotationUptoRow.holds Try.pinned (OpenSpec.upto fnExactLeastRotationSpec)

/-- 'laws.FnExactIsDiagram', WHERE WHAT IT READS IS OF BULK AT MOST 1048576: true; the input reads as it did. -/
def fnExactIsDiagramUptoRow : OpenClaim := { program := "ytaegjapbkkfpdaa", sum := "610d25513eb8779a0efba7982ad26927fb7dcd75a1d4c89f739a1ee7bee4672b", func := "loop.example/g01303/laws.FnExactIsDiagram", spec := "fnExactIsDiagram", apart := false, narrowed := true }
def FnExactIsDiagramUptoSaid : Prop := fnExactIsDiagramUptoRow.holds Try.pinned (OpenSpec.upto fnExactIsDiagramSpec)

/-- 'laws.FnExactAreSameOnCircle', WHERE WHAT IT READS IS OF BULK AT MOST 1048576: true; the input reads as it did. -/
def fnExactAreSameOnCircleUptoRow : OpenClaim := { program := "ytaegjapbkkfpdaa", sum := "610d25513eb8779a0efba7982ad26927fb7dcd75a1d4c89f739a1ee7bee4672b", func := "loop.example/g01303/laws.FnExactAreSameOnCircle", spec := "fnExactAreSameOnCircle", unfollowed := true, recurses := true, apart := false, narrowed := true }
def FnExactAreSameOnCircleUptoSaid : Prop := fnExactAreSameOnCircleUptoRow.holds Try.pinned (OpenSpec.upto fnExactAreSameOnCircleSpec)

/-- 'laws.FnExactAreMirrored', WHERE WHAT IT READS IS OF BULK AT MOST 1048576: true; the input reads as it did. -/
def fnExactAreMirroredUptoRow : OpenClaim := { program := "ytaegjapbkkfpdaa", sum := "610d25513eb8779a0efba7982ad26927fb7dcd75a1d4c89f739a1ee7bee4672b", func := "loop.example/g01303/laws.FnExactAreMirrored", spec := "fnExactAreMirrored", unfollowed := true, recurses := true, apart := false, narrowed := true }
def FnExactAreMirroredUptoSaid : Prop := fnExactAreMirroredUptoRow.holds Try.pinned (OpenSpec.upto fnExactAreMirroredSpec)

end Rows
end Go.Proofs.Ytaegjapbkkfpdaa
