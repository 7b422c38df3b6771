/-
  No cell of these rows narrows 'for every input' (looked for: loops, veiled, ifaces, maps, wideKeys, modest, calm, conditions, laid).
  DERIVED. THE GIVEN ROWS OF THIS SEAT. 19 by the template 'for every input the law returns true; each argument reads behind the call as it read before'; 0 by the template 'total and deterministic' (their statements: YtckmncebedhgeaaTotals.lean).
  GIVEN WITH THE SEED: the statements are not yours to turn. If you find one false, say at which input.
  Laid BY PROGRAM, IN A SANDBOX (cutbox-rows.mjs): the forced cells as the released guide's own fill.sh prints them over the translation 064d4872b5727fd1… (all of the seat's roots in one cut). By AI agents, Wed Nov 11 2026. No macro, syntax, notation, axiom, sorry.
-/
import Derived.Test.YtckmncebedhgeaaChecked
import GoSem.Claim
import GoSem.ClaimJoined
import GoSem.ClaimMapViews
import Derived.JoinedTies
import Derived.KernelRfl
namespace Go.Proofs.Ytckmncebedhgeaa
/- THE CELL 'sum', in the pinned program and in every row, IS THE sha256 OF THE DUMP (.gsa) THAT YtckmncebedhgeaaProg.lean LOADS. Nothing in Lean hashes anything: it is a label: what it is worth is what the hold of that sum in a sandbox is worth. -/
noncomputable def Try.pinned : Pinned := { name := "ytckmncebedhgeaa", sum := "064d4872b5727fd143ed75b99aa5a0f08cea9afbdd5e1d8903535bc08adac93c", checked := Try.checked }
namespace Rows
def none {H : Type} : Left H := { results := [], args := [] }

/-- 'laws.FnExactWordsOf': WHATEVER THE INPUT: true; the input reads as it did. -/
def fnExactWordsOfSpec : ChangeSpec := { name := "fnExactWordsOf", fn := fun _ => fun
  | [d] => { results := [.lit (.bool true)], args := [d] }
  | _ => none }
def fnExactWordsOfRow : OpenClaim := { program := "ytckmncebedhgeaa", sum := "064d4872b5727fd143ed75b99aa5a0f08cea9afbdd5e1d8903535bc08adac93c", func := "loop.example/g01303/laws.FnExactWordsOf", spec := "fnExactWordsOf", unfollowed := true, recurses := true, apart := false }
def FnExactWordsOfSaid : Prop := fnExactWordsOfRow.holds Try.pinned (OpenSpec.ofChange fnExactWordsOfSpec)

/-- ITS FALSE NEIGHBOUR: 'it returns false'. Refute it at one input. -/
def fnExactWordsOfWrong : ChangeSpec := { name := "fnExactWordsOf", fn := fun _ => fun
  | [d] => { results := [.lit (.bool false)], args := [d] }
  | _ => none }
def FnExactWordsOfWrongFalsely : Prop := fnExactWordsOfRow.holds Try.pinned (OpenSpec.ofChange fnExactWordsOfWrong)

/-- 'laws.FnExactBlocksOf': WHATEVER THE INPUT: true; the input reads as it did. -/
def fnExactBlocksOfSpec : ChangeSpec := { name := "fnExactBlocksOf", fn := fun _ => fun
  | [d] => { results := [.lit (.bool true)], args := [d] }
  | _ => none }
def fnExactBlocksOfRow : OpenClaim := { program := "ytckmncebedhgeaa", sum := "064d4872b5727fd143ed75b99aa5a0f08cea9afbdd5e1d8903535bc08adac93c", func := "loop.example/g01303/laws.FnExactBlocksOf", spec := "fnExactBlocksOf", apart := false }
def FnExactBlocksOfSaid : Prop := fnExactBlocksOfRow.holds Try.pinned (OpenSpec.ofChange fnExactBlocksOfSpec)

/-- ITS FALSE NEIGHBOUR: 'it returns false'. Refute it at one input. -/
def fnExactBlocksOfWrong : ChangeSpec := { name := "fnExactBlocksOf", fn := fun _ => fun
  | [d] => { results := [.lit (.bool false)], args := [d] }
  | _ => none }
def FnExactBlocksOfWrongFalsely : Prop := fnExactBlocksOfRow.holds Try.pinned (OpenSpec.ofChange fnExactBlocksOfWrong)

/-- 'laws.FnExactBorderCircles': WHATEVER THE INPUT: true; the input reads as it did. -/
def fnExactBorderCirclesSpec : ChangeSpec := { name := "fnExactBorderCircles", fn := fun _ => fun
  | [d] => { results := [.lit (.bool true)], args := [d] }
  | _ => none }
def fnExactBorderCirclesRow : OpenClaim := { program := "ytckmncebedhgeaa", sum := "064d4872b5727fd143ed75b99aa5a0f08cea9afbdd5e1d8903535bc08adac93c", func := "loop.example/g01303/laws.FnExactBorderCircles", spec := "fnExactBorderCircles", unfollowed := true, recurses := true, apart := false }
def FnExactBorderCirclesSaid : Prop := fnExactBorderCirclesRow.holds Try.pinned (OpenSpec.ofChange fnExactBorderCirclesSpec)

/-- ITS FALSE NEIGHBOUR: 'it returns false'. Refute it at one input. -/
def fnExactBorderCirclesWrong : ChangeSpec := { name := "fnExactBorderCircles", fn := fun _ => fun
  | [d] => { results := [.lit (.bool false)], args := [d] }
  | _ => none }
def FnExactBorderCirclesWrongFalsely : Prop := fnExactBorderCirclesRow.holds Try.pinned (OpenSpec.ofChange fnExactBorderCirclesWrong)

/-- 'laws.FnExactGenusOf': WHATEVER THE INPUT: true; the input reads as it did. -/
def fnExactGenusOfSpec : ChangeSpec := { name := "fnExactGenusOf", fn := fun _ => fun
  | [d] => { results := [.lit (.bool true)], args := [d] }
  | _ => none }
def fnExactGenusOfRow : OpenClaim := { program := "ytckmncebedhgeaa", sum := "064d4872b5727fd143ed75b99aa5a0f08cea9afbdd5e1d8903535bc08adac93c", func := "loop.example/g01303/laws.FnExactGenusOf", spec := "fnExactGenusOf", unfollowed := true, recurses := true, apart := false }
def FnExactGenusOfSaid : Prop := fnExactGenusOfRow.holds Try.pinned (OpenSpec.ofChange fnExactGenusOfSpec)

/-- ITS FALSE NEIGHBOUR: 'it returns false'. Refute it at one input. -/
def fnExactGenusOfWrong : ChangeSpec := { name := "fnExactGenusOf", fn := fun _ => fun
  | [d] => { results := [.lit (.bool false)], args := [d] }
  | _ => none }
def FnExactGenusOfWrongFalsely : Prop := fnExactGenusOfRow.holds Try.pinned (OpenSpec.ofChange fnExactGenusOfWrong)

/-- 'laws.FnExactCountApart': WHATEVER THE INPUT: true; the input reads as it did. -/
def fnExactCountApartSpec : ChangeSpec := { name := "fnExactCountApart", fn := fun _ => fun
  | [d] => { results := [.lit (.bool true)], args := [d] }
  | _ => none }
def fnExactCountApartRow : OpenClaim := { program := "ytckmncebedhgeaa", sum := "064d4872b5727fd143ed75b99aa5a0f08cea9afbdd5e1d8903535bc08adac93c", func := "loop.example/g01303/laws.FnExactCountApart", spec := "fnExactCountApart", unfollowed := true, recurses := true, apart := false }
def FnExactCountApartSaid : Prop := fnExactCountApartRow.holds Try.pinned (OpenSpec.ofChange fnExactCountApartSpec)

/-- ITS FALSE NEIGHBOUR: 'it returns false'. Refute it at one input. -/
def fnExactCountApartWrong : ChangeSpec := { name := "fnExactCountApart", fn := fun _ => fun
  | [d] => { results := [.lit (.bool false)], args := [d] }
  | _ => none }
def FnExactCountApartWrongFalsely : Prop := fnExactCountApartRow.holds Try.pinned (OpenSpec.ofChange fnExactCountApartWrong)

/-- 'laws.FnExactCountNested': WHATEVER THE INPUT: true; the input reads as it did. -/
def fnExactCountNestedSpec : ChangeSpec := { name := "fnExactCountNested", fn := fun _ => fun
  | [d] => { results := [.lit (.bool true)], args := [d] }
  | _ => none }
def fnExactCountNestedRow : OpenClaim := { program := "ytckmncebedhgeaa", sum := "064d4872b5727fd143ed75b99aa5a0f08cea9afbdd5e1d8903535bc08adac93c", func := "loop.example/g01303/laws.FnExactCountNested", spec := "fnExactCountNested", unfollowed := true, recurses := true, apart := false }
def FnExactCountNestedSaid : Prop := fnExactCountNestedRow.holds Try.pinned (OpenSpec.ofChange fnExactCountNestedSpec)

/-- ITS FALSE NEIGHBOUR: 'it returns false'. Refute it at one input. -/
def fnExactCountNestedWrong : ChangeSpec := { name := "fnExactCountNested", fn := fun _ => fun
  | [d] => { results := [.lit (.bool false)], args := [d] }
  | _ => none }
def FnExactCountNestedWrongFalsely : Prop := fnExactCountNestedRow.holds Try.pinned (OpenSpec.ofChange fnExactCountNestedWrong)

/-- 'laws.FnExactDegreesOf': WHATEVER THE INPUT: true; the input reads as it did. -/
def fnExactDegreesOfSpec : ChangeSpec := { name := "fnExactDegreesOf", fn := fun _ => fun
  | [d] => { results := [.lit (.bool true)], args := [d] }
  | _ => none }
def fnExactDegreesOfRow : OpenClaim := { program := "ytckmncebedhgeaa", sum := "064d4872b5727fd143ed75b99aa5a0f08cea9afbdd5e1d8903535bc08adac93c", func := "loop.example/g01303/laws.FnExactDegreesOf", spec := "fnExactDegreesOf", unfollowed := true, recurses := true, apart := false }
def FnExactDegreesOfSaid : Prop := fnExactDegreesOfRow.holds Try.pinned (OpenSpec.ofChange fnExactDegreesOfSpec)

/-- ITS FALSE NEIGHBOUR: 'it returns false'. Refute it at one input. -/
def fnExactDegreesOfWrong : ChangeSpec := { name := "fnExactDegreesOf", fn := fun _ => fun
  | [d] => { results := [.lit (.bool false)], args := [d] }
  | _ => none }
def FnExactDegreesOfWrongFalsely : Prop := fnExactDegreesOfRow.holds Try.pinned (OpenSpec.ofChange fnExactDegreesOfWrong)

/-- 'laws.FnExactIsolatedChords': WHATEVER THE INPUT: true; the input reads as it did. -/
def fnExactIsolatedChordsSpec : ChangeSpec := { name := "fnExactIsolatedChords", fn := fun _ => fun
  | [d] => { results := [.lit (.bool true)], args := [d] }
  | _ => none }
def fnExactIsolatedChordsRow : OpenClaim := { program := "ytckmncebedhgeaa", sum := "064d4872b5727fd143ed75b99aa5a0f08cea9afbdd5e1d8903535bc08adac93c", func := "loop.example/g01303/laws.FnExactIsolatedChords", spec := "fnExactIsolatedChords", unfollowed := true, recurses := true, apart := false }
def FnExactIsolatedChordsSaid : Prop := fnExactIsolatedChordsRow.holds Try.pinned (OpenSpec.ofChange fnExactIsolatedChordsSpec)

/-- ITS FALSE NEIGHBOUR: 'it returns false'. Refute it at one input. -/
def fnExactIsolatedChordsWrong : ChangeSpec := { name := "fnExactIsolatedChords", fn := fun _ => fun
  | [d] => { results := [.lit (.bool false)], args := [d] }
  | _ => none }
def FnExactIsolatedChordsWrongFalsely : Prop := fnExactIsolatedChordsRow.holds Try.pinned (OpenSpec.ofChange fnExactIsolatedChordsWrong)

/-- 'laws.FnExactPlaceInList': WHATEVER THE INPUT: true; the input reads as it did. -/
def fnExactPlaceInListSpec : ChangeSpec := { name := "fnExactPlaceInList", fn := fun _ => fun
  | [d] => { results := [.lit (.bool true)], args := [d] }
  | _ => none }
def fnExactPlaceInListRow : OpenClaim := { program := "ytckmncebedhgeaa", sum := "064d4872b5727fd143ed75b99aa5a0f08cea9afbdd5e1d8903535bc08adac93c", func := "loop.example/g01303/laws.FnExactPlaceInList", spec := "fnExactPlaceInList", unfollowed := true, recurses := true, apart := false }
def FnExactPlaceInListSaid : Prop := fnExactPlaceInListRow.holds Try.pinned (OpenSpec.ofChange fnExactPlaceInListSpec)

/-- ITS FALSE NEIGHBOUR: 'it returns false'. Refute it at one input. -/
def fnExactPlaceInListWrong : ChangeSpec := { name := "fnExactPlaceInList", fn := fun _ => fun
  | [d] => { results := [.lit (.bool false)], args := [d] }
  | _ => none }
def FnExactPlaceInListWrongFalsely : Prop := fnExactPlaceInListRow.holds Try.pinned (OpenSpec.ofChange fnExactPlaceInListWrong)

/-- 'laws.FnExactDiagramsOf': WHATEVER THE INPUT: true; the input reads as it did. -/
def fnExactDiagramsOfSpec : ChangeSpec := { name := "fnExactDiagramsOf", fn := fun _ => fun
  | [d] => { results := [.lit (.bool true)], args := [d] }
  | _ => none }
def fnExactDiagramsOfRow : OpenClaim := { program := "ytckmncebedhgeaa", sum := "064d4872b5727fd143ed75b99aa5a0f08cea9afbdd5e1d8903535bc08adac93c", func := "loop.example/g01303/laws.FnExactDiagramsOf", spec := "fnExactDiagramsOf", unfollowed := true, recurses := true, apart := false }
def FnExactDiagramsOfSaid : Prop := fnExactDiagramsOfRow.holds Try.pinned (OpenSpec.ofChange fnExactDiagramsOfSpec)

/-- ITS FALSE NEIGHBOUR: 'it returns false'. Refute it at one input. -/
def fnExactDiagramsOfWrong : ChangeSpec := { name := "fnExactDiagramsOf", fn := fun _ => fun
  | [d] => { results := [.lit (.bool false)], args := [d] }
  | _ => none }
def FnExactDiagramsOfWrongFalsely : Prop := fnExactDiagramsOfRow.holds Try.pinned (OpenSpec.ofChange fnExactDiagramsOfWrong)

/-- 'laws.FnExactCirclesOf': WHATEVER THE INPUT: true; the input reads as it did. -/
def fnExactCirclesOfSpec : ChangeSpec := { name := "fnExactCirclesOf", fn := fun _ => fun
  | [d1, d2] => { results := [.lit (.bool true)], args := [d1, d2] }
  | _ => none }
def fnExactCirclesOfRow : OpenClaim := { program := "ytckmncebedhgeaa", sum := "064d4872b5727fd143ed75b99aa5a0f08cea9afbdd5e1d8903535bc08adac93c", func := "loop.example/g01303/laws.FnExactCirclesOf", spec := "fnExactCirclesOf", unfollowed := true, recurses := true, apart := false }
def FnExactCirclesOfSaid : Prop := fnExactCirclesOfRow.holds Try.pinned (OpenSpec.ofChange fnExactCirclesOfSpec)

/-- ITS FALSE NEIGHBOUR: 'it returns false'. Refute it at one input. -/
def fnExactCirclesOfWrong : ChangeSpec := { name := "fnExactCirclesOf", fn := fun _ => fun
  | [d1, d2] => { results := [.lit (.bool false)], args := [d1, d2] }
  | _ => none }
def FnExactCirclesOfWrongFalsely : Prop := fnExactCirclesOfRow.holds Try.pinned (OpenSpec.ofChange fnExactCirclesOfWrong)

/-- 'laws.FnExactTwistNumbers': WHATEVER THE INPUT: true; the input reads as it did. -/
def fnExactTwistNumbersSpec : ChangeSpec := { name := "fnExactTwistNumbers", fn := fun _ => fun
  | [d] => { results := [.lit (.bool true)], args := [d] }
  | _ => none }
def fnExactTwistNumbersRow : OpenClaim := { program := "ytckmncebedhgeaa", sum := "064d4872b5727fd143ed75b99aa5a0f08cea9afbdd5e1d8903535bc08adac93c", func := "loop.example/g01303/laws.FnExactTwistNumbers", spec := "fnExactTwistNumbers", unfollowed := true, recurses := true, apart := false }
def FnExactTwistNumbersSaid : Prop := fnExactTwistNumbersRow.holds Try.pinned (OpenSpec.ofChange fnExactTwistNumbersSpec)

/-- ITS FALSE NEIGHBOUR: 'it returns false'. Refute it at one input. -/
def fnExactTwistNumbersWrong : ChangeSpec := { name := "fnExactTwistNumbers", fn := fun _ => fun
  | [d] => { results := [.lit (.bool false)], args := [d] }
  | _ => none }
def FnExactTwistNumbersWrongFalsely : Prop := fnExactTwistNumbersRow.holds Try.pinned (OpenSpec.ofChange fnExactTwistNumbersWrong)

/-- 'laws.FnExactWebOfWord': WHATEVER THE INPUT: true; the input reads as it did. -/
def fnExactWebOfWordSpec : ChangeSpec := { name := "fnExactWebOfWord", fn := fun _ => fun
  | [d] => { results := [.lit (.bool true)], args := [d] }
  | _ => none }
def fnExactWebOfWordRow : OpenClaim := { program := "ytckmncebedhgeaa", sum := "064d4872b5727fd143ed75b99aa5a0f08cea9afbdd5e1d8903535bc08adac93c", func := "loop.example/g01303/laws.FnExactWebOfWord", spec := "fnExactWebOfWord", apart := false }
def FnExactWebOfWordSaid : Prop := fnExactWebOfWordRow.holds Try.pinned (OpenSpec.ofChange fnExactWebOfWordSpec)

/-- ITS FALSE NEIGHBOUR: 'it returns false'. Refute it at one input. -/
def fnExactWebOfWordWrong : ChangeSpec := { name := "fnExactWebOfWord", fn := fun _ => fun
  | [d] => { results := [.lit (.bool false)], args := [d] }
  | _ => none }
def FnExactWebOfWordWrongFalsely : Prop := fnExactWebOfWordRow.holds Try.pinned (OpenSpec.ofChange fnExactWebOfWordWrong)

/-- 'laws.FnExactIsGauss': WHATEVER THE INPUT: true; the input reads as it did. -/
def fnExactIsGaussSpec : ChangeSpec := { name := "fnExactIsGauss", fn := fun _ => fun
  | [d] => { results := [.lit (.bool true)], args := [d] }
  | _ => none }
def fnExactIsGaussRow : OpenClaim := { program := "ytckmncebedhgeaa", sum := "064d4872b5727fd143ed75b99aa5a0f08cea9afbdd5e1d8903535bc08adac93c", func := "loop.example/g01303/laws.FnExactIsGauss", spec := "fnExactIsGauss", unfollowed := true, recurses := true, apart := false }
def FnExactIsGaussSaid : Prop := fnExactIsGaussRow.holds Try.pinned (OpenSpec.ofChange fnExactIsGaussSpec)

/-- ITS FALSE NEIGHBOUR: 'it returns false'. Refute it at one input. -/
def fnExactIsGaussWrong : ChangeSpec := { name := "fnExactIsGauss", fn := fun _ => fun
  | [d] => { results := [.lit (.bool false)], args := [d] }
  | _ => none }
def FnExactIsGaussWrongFalsely : Prop := fnExactIsGaussRow.holds Try.pinned (OpenSpec.ofChange fnExactIsGaussWrong)

/-- 'laws.FnExactWritheOf': WHATEVER THE INPUT: true; the input reads as it did. -/
def fnExactWritheOfSpec : ChangeSpec := { name := "fnExactWritheOf", fn := fun _ => fun
  | [d] => { results := [.lit (.bool true)], args := [d] }
  | _ => none }
def fnExactWritheOfRow : OpenClaim := { program := "ytckmncebedhgeaa", sum := "064d4872b5727fd143ed75b99aa5a0f08cea9afbdd5e1d8903535bc08adac93c", func := "loop.example/g01303/laws.FnExactWritheOf", spec := "fnExactWritheOf", unfollowed := true, recurses := true, apart := false }
def FnExactWritheOfSaid : Prop := fnExactWritheOfRow.holds Try.pinned (OpenSpec.ofChange fnExactWritheOfSpec)

/-- ITS FALSE NEIGHBOUR: 'it returns false'. Refute it at one input. -/
def fnExactWritheOfWrong : ChangeSpec := { name := "fnExactWritheOf", fn := fun _ => fun
  | [d] => { results := [.lit (.bool false)], args := [d] }
  | _ => none }
def FnExactWritheOfWrongFalsely : Prop := fnExactWritheOfRow.holds Try.pinned (OpenSpec.ofChange fnExactWritheOfWrong)

/-- 'laws.FnExactGaussText': WHATEVER THE INPUT: true; the input reads as it did. -/
def fnExactGaussTextSpec : ChangeSpec := { name := "fnExactGaussText", fn := fun _ => fun
  | [d] => { results := [.lit (.bool true)], args := [d] }
  | _ => none }
def fnExactGaussTextRow : OpenClaim := { program := "ytckmncebedhgeaa", sum := "064d4872b5727fd143ed75b99aa5a0f08cea9afbdd5e1d8903535bc08adac93c", func := "loop.example/g01303/laws.FnExactGaussText", spec := "fnExactGaussText", unfollowed := true, recurses := true, apart := false }
def FnExactGaussTextSaid : Prop := fnExactGaussTextRow.holds Try.pinned (OpenSpec.ofChange fnExactGaussTextSpec)

/-- ITS FALSE NEIGHBOUR: 'it returns false'. Refute it at one input. -/
def fnExactGaussTextWrong : ChangeSpec := { name := "fnExactGaussText", fn := fun _ => fun
  | [d] => { results := [.lit (.bool false)], args := [d] }
  | _ => none }
def FnExactGaussTextWrongFalsely : Prop := fnExactGaussTextRow.holds Try.pinned (OpenSpec.ofChange fnExactGaussTextWrong)

/-- 'laws.FnExactParseGauss': WHATEVER THE INPUT: true; the input reads as it did. -/
def fnExactParseGaussSpec : ChangeSpec := { name := "fnExactParseGauss", fn := fun _ => fun
  | [d] => { results := [.lit (.bool true)], args := [d] }
  | _ => none }
def fnExactParseGaussRow : OpenClaim := { program := "ytckmncebedhgeaa", sum := "064d4872b5727fd143ed75b99aa5a0f08cea9afbdd5e1d8903535bc08adac93c", func := "loop.example/g01303/laws.FnExactParseGauss", spec := "fnExactParseGauss", unfollowed := true, recurses := true, apart := false }
def FnExactParseGaussSaid : Prop := fnExactParseGaussRow.holds Try.pinned (OpenSpec.ofChange fnExactParseGaussSpec)

/-- ITS FALSE NEIGHBOUR: 'it returns false'. Refute it at one input. -/
def fnExactParseGaussWrong : ChangeSpec := { name := "fnExactParseGauss", fn := fun _ => fun
  | [d] => { results := [.lit (.bool false)], args := [d] }
  | _ => none }
def FnExactParseGaussWrongFalsely : Prop := fnExactParseGaussRow.holds Try.pinned (OpenSpec.ofChange fnExactParseGaussWrong)

/-- 'laws.FnExactMirrorGauss': WHATEVER THE INPUT: true; the input reads as it did. -/
def fnExactMirrorGaussSpec : ChangeSpec := { name := "fnExactMirrorGauss", fn := fun _ => fun
  | [d] => { results := [.lit (.bool true)], args := [d] }
  | _ => none }
def fnExactMirrorGaussRow : OpenClaim := { program := "ytckmncebedhgeaa", sum := "064d4872b5727fd143ed75b99aa5a0f08cea9afbdd5e1d8903535bc08adac93c", func := "loop.example/g01303/laws.FnExactMirrorGauss", spec := "fnExactMirrorGauss", unfollowed := true, recurses := true, apart := false }
def FnExactMirrorGaussSaid : Prop := fnExactMirrorGaussRow.holds Try.pinned (OpenSpec.ofChange fnExactMirrorGaussSpec)

/-- ITS FALSE NEIGHBOUR: 'it returns false'. Refute it at one input. -/
def fnExactMirrorGaussWrong : ChangeSpec := { name := "fnExactMirrorGauss", fn := fun _ => fun
  | [d] => { results := [.lit (.bool false)], args := [d] }
  | _ => none }
def FnExactMirrorGaussWrongFalsely : Prop := fnExactMirrorGaussRow.holds Try.pinned (OpenSpec.ofChange fnExactMirrorGaussWrong)

/-- 'laws.FnExactSwitchChord': WHATEVER THE INPUT: true; the input reads as it did. -/
def fnExactSwitchChordSpec : ChangeSpec := { name := "fnExactSwitchChord", fn := fun _ => fun
  | [d1, d2] => { results := [.lit (.bool true)], args := [d1, d2] }
  | _ => none }
def fnExactSwitchChordRow : OpenClaim := { program := "ytckmncebedhgeaa", sum := "064d4872b5727fd143ed75b99aa5a0f08cea9afbdd5e1d8903535bc08adac93c", func := "loop.example/g01303/laws.FnExactSwitchChord", spec := "fnExactSwitchChord", unfollowed := true, recurses := true, apart := false }
def FnExactSwitchChordSaid : Prop := fnExactSwitchChordRow.holds Try.pinned (OpenSpec.ofChange fnExactSwitchChordSpec)

/-- ITS FALSE NEIGHBOUR: 'it returns false'. Refute it at one input. -/
def fnExactSwitchChordWrong : ChangeSpec := { name := "fnExactSwitchChord", fn := fun _ => fun
  | [d1, d2] => { results := [.lit (.bool false)], args := [d1, d2] }
  | _ => none }
def FnExactSwitchChordWrongFalsely : Prop := fnExactSwitchChordRow.holds Try.pinned (OpenSpec.ofChange fnExactSwitchChordWrong)

/- THE SECOND FORM. 'bulk': how many values and letters a reading holds, each counted each time it is reached (what is shared counts as often as it is met; a slice's spare places count too). A statement '..UptoSaid' is the law's where the arguments, and the package variables that the reading takes, are together of bulk at most 1048576: NARROWER than '..Said'. Prove '..Said' where nothing that the law and all that it calls make is longer than what came in: it says more and counts as full. Else prove '..UptoSaid'. A law counts once. -/
mutual
def uptoBulk {H : Type} : DataW H → Nat
  | .lit (.string bytes) => bytes.length + 1
  | .lit _ => 1
  | .nil => 1
  | .ptr d => uptoBulk d + 1
  | .slice elems spare => uptoBulkAll elems + uptoBulkAll spare + 1
  | .agg parts => uptoBulkAll parts + 1
  | .iface _ d => uptoBulk d + 1
  | .map entries => uptoBulkEntries entries + 1
  | .held _ => 1
def uptoBulkAll {H : Type} : List (DataW H) → Nat
  | [] => 0
  | d :: r => uptoBulk d + uptoBulkAll r
def uptoBulkEntries {H : Type} : List (Lit × DataW H) → Nat
  | [] => 0
  | x :: r => uptoBulkEntry x + uptoBulkEntries r
def uptoBulkEntry {H : Type} : Lit × DataW H → Nat
  | (.string bytes, d) => bytes.length + uptoBulk d + 1
  | (_, d) => uptoBulk d + 1
 end
def uptoSmall : (H : Type) → List (DataW H) → Bool := fun _ ds => decide (uptoBulkAll ds ≤ 1048576)
def OpenSpec.upto (s : _root_.Go.ChangeSpec) : _root_.Go.OpenSpec := { _root_.Go.OpenSpec.ofChange s with cond := some uptoSmall }

/-- 'laws.FnExactWordsOf', WHERE WHAT IT READS IS OF BULK AT MOST 1048576: true; the input reads as it did. -/
def fnExactWordsOfUptoRow : OpenClaim := { program := "ytckmncebedhgeaa", sum := "064d4872b5727fd143ed75b99aa5a0f08cea9afbdd5e1d8903535bc08adac93c", func := "loop.example/g01303/laws.FnExactWordsOf", spec := "fnExactWordsOf", unfollowed := true, recurses := true, apart := false, narrowed := true }
def FnExactWordsOfUptoSaid : Prop := fnExactWordsOfUptoRow.holds Try.pinned (OpenSpec.upto fnExactWordsOfSpec)

/-- 'laws.FnExactBlocksOf', WHERE WHAT IT READS IS OF BULK AT MOST 1048576: true; the input reads as it did. -/
def fnExactBlocksOfUptoRow : OpenClaim := { program := "ytckmncebedhgeaa", sum := "064d4872b5727fd143ed75b99aa5a0f08cea9afbdd5e1d8903535bc08adac93c", func := "loop.example/g01303/laws.FnExactBlocksOf", spec := "fnExactBlocksOf", apart := false, narrowed := true }
def FnExactBlocksOfUptoSaid : Prop := fnExactBlocksOfUptoRow.holds Try.pinned (OpenSpec.upto fnExactBlocksOfSpec)

/-- 'laws.FnExactBorderCircles', WHERE WHAT IT READS IS OF BULK AT MOST 1048576: true; the input reads as it did. -/
def fnExactBorderCirclesUptoRow : OpenClaim := { program := "ytckmncebedhgeaa", sum := "064d4872b5727fd143ed75b99aa5a0f08cea9afbdd5e1d8903535bc08adac93c", func := "loop.example/g01303/laws.FnExactBorderCircles", spec := "fnExactBorderCircles", unfollowed := true, recurses := true, apart := false, narrowed := true }
def FnExactBorderCirclesUptoSaid : Prop := fnExactBorderCirclesUptoRow.holds Try.pinned (OpenSpec.upto fnExactBorderCirclesSpec)

/-- 'laws.FnExactGenusOf', WHERE WHAT IT READS IS OF BULK AT MOST 1048576: true; the input reads as it did. -/
def fnExactGenusOfUptoRow : OpenClaim := { program := "ytckmncebedhgeaa", sum := "064d4872b5727fd143ed75b99aa5a0f08cea9afbdd5e1d8903535bc08adac93c", func := "loop.example/g01303/laws.FnExactGenusOf", spec := "fnExactGenusOf", unfollowed := true, recurses := true, apart := false, narrowed := true }
def FnExactGenusOfUptoSaid : Prop := fnExactGenusOfUptoRow.holds Try.pinned (OpenSpec.upto fnExactGenusOfSpec)

/-- 'laws.FnExactCountApart', WHERE WHAT IT READS IS OF BULK AT MOST 1048576: true; the input reads as it did. -/
def fnExactCountApartUptoRow : OpenClaim := { program := "ytckmncebedhgeaa", sum := "064d4872b5727fd143ed75b99aa5a0f08cea9afbdd5e1d8903535bc08adac93c", func := "loop.example/g01303/laws.FnExactCountApart", spec := "fnExactCountApart", unfollowed := true, recurses := true, apart := false, narrowed := true }
def FnExactCountApartUptoSaid : Prop := fnExactCountApartUptoRow.holds Try.pinned (OpenSpec.upto fnExactCountApartSpec)

/-- 'laws.FnExactCountNested', WHERE WHAT IT READS IS OF BULK AT MOST 1048576: true; the input reads as it did. -/
def fnExactCountNestedUptoRow : OpenClaim := { program := "ytckmncebedhgeaa", sum := "064d4872b5727fd143ed75b99aa5a0f08cea9afbdd5e1d8903535bc08adac93c", func := "loop.example/g01303/laws.FnExactCountNested", spec := "fnExactCountNested", unfollowed := true, recurses := true, apart := false, narrowed := true }
def FnExactCountNestedUptoSaid : Prop := fnExactCountNestedUptoRow.holds Try.pinned (OpenSpec.upto fnExactCountNestedSpec)

/-- 'laws.FnExactDegreesOf', WHERE WHAT IT READS IS OF BULK AT MOST 1048576: true; the input reads as it did. -/
def fnExactDegreesOfUptoRow : OpenClaim := { program := "ytckmncebedhgeaa", sum := "064d4872b5727fd143ed75b99aa5a0f08cea9afbdd5e1d8903535bc08adac93c", func := "loop.example/g01303/laws.FnExactDegreesOf", spec := "fnExactDegreesOf", unfollowed := true, recurses := true, apart := false, narrowed := true }
def FnExactDegreesOfUptoSaid : Prop := fnExactDegreesOfUptoRow.holds Try.pinned (OpenSpec.upto fnExactDegreesOfSpec)

/-- 'laws.FnExactIsolatedChords', WHERE WHAT IT READS IS OF BULK AT MOST 1048576: true; the input reads as it did. -/
def fnExactIsolatedChordsUptoRow : OpenClaim := { program := "ytckmncebedhgeaa", sum := "064d4872b5727fd143ed75b99aa5a0f08cea9afbdd5e1d8903535bc08adac93c", func := "loop.example/g01303/laws.FnExactIsolatedChords", spec := "fnExactIsolatedChords", unfollowed := true, recurses := true, apart := false, narrowed := true }
def FnExactIsolatedChordsUptoSaid : Prop := fnExactIsolatedChordsUptoRow.holds Try.pinned (OpenSpec.upto fnExactIsolatedChordsSpec)

/-- 'laws.FnExactPlaceInList', WHERE WHAT IT READS IS OF BULK AT MOST 1048576: true; the input reads as it did. -/
def fnExactPlaceInListUptoRow : OpenClaim := { program := "ytckmncebedhgeaa", sum := "064d4872b5727fd143ed75b99aa5a0f08cea9afbdd5e1d8903535bc08adac93c", func := "loop.example/g01303/laws.FnExactPlaceInList", spec := "fnExactPlaceInList", unfollowed := true, recurses := true, apart := false, narrowed := true }
def FnExactPlaceInListUptoSaid : Prop := fnExactPlaceInListUptoRow.holds Try.pinned (OpenSpec.upto fnExactPlaceInListSpec)

/-- 'laws.FnExactDiagramsOf', WHERE WHAT IT READS IS OF BULK AT MOST 1048576: true; the input reads as it did. -/
def fnExactDiagramsOfUptoRow : OpenClaim := { program := "ytckmncebedhgeaa", sum := "064d4872b5727fd143ed75b99aa5a0f08cea9afbdd5e1d8903535bc08adac93c", func := "loop.example/g01303/laws.FnExactDiagramsOf", spec := "fnExactDiagramsOf", unfollowed := true, recurses := true, apart := false, narrowed := true }
def FnExactDiagramsOfUptoSaid : Prop := fnExactDiagramsOfUptoRow.holds Try.pinned (OpenSpec.upto fnExactDiagramsOfSpec)

/-- 'laws.FnExactCirclesOf', WHERE WHAT IT READS IS OF BULK AT MOST 1048576: true; the input reads as it did. -/
def fnExactCirclesOfUptoRow : OpenClaim := { program := "ytckmncebedhgeaa", sum := "064d4872b5727fd143ed75b99aa5a0f08cea9afbdd5e1d8903535bc08adac93c", func := "loop.example/g01303/laws.FnExactCirclesOf", spec := "fnExactCirclesOf", unfollowed := true, recurses := true, apart := false, narrowed := true }
def FnExactCirclesOfUptoSaid : Prop := fnExactCirclesOfUptoRow.holds Try.pinned (OpenSpec.upto fnExactCirclesOfSpec)

/-- 'laws.FnExactTwistNumbers', WHERE WHAT IT READS IS OF BULK AT MOST 1048576: true; the input reads as it did. -/
def fnExactTwistNumbersUptoRow : OpenClaim := { program := "ytckmncebedhgeaa", sum := "064d4872b5727fd143ed75b99aa5a0f08cea9afbdd5e1d8903535bc08adac93c", func := "loop.example/g01303/laws.FnExactTwistNumbers", spec := "fnExactTwistNumbers", unfollowed := true, recurses := true, apart := false, narrowed := true }
def FnExactTwistNumbersUptoSaid : Prop := fnExactTwistNumbersUptoRow.holds Try.pinned (OpenSpec.upto fnExactTwistNumbersSpec)

/-- 'laws.FnExactWebOfWord', WHERE WHAT IT READS IS OF BULK AT MOST 1048576: true; the input reads as it did. -/
def fnExactWebOfWordUptoRow : OpenClaim := { program := "ytckmncebedhgeaa", sum := "064d4872b5727fd143ed75b99aa5a0f08cea9afbdd5e1d8903535bc08adac93c", func := "loop.example/g01303/laws.FnExactWebOfWord", spec := "fnExactWebOfWord", apart := false, narrowed := true }
def FnExactWebOfWordUptoSaid : Prop := fnExactWebOfWordUptoRow.holds Try.pinned (OpenSpec.upto fnExactWebOfWordSpec)

/-- 'laws.FnExactIsGauss', WHERE WHAT IT READS IS OF BULK AT MOST 1048576: true; the input reads as it did. -/
def fnExactIsGaussUptoRow : OpenClaim := { program := "ytckmncebedhgeaa", sum := "064d4872b5727fd143ed75b99aa5a0f08cea9afbdd5e1d8903535bc08adac93c", func := "loop.example/g01303/laws.FnExactIsGauss", spec := "fnExactIsGauss", unfollowed := true, recurses := true, apart := false, narrowed := true }
def FnExactIsGaussUptoSaid : Prop := fnExactIsGaussUptoRow.holds Try.pinned (OpenSpec.upto fnExactIsGaussSpec)

/-- 'laws.FnExactWritheOf', WHERE WHAT IT READS IS OF BULK AT MOST 1048576: true; the input reads as it did. -/
def fnExactWritheOfUptoRow : OpenClaim := { program := "ytckmncebedhgeaa", sum := "064d4872b5727fd143ed75b99aa5a0f08cea9afbdd5e1d8903535bc08adac93c", func := "loop.example/g01303/laws.FnExactWritheOf", spec := "fnExactWritheOf", unfollowed := true, recurses := true, apart := false, narrowed := true }
def FnExactWritheOfUptoSaid : Prop := fnExactWritheOfUptoRow.holds Try.pinned (OpenSpec.upto fnExactWritheOfSpec)

/-- 'laws.FnExactGaussText', WHERE WHAT IT READS IS OF BULK AT MOST 1048576: true; the input reads as it did. -/
def fnExactGaussTextUptoRow : OpenClaim := { program := "ytckmncebedhgeaa", sum := "064d4872b5727fd143ed75b99aa5a0f08cea9afbdd5e1d8903535bc08adac93c", func := "loop.example/g01303/laws.FnExactGaussText", spec := "fnExactGaussText", unfollowed := true, recurses := true, apart := false, narrowed := true }
def FnExactGaussTextUptoSaid : Prop := fnExactGaussTextUptoRow.holds Try.pinned (OpenSpec.upto fnExactGaussTextSpec)

/-- 'laws.FnExactParseGauss', WHERE WHAT IT READS IS OF BULK AT MOST 1048576: true; the input reads as it did. -/
def fnExactParseGaussUptoRow : OpenClaim := { program := "ytckmncebedhgeaa", sum := "064d4872b5727fd143ed75b99aa5a0f08cea9afbdd5e1d8903535bc08adac93c", func := "loop.example/g01303/laws.FnExactParseGauss", spec := "fnExactParseGauss", unfollowed := true, recurses := true, apart := false, narrowed := true }
def FnExactParseGaussUptoSaid : Prop := fnExactParseGaussUptoRow.holds Try.pinned (OpenSpec.upto fnExactParseGaussSpec)

/-- 'laws.FnExactMirrorGauss', WHERE WHAT IT READS IS OF BULK AT MOST 1048576: true; the input reads as it did. -/
def fnExactMirrorGaussUptoRow : OpenClaim := { program := "ytckmncebedhgeaa", sum := "064d4872b5727fd143ed75b99aa5a0f08cea9afbdd5e1d8903535bc08adac93c", func := "loop.example/g01303/laws.FnExactMirrorGauss", spec := "fnExactMirrorGauss", unfollowed := true, recurses := true, apart := false, narrowed := true }
def FnExactMirrorGaussUptoSaid : Prop := fnExactMirrorGaussUptoRow.holds Try.pinned (OpenSpec.upto fnExactMirrorGaussSpec)

/-- 'laws.FnExactSwitchChord', WHERE WHAT IT READS IS OF BULK AT MOST 1048576: true; the input reads as it did. -/
def fnExactSwitchChordUptoRow : OpenClaim := { program := "ytckmncebedhgeaa", sum := "064d4872b5727fd143ed75b99aa5a0f08cea9afbdd5e1d8903535bc08adac93c", func := "loop.example/g01303/laws.FnExactSwitchChord", spec := "fnExactSwitchChord", unfollowed := true, recurses := true, apart := false, narrowed := true }
def FnExactSwitchChordUptoSaid : Prop := fnExactSwitchChordUptoRow.holds Try.pinned (OpenSpec.upto fnExactSwitchChordSpec)

end Rows
end Go.Proofs.Ytckmncebedhgeaa
