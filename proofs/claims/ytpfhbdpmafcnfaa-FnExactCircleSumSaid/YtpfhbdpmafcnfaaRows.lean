/-
  No cell of these rows narrows 'for every input' (looked for: loops, veiled, ifaces, maps, wideKeys, modest, calm, conditions, laid).
  DERIVED. THE GIVEN ROWS OF THIS SEAT. 13 by the template 'for every input the law returns true; each argument reads behind the call as it read before'; 0 by the template 'total and deterministic' (their statements: YtpfhbdpmafcnfaaTotals.lean).
  GIVEN WITH THE SEED: the statements are not yours to turn. If you find one false, say at which input.
  Laid BY PROGRAM, IN A SANDBOX (cutbox-rows.mjs): the forced cells as the released guide's own fill.sh prints them over the translation 6039eea9acd011e0… (all of the seat's roots in one cut). By AI agents, Wed Nov 11 2026. No macro, syntax, notation, axiom, sorry.
-/
import Derived.Test.YtpfhbdpmafcnfaaChecked
import GoSem.Claim
import GoSem.ClaimJoined
import GoSem.ClaimMapViews
import Derived.JoinedTies
import Derived.KernelRfl
namespace Go.Proofs.Ytpfhbdpmafcnfaa
/- THE CELL 'sum', in the pinned program and in every row, IS THE sha256 OF THE DUMP (.gsa) THAT YtpfhbdpmafcnfaaProg.lean LOADS. Nothing in Lean hashes anything: it is a label: what it is worth is what the hold of that sum in a sandbox is worth. -/
noncomputable def Try.pinned : Pinned := { name := "ytpfhbdpmafcnfaa", sum := "6039eea9acd011e01eec63dc6ea49f54312373e4e16c988b588abe9d46298da6", checked := Try.checked }
namespace Rows
def none {H : Type} : Left H := { results := [], args := [] }

/-- 'laws.FnExactIsPolynomial': WHATEVER THE INPUT: true; the input reads as it did. -/
def fnExactIsPolynomialSpec : ChangeSpec := { name := "fnExactIsPolynomial", fn := fun _ => fun
  | [d] => { results := [.lit (.bool true)], args := [d] }
  | _ => none }
def fnExactIsPolynomialRow : OpenClaim := { program := "ytpfhbdpmafcnfaa", sum := "6039eea9acd011e01eec63dc6ea49f54312373e4e16c988b588abe9d46298da6", func := "loop.example/g01303/laws.FnExactIsPolynomial", spec := "fnExactIsPolynomial", unfollowed := true, recurses := true, apart := false }
def FnExactIsPolynomialSaid : Prop := fnExactIsPolynomialRow.holds Try.pinned (OpenSpec.ofChange fnExactIsPolynomialSpec)

/-- ITS FALSE NEIGHBOUR: 'it returns false'. Refute it at one input. -/
def fnExactIsPolynomialWrong : ChangeSpec := { name := "fnExactIsPolynomial", fn := fun _ => fun
  | [d] => { results := [.lit (.bool false)], args := [d] }
  | _ => none }
def FnExactIsPolynomialWrongFalsely : Prop := fnExactIsPolynomialRow.holds Try.pinned (OpenSpec.ofChange fnExactIsPolynomialWrong)

/-- 'laws.FnExactValueOfPolynomial': WHATEVER THE INPUT: true; the input reads as it did. -/
def fnExactValueOfPolynomialSpec : ChangeSpec := { name := "fnExactValueOfPolynomial", fn := fun _ => fun
  | [d1, d2, d3] => { results := [.lit (.bool true)], args := [d1, d2, d3] }
  | _ => none }
def fnExactValueOfPolynomialRow : OpenClaim := { program := "ytpfhbdpmafcnfaa", sum := "6039eea9acd011e01eec63dc6ea49f54312373e4e16c988b588abe9d46298da6", func := "loop.example/g01303/laws.FnExactValueOfPolynomial", spec := "fnExactValueOfPolynomial", unfollowed := true, recurses := true, apart := false }
def FnExactValueOfPolynomialSaid : Prop := fnExactValueOfPolynomialRow.holds Try.pinned (OpenSpec.ofChange fnExactValueOfPolynomialSpec)

/-- ITS FALSE NEIGHBOUR: 'it returns false'. Refute it at one input. -/
def fnExactValueOfPolynomialWrong : ChangeSpec := { name := "fnExactValueOfPolynomial", fn := fun _ => fun
  | [d1, d2, d3] => { results := [.lit (.bool false)], args := [d1, d2, d3] }
  | _ => none }
def FnExactValueOfPolynomialWrongFalsely : Prop := fnExactValueOfPolynomialRow.holds Try.pinned (OpenSpec.ofChange fnExactValueOfPolynomialWrong)

/-- 'laws.FnExactAddPolynomials': WHATEVER THE INPUT: true; the input reads as it did. -/
def fnExactAddPolynomialsSpec : ChangeSpec := { name := "fnExactAddPolynomials", fn := fun _ => fun
  | [d1, d2, d3] => { results := [.lit (.bool true)], args := [d1, d2, d3] }
  | _ => none }
def fnExactAddPolynomialsRow : OpenClaim := { program := "ytpfhbdpmafcnfaa", sum := "6039eea9acd011e01eec63dc6ea49f54312373e4e16c988b588abe9d46298da6", func := "loop.example/g01303/laws.FnExactAddPolynomials", spec := "fnExactAddPolynomials", unfollowed := true, recurses := true, apart := false }
def FnExactAddPolynomialsSaid : Prop := fnExactAddPolynomialsRow.holds Try.pinned (OpenSpec.ofChange fnExactAddPolynomialsSpec)

/-- ITS FALSE NEIGHBOUR: 'it returns false'. Refute it at one input. -/
def fnExactAddPolynomialsWrong : ChangeSpec := { name := "fnExactAddPolynomials", fn := fun _ => fun
  | [d1, d2, d3] => { results := [.lit (.bool false)], args := [d1, d2, d3] }
  | _ => none }
def FnExactAddPolynomialsWrongFalsely : Prop := fnExactAddPolynomialsRow.holds Try.pinned (OpenSpec.ofChange fnExactAddPolynomialsWrong)

/-- 'laws.FnExactMultiplyPolynomials': WHATEVER THE INPUT: true; the input reads as it did. -/
def fnExactMultiplyPolynomialsSpec : ChangeSpec := { name := "fnExactMultiplyPolynomials", fn := fun _ => fun
  | [d1, d2] => { results := [.lit (.bool true)], args := [d1, d2] }
  | _ => none }
def fnExactMultiplyPolynomialsRow : OpenClaim := { program := "ytpfhbdpmafcnfaa", sum := "6039eea9acd011e01eec63dc6ea49f54312373e4e16c988b588abe9d46298da6", func := "loop.example/g01303/laws.FnExactMultiplyPolynomials", spec := "fnExactMultiplyPolynomials", unfollowed := true, recurses := true, apart := false }
def FnExactMultiplyPolynomialsSaid : Prop := fnExactMultiplyPolynomialsRow.holds Try.pinned (OpenSpec.ofChange fnExactMultiplyPolynomialsSpec)

/-- ITS FALSE NEIGHBOUR: 'it returns false'. Refute it at one input. -/
def fnExactMultiplyPolynomialsWrong : ChangeSpec := { name := "fnExactMultiplyPolynomials", fn := fun _ => fun
  | [d1, d2] => { results := [.lit (.bool false)], args := [d1, d2] }
  | _ => none }
def FnExactMultiplyPolynomialsWrongFalsely : Prop := fnExactMultiplyPolynomialsRow.holds Try.pinned (OpenSpec.ofChange fnExactMultiplyPolynomialsWrong)

/-- 'laws.FnExactNamedWeb': WHATEVER THE INPUT: true; the input reads as it did. -/
def fnExactNamedWebSpec : ChangeSpec := { name := "fnExactNamedWeb", fn := fun _ => fun
  | [d] => { results := [.lit (.bool true)], args := [d] }
  | _ => none }
def fnExactNamedWebRow : OpenClaim := { program := "ytpfhbdpmafcnfaa", sum := "6039eea9acd011e01eec63dc6ea49f54312373e4e16c988b588abe9d46298da6", func := "loop.example/g01303/laws.FnExactNamedWeb", spec := "fnExactNamedWeb", apart := false }
def FnExactNamedWebSaid : Prop := fnExactNamedWebRow.holds Try.pinned (OpenSpec.ofChange fnExactNamedWebSpec)

/-- ITS FALSE NEIGHBOUR: 'it returns false'. Refute it at one input. -/
def fnExactNamedWebWrong : ChangeSpec := { name := "fnExactNamedWeb", fn := fun _ => fun
  | [d] => { results := [.lit (.bool false)], args := [d] }
  | _ => none }
def FnExactNamedWebWrongFalsely : Prop := fnExactNamedWebRow.holds Try.pinned (OpenSpec.ofChange fnExactNamedWebWrong)

/-- 'laws.FnExactIsSum': WHATEVER THE INPUT: true; the input reads as it did. -/
def fnExactIsSumSpec : ChangeSpec := { name := "fnExactIsSum", fn := fun _ => fun
  | [d] => { results := [.lit (.bool true)], args := [d] }
  | _ => none }
def fnExactIsSumRow : OpenClaim := { program := "ytpfhbdpmafcnfaa", sum := "6039eea9acd011e01eec63dc6ea49f54312373e4e16c988b588abe9d46298da6", func := "loop.example/g01303/laws.FnExactIsSum", spec := "fnExactIsSum", apart := false }
def FnExactIsSumSaid : Prop := fnExactIsSumRow.holds Try.pinned (OpenSpec.ofChange fnExactIsSumSpec)

/-- ITS FALSE NEIGHBOUR: 'it returns false'. Refute it at one input. -/
def fnExactIsSumWrong : ChangeSpec := { name := "fnExactIsSum", fn := fun _ => fun
  | [d] => { results := [.lit (.bool false)], args := [d] }
  | _ => none }
def FnExactIsSumWrongFalsely : Prop := fnExactIsSumRow.holds Try.pinned (OpenSpec.ofChange fnExactIsSumWrong)

/-- 'laws.FnExactTotalOf': WHATEVER THE INPUT: true; the input reads as it did. -/
def fnExactTotalOfSpec : ChangeSpec := { name := "fnExactTotalOf", fn := fun _ => fun
  | [d] => { results := [.lit (.bool true)], args := [d] }
  | _ => none }
def fnExactTotalOfRow : OpenClaim := { program := "ytpfhbdpmafcnfaa", sum := "6039eea9acd011e01eec63dc6ea49f54312373e4e16c988b588abe9d46298da6", func := "loop.example/g01303/laws.FnExactTotalOf", spec := "fnExactTotalOf", apart := false }
def FnExactTotalOfSaid : Prop := fnExactTotalOfRow.holds Try.pinned (OpenSpec.ofChange fnExactTotalOfSpec)

/-- ITS FALSE NEIGHBOUR: 'it returns false'. Refute it at one input. -/
def fnExactTotalOfWrong : ChangeSpec := { name := "fnExactTotalOf", fn := fun _ => fun
  | [d] => { results := [.lit (.bool false)], args := [d] }
  | _ => none }
def FnExactTotalOfWrongFalsely : Prop := fnExactTotalOfRow.holds Try.pinned (OpenSpec.ofChange fnExactTotalOfWrong)

/-- 'laws.FnExactCoefficientAt': WHATEVER THE INPUT: true; the input reads as it did. -/
def fnExactCoefficientAtSpec : ChangeSpec := { name := "fnExactCoefficientAt", fn := fun _ => fun
  | [d1, d2] => { results := [.lit (.bool true)], args := [d1, d2] }
  | _ => none }
def fnExactCoefficientAtRow : OpenClaim := { program := "ytpfhbdpmafcnfaa", sum := "6039eea9acd011e01eec63dc6ea49f54312373e4e16c988b588abe9d46298da6", func := "loop.example/g01303/laws.FnExactCoefficientAt", spec := "fnExactCoefficientAt", apart := false }
def FnExactCoefficientAtSaid : Prop := fnExactCoefficientAtRow.holds Try.pinned (OpenSpec.ofChange fnExactCoefficientAtSpec)

/-- ITS FALSE NEIGHBOUR: 'it returns false'. Refute it at one input. -/
def fnExactCoefficientAtWrong : ChangeSpec := { name := "fnExactCoefficientAt", fn := fun _ => fun
  | [d1, d2] => { results := [.lit (.bool false)], args := [d1, d2] }
  | _ => none }
def FnExactCoefficientAtWrongFalsely : Prop := fnExactCoefficientAtRow.holds Try.pinned (OpenSpec.ofChange fnExactCoefficientAtWrong)

/-- 'laws.FnExactSumOfWord': WHATEVER THE INPUT: true; the input reads as it did. -/
def fnExactSumOfWordSpec : ChangeSpec := { name := "fnExactSumOfWord", fn := fun _ => fun
  | [d1, d2, d3] => { results := [.lit (.bool true)], args := [d1, d2, d3] }
  | _ => none }
def fnExactSumOfWordRow : OpenClaim := { program := "ytpfhbdpmafcnfaa", sum := "6039eea9acd011e01eec63dc6ea49f54312373e4e16c988b588abe9d46298da6", func := "loop.example/g01303/laws.FnExactSumOfWord", spec := "fnExactSumOfWord", unfollowed := true, recurses := true, apart := false }
def FnExactSumOfWordSaid : Prop := fnExactSumOfWordRow.holds Try.pinned (OpenSpec.ofChange fnExactSumOfWordSpec)

/-- ITS FALSE NEIGHBOUR: 'it returns false'. Refute it at one input. -/
def fnExactSumOfWordWrong : ChangeSpec := { name := "fnExactSumOfWord", fn := fun _ => fun
  | [d1, d2, d3] => { results := [.lit (.bool false)], args := [d1, d2, d3] }
  | _ => none }
def FnExactSumOfWordWrongFalsely : Prop := fnExactSumOfWordRow.holds Try.pinned (OpenSpec.ofChange fnExactSumOfWordWrong)

/-- 'laws.FnExactReflectSum': WHATEVER THE INPUT: true; the input reads as it did. -/
def fnExactReflectSumSpec : ChangeSpec := { name := "fnExactReflectSum", fn := fun _ => fun
  | [d] => { results := [.lit (.bool true)], args := [d] }
  | _ => none }
def fnExactReflectSumRow : OpenClaim := { program := "ytpfhbdpmafcnfaa", sum := "6039eea9acd011e01eec63dc6ea49f54312373e4e16c988b588abe9d46298da6", func := "loop.example/g01303/laws.FnExactReflectSum", spec := "fnExactReflectSum", unfollowed := true, recurses := true, apart := false }
def FnExactReflectSumSaid : Prop := fnExactReflectSumRow.holds Try.pinned (OpenSpec.ofChange fnExactReflectSumSpec)

/-- ITS FALSE NEIGHBOUR: 'it returns false'. Refute it at one input. -/
def fnExactReflectSumWrong : ChangeSpec := { name := "fnExactReflectSum", fn := fun _ => fun
  | [d] => { results := [.lit (.bool false)], args := [d] }
  | _ => none }
def FnExactReflectSumWrongFalsely : Prop := fnExactReflectSumRow.holds Try.pinned (OpenSpec.ofChange fnExactReflectSumWrong)

/-- 'laws.FnExactAddSums': WHATEVER THE INPUT: true; the input reads as it did. -/
def fnExactAddSumsSpec : ChangeSpec := { name := "fnExactAddSums", fn := fun _ => fun
  | [d1, d2, d3] => { results := [.lit (.bool true)], args := [d1, d2, d3] }
  | _ => none }
def fnExactAddSumsRow : OpenClaim := { program := "ytpfhbdpmafcnfaa", sum := "6039eea9acd011e01eec63dc6ea49f54312373e4e16c988b588abe9d46298da6", func := "loop.example/g01303/laws.FnExactAddSums", spec := "fnExactAddSums", unfollowed := true, recurses := true, apart := false }
def FnExactAddSumsSaid : Prop := fnExactAddSumsRow.holds Try.pinned (OpenSpec.ofChange fnExactAddSumsSpec)

/-- ITS FALSE NEIGHBOUR: 'it returns false'. Refute it at one input. -/
def fnExactAddSumsWrong : ChangeSpec := { name := "fnExactAddSums", fn := fun _ => fun
  | [d1, d2, d3] => { results := [.lit (.bool false)], args := [d1, d2, d3] }
  | _ => none }
def FnExactAddSumsWrongFalsely : Prop := fnExactAddSumsRow.holds Try.pinned (OpenSpec.ofChange fnExactAddSumsWrong)

/-- 'laws.FnExactRotateSum': WHATEVER THE INPUT: true; the input reads as it did. -/
def fnExactRotateSumSpec : ChangeSpec := { name := "fnExactRotateSum", fn := fun _ => fun
  | [d1, d2] => { results := [.lit (.bool true)], args := [d1, d2] }
  | _ => none }
def fnExactRotateSumRow : OpenClaim := { program := "ytpfhbdpmafcnfaa", sum := "6039eea9acd011e01eec63dc6ea49f54312373e4e16c988b588abe9d46298da6", func := "loop.example/g01303/laws.FnExactRotateSum", spec := "fnExactRotateSum", unfollowed := true, recurses := true, apart := false }
def FnExactRotateSumSaid : Prop := fnExactRotateSumRow.holds Try.pinned (OpenSpec.ofChange fnExactRotateSumSpec)

/-- ITS FALSE NEIGHBOUR: 'it returns false'. Refute it at one input. -/
def fnExactRotateSumWrong : ChangeSpec := { name := "fnExactRotateSum", fn := fun _ => fun
  | [d1, d2] => { results := [.lit (.bool false)], args := [d1, d2] }
  | _ => none }
def FnExactRotateSumWrongFalsely : Prop := fnExactRotateSumRow.holds Try.pinned (OpenSpec.ofChange fnExactRotateSumWrong)

/-- 'laws.FnExactCircleSum': WHATEVER THE INPUT: true; the input reads as it did. -/
def fnExactCircleSumSpec : ChangeSpec := { name := "fnExactCircleSum", fn := fun _ => fun
  | [d] => { results := [.lit (.bool true)], args := [d] }
  | _ => none }
def fnExactCircleSumRow : OpenClaim := { program := "ytpfhbdpmafcnfaa", sum := "6039eea9acd011e01eec63dc6ea49f54312373e4e16c988b588abe9d46298da6", func := "loop.example/g01303/laws.FnExactCircleSum", spec := "fnExactCircleSum", unfollowed := true, recurses := true, apart := false }
def FnExactCircleSumSaid : Prop := fnExactCircleSumRow.holds Try.pinned (OpenSpec.ofChange fnExactCircleSumSpec)

/-- ITS FALSE NEIGHBOUR: 'it returns false'. Refute it at one input. -/
def fnExactCircleSumWrong : ChangeSpec := { name := "fnExactCircleSum", fn := fun _ => fun
  | [d] => { results := [.lit (.bool false)], args := [d] }
  | _ => none }
def FnExactCircleSumWrongFalsely : Prop := fnExactCircleSumRow.holds Try.pinned (OpenSpec.ofChange fnExactCircleSumWrong)

/- THE SECOND FORM. 'bulk': how many values and letters a reading holds, each counted each time it is reached (what is shared counts as often as it is met; a slice's spare places count too). A statement '..UptoSaid' is the law's where the arguments, and the package variables that the reading takes, are together of bulk at most 1048576: NARROWER than '..Said'. Prove '..Said' where nothing that the law and all that it calls make is longer than what came in: it says more and counts as full. Else prove '..UptoSaid'. A law counts once. -/
mutual
def uptoBulk {H : Type} : DataW H → Nat
  | .lit (.string bytes) => bytes.length + 1
  | .lit _ => 1
  | .nil => 1
  | .ptr d => uptoBulk d + 1
  | .slice elems spare => uptoBulkAll elems + uptoBulkAll spare + 1
  | .agg parts => uptoBulkAll parts + 1
  | .iface _ d => uptoBulk d + 1
  | .map entries => uptoBulkEntries entries + 1
  | .held _ => 1
def uptoBulkAll {H : Type} : List (DataW H) → Nat
  | [] => 0
  | d :: r => uptoBulk d + uptoBulkAll r
def uptoBulkEntries {H : Type} : List (Lit × DataW H) → Nat
  | [] => 0
  | x :: r => uptoBulkEntry x + uptoBulkEntries r
def uptoBulkEntry {H : Type} : Lit × DataW H → Nat
  | (.string bytes, d) => bytes.length + uptoBulk d + 1
  | (_, d) => uptoBulk d + 1
 end
def uptoSmall : (H : Type) → List (DataW H) → Bool := fun _ ds => decide (uptoBulkAll ds ≤ 1048576)
def OpenSpec.upto (s : _root_.Go.ChangeSpec) : _root_.Go.OpenSpec := { _root_.Go.OpenSpec.ofChange s with cond := some uptoSmall }

/-- 'laws.FnExactIsPolynomial', WHERE WHAT IT READS IS OF BULK AT MOST 1048576: true; the input reads as it did. -/
def fnExactIsPolynomialUptoRow : OpenClaim := { program := "ytpfhbdpmafcnfaa", sum := "6039eea9acd011e01eec63dc6ea49f54312373e4e16c988b588abe9d46298da6", func := "loop.example/g01303/laws.FnExactIsPolynomial", spec := "fnExactIsPolynomial", unfollowed := true, recurses := true, apart := false, narrowed := true }
def FnExactIsPolynomialUptoSaid : Prop := fnExactIsPolynomialUptoRow.holds Try.pinned (OpenSpec.upto fnExactIsPolynomialSpec)

/-- 'laws.FnExactValueOfPolynomial', WHERE WHAT IT READS IS OF BULK AT MOST 1048576: true; the input reads as it did. -/
def fnExactValueOfPolynomialUptoRow : OpenClaim := { program := "ytpfhbdpmafcnfaa", sum := "6039eea9acd011e01eec63dc6ea49f54312373e4e16c988b588abe9d46298da6", func := "loop.example/g01303/laws.FnExactValueOfPolynomial", spec := "fnExactValueOfPolynomial", unfollowed := true, recurses := true, apart := false, narrowed := true }
def FnExactValueOfPolynomialUptoSaid : Prop := fnExactValueOfPolynomialUptoRow.holds Try.pinned (OpenSpec.upto fnExactValueOfPolynomialSpec)

/-- 'laws.FnExactAddPolynomials', WHERE WHAT IT READS IS OF BULK AT MOST 1048576: true; the input reads as it did. -/
def fnExactAddPolynomialsUptoRow : OpenClaim := { program := "ytpfhbdpmafcnfaa", sum := "6039eea9acd011e01eec63dc6ea49f54312373e4e16c988b588abe9d46298da6", func := "loop.example/g01303/laws.FnExactAddPolynomials", spec := "fnExactAddPolynomials", unfollowed := true, recurses := true, apart := false, narrowed := true }
def FnExactAddPolynomialsUptoSaid : Prop := fnExactAddPolynomialsUptoRow.holds Try.pinned (OpenSpec.upto fnExactAddPolynomialsSpec)

/-- 'laws.FnExactMultiplyPolynomials', WHERE WHAT IT READS IS OF BULK AT MOST 1048576: true; the input reads as it did. -/
def fnExactMultiplyPolynomialsUptoRow : OpenClaim := { program := "ytpfhbdpmafcnfaa", sum := "6039eea9acd011e01eec63dc6ea49f54312373e4e16c988b588abe9d46298da6", func := "loop.example/g01303/laws.FnExactMultiplyPolynomials", spec := "fnExactMultiplyPolynomials", unfollowed := true, recurses := true, apart := false, narrowed := true }
def FnExactMultiplyPolynomialsUptoSaid : Prop := fnExactMultiplyPolynomialsUptoRow.holds Try.pinned (OpenSpec.upto fnExactMultiplyPolynomialsSpec)

/-- 'laws.FnExactNamedWeb', WHERE WHAT IT READS IS OF BULK AT MOST 1048576: true; the input reads as it did. -/
def fnExactNamedWebUptoRow : OpenClaim := { program := "ytpfhbdpmafcnfaa", sum := "6039eea9acd011e01eec63dc6ea49f54312373e4e16c988b588abe9d46298da6", func := "loop.example/g01303/laws.FnExactNamedWeb", spec := "fnExactNamedWeb", apart := false, narrowed := true }
def FnExactNamedWebUptoSaid : Prop := fnExactNamedWebUptoRow.holds Try.pinned (OpenSpec.upto fnExactNamedWebSpec)

/-- 'laws.FnExactIsSum', WHERE WHAT IT READS IS OF BULK AT MOST 1048576: true; the input reads as it did. -/
def fnExactIsSumUptoRow : OpenClaim := { program := "ytpfhbdpmafcnfaa", sum := "6039eea9acd011e01eec63dc6ea49f54312373e4e16c988b588abe9d46298da6", func := "loop.example/g01303/laws.FnExactIsSum", spec := "fnExactIsSum", apart := false, narrowed := true }
def FnExactIsSumUptoSaid : Prop := fnExactIsSumUptoRow.holds Try.pinned (OpenSpec.upto fnExactIsSumSpec)

/-- 'laws.FnExactTotalOf', WHERE WHAT IT READS IS OF BULK AT MOST 1048576: true; the input reads as it did. -/
def fnExactTotalOfUptoRow : OpenClaim := { program := "ytpfhbdpmafcnfaa", sum := "6039eea9acd011e01eec63dc6ea49f54312373e4e16c988b588abe9d46298da6", func := "loop.example/g01303/laws.FnExactTotalOf", spec := "fnExactTotalOf", apart := false, narrowed := true }
def FnExactTotalOfUptoSaid : Prop := fnExactTotalOfUptoRow.holds Try.pinned (OpenSpec.upto fnExactTotalOfSpec)

/-- 'laws.FnExactCoefficientAt', WHERE WHAT IT READS IS OF BULK AT MOST 1048576: true; the input reads as it did. -/
def fnExactCoefficientAtUptoRow : OpenClaim := { program := "ytpfhbdpmafcnfaa", sum := "6039eea9acd011e01eec63dc6ea49f54312373e4e16c988b588abe9d46298da6", func := "loop.example/g01303/laws.FnExactCoefficientAt", spec := "fnExactCoefficientAt", apart := false, narrowed := true }
def FnExactCoefficientAtUptoSaid : Prop := fnExactCoefficientAtUptoRow.holds Try.pinned (OpenSpec.upto fnExactCoefficientAtSpec)

/-- 'laws.FnExactSumOfWord', WHERE WHAT IT READS IS OF BULK AT MOST 1048576: true; the input reads as it did. -/
def fnExactSumOfWordUptoRow : OpenClaim := { program := "ytpfhbdpmafcnfaa", sum := "6039eea9acd011e01eec63dc6ea49f54312373e4e16c988b588abe9d46298da6", func := "loop.example/g01303/laws.FnExactSumOfWord", spec := "fnExactSumOfWord", unfollowed := true, recurses := true, apart := false, narrowed := true }
def FnExactSumOfWordUptoSaid : Prop := fnExactSumOfWordUptoRow.holds Try.pinned (OpenSpec.upto fnExactSumOfWordSpec)

/-- 'laws.FnExactReflectSum', WHERE WHAT IT READS IS OF BULK AT MOST 1048576: true; the input reads as it did. -/
def fnExactReflectSumUptoRow : OpenClaim := { program := "ytpfhbdpmafcnfaa", sum := "6039eea9acd011e01eec63dc6ea49f54312373e4e16c988b588abe9d46298da6", func := "loop.example/g01303/laws.FnExactReflectSum", spec := "fnExactReflectSum", unfollowed := true, recurses := true, apart := false, narrowed := true }
def FnExactReflectSumUptoSaid : Prop := fnExactReflectSumUptoRow.holds Try.pinned (OpenSpec.upto fnExactReflectSumSpec)

/-- 'laws.FnExactAddSums', WHERE WHAT IT READS IS OF BULK AT MOST 1048576: true; the input reads as it did. -/
def fnExactAddSumsUptoRow : OpenClaim := { program := "ytpfhbdpmafcnfaa", sum := "6039eea9acd011e01eec63dc6ea49f54312373e4e16c988b588abe9d46298da6", func := "loop.example/g01303/laws.FnExactAddSums", spec := "fnExactAddSums", unfollowed := true, recurses := true, apart := false, narrowed := true }
def FnExactAddSumsUptoSaid : Prop := fnExactAddSumsUptoRow.holds Try.pinned (OpenSpec.upto fnExactAddSumsSpec)

/-- 'laws.FnExactRotateSum', WHERE WHAT IT READS IS OF BULK AT MOST 1048576: true; the input reads as it did. -/
def fnExactRotateSumUptoRow : OpenClaim := { program := "ytpfhbdpmafcnfaa", sum := "6039eea9acd011e01eec63dc6ea49f54312373e4e16c988b588abe9d46298da6", func := "loop.example/g01303/laws.FnExactRotateSum", spec := "fnExactRotateSum", unfollowed := true, recurses := true, apart := false, narrowed := true }
def FnExactRotateSumUptoSaid : Prop := fnExactRotateSumUptoRow.holds Try.pinned (OpenSpec.upto fnExactRotateSumSpec)

/-- 'laws.FnExactCircleSum', WHERE WHAT IT READS IS OF BULK AT MOST 1048576: true; the input reads as it did. -/
def fnExactCircleSumUptoRow : OpenClaim := { program := "ytpfhbdpmafcnfaa", sum := "6039eea9acd011e01eec63dc6ea49f54312373e4e16c988b588abe9d46298da6", func := "loop.example/g01303/laws.FnExactCircleSum", spec := "fnExactCircleSum", unfollowed := true, recurses := true, apart := false, narrowed := true }
def FnExactCircleSumUptoSaid : Prop := fnExactCircleSumUptoRow.holds Try.pinned (OpenSpec.upto fnExactCircleSumSpec)

end Rows
end Go.Proofs.Ytpfhbdpmafcnfaa
