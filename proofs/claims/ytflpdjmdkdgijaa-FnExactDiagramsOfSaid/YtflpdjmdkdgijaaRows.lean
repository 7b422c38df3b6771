/-
  No cell of these rows narrows 'for every input' (looked for: loops, veiled, ifaces, maps, wideKeys, modest, calm, conditions, laid).
  DERIVED. THE GIVEN ROWS OF THIS SEAT. 4 by the template 'for every input the law returns true; each argument reads behind the call as it read before'; 0 by the template 'total and deterministic' (their statements: YtflpdjmdkdgijaaTotals.lean).
  GIVEN WITH THE SEED: the statements are not yours to turn. If you find one false, say at which input.
  Laid BY PROGRAM, IN A SANDBOX (cutbox-rows.mjs): the forced cells as the released guide's own fill.sh prints them over the translation 9a5956da7e9ed739… (all of the seat's roots in one cut). By AI agents, Wed Nov 11 2026. No macro, syntax, notation, axiom, sorry.
-/
import Derived.Test.YtflpdjmdkdgijaaChecked
import GoSem.Claim
import GoSem.ClaimJoined
import GoSem.ClaimMapViews
import Derived.JoinedTies
import Derived.KernelRfl
namespace Go.Proofs.Ytflpdjmdkdgijaa
/- THE CELL 'sum', in the pinned program and in every row, IS THE sha256 OF THE DUMP (.gsa) THAT YtflpdjmdkdgijaaProg.lean LOADS. Nothing in Lean hashes anything: it is a label: what it is worth is what the hold of that sum in a sandbox is worth. -/
noncomputable def Try.pinned : Pinned := { name := "ytflpdjmdkdgijaa", sum := "9a5956da7e9ed739c95098cf071c57f7c49da73663a6c6412eab7f80bfc96ed7", checked := Try.checked }
namespace Rows
def none {H : Type} : Left H := { results := [], args := [] }

/-- 'laws.FnExactNamedWeb': WHATEVER THE INPUT: true; the input reads as it did. -/
def fnExactNamedWebSpec : ChangeSpec := { name := "fnExactNamedWeb", fn := fun _ => fun
  | [d] => { results := [.lit (.bool true)], args := [d] }
  | _ => none }
def fnExactNamedWebRow : OpenClaim := { program := "ytflpdjmdkdgijaa", sum := "9a5956da7e9ed739c95098cf071c57f7c49da73663a6c6412eab7f80bfc96ed7", func := "loop.example/g01303/laws.FnExactNamedWeb", spec := "fnExactNamedWeb", apart := false }
def FnExactNamedWebSaid : Prop := fnExactNamedWebRow.holds Try.pinned (OpenSpec.ofChange fnExactNamedWebSpec)

/-- ITS FALSE NEIGHBOUR: 'it returns false'. Refute it at one input. -/
def fnExactNamedWebWrong : ChangeSpec := { name := "fnExactNamedWeb", fn := fun _ => fun
  | [d] => { results := [.lit (.bool false)], args := [d] }
  | _ => none }
def FnExactNamedWebWrongFalsely : Prop := fnExactNamedWebRow.holds Try.pinned (OpenSpec.ofChange fnExactNamedWebWrong)

/-- 'laws.FnExactWordsOf': WHATEVER THE INPUT: true; the input reads as it did. -/
def fnExactWordsOfSpec : ChangeSpec := { name := "fnExactWordsOf", fn := fun _ => fun
  | [d] => { results := [.lit (.bool true)], args := [d] }
  | _ => none }
def fnExactWordsOfRow : OpenClaim := { program := "ytflpdjmdkdgijaa", sum := "9a5956da7e9ed739c95098cf071c57f7c49da73663a6c6412eab7f80bfc96ed7", func := "loop.example/g01303/laws.FnExactWordsOf", spec := "fnExactWordsOf", unfollowed := true, recurses := true, apart := false }
def FnExactWordsOfSaid : Prop := fnExactWordsOfRow.holds Try.pinned (OpenSpec.ofChange fnExactWordsOfSpec)

/-- ITS FALSE NEIGHBOUR: 'it returns false'. Refute it at one input. -/
def fnExactWordsOfWrong : ChangeSpec := { name := "fnExactWordsOf", fn := fun _ => fun
  | [d] => { results := [.lit (.bool false)], args := [d] }
  | _ => none }
def FnExactWordsOfWrongFalsely : Prop := fnExactWordsOfRow.holds Try.pinned (OpenSpec.ofChange fnExactWordsOfWrong)

/-- 'laws.FnExactPlaceInList': WHATEVER THE INPUT: true; the input reads as it did. -/
def fnExactPlaceInListSpec : ChangeSpec := { name := "fnExactPlaceInList", fn := fun _ => fun
  | [d] => { results := [.lit (.bool true)], args := [d] }
  | _ => none }
def fnExactPlaceInListRow : OpenClaim := { program := "ytflpdjmdkdgijaa", sum := "9a5956da7e9ed739c95098cf071c57f7c49da73663a6c6412eab7f80bfc96ed7", func := "loop.example/g01303/laws.FnExactPlaceInList", spec := "fnExactPlaceInList", unfollowed := true, recurses := true, apart := false }
def FnExactPlaceInListSaid : Prop := fnExactPlaceInListRow.holds Try.pinned (OpenSpec.ofChange fnExactPlaceInListSpec)

/-- ITS FALSE NEIGHBOUR: 'it returns false'. Refute it at one input. -/
def fnExactPlaceInListWrong : ChangeSpec := { name := "fnExactPlaceInList", fn := fun _ => fun
  | [d] => { results := [.lit (.bool false)], args := [d] }
  | _ => none }
def FnExactPlaceInListWrongFalsely : Prop := fnExactPlaceInListRow.holds Try.pinned (OpenSpec.ofChange fnExactPlaceInListWrong)

/-- 'laws.FnExactDiagramsOf': WHATEVER THE INPUT: true; the input reads as it did. -/
def fnExactDiagramsOfSpec : ChangeSpec := { name := "fnExactDiagramsOf", fn := fun _ => fun
  | [d] => { results := [.lit (.bool true)], args := [d] }
  | _ => none }
def fnExactDiagramsOfRow : OpenClaim := { program := "ytflpdjmdkdgijaa", sum := "9a5956da7e9ed739c95098cf071c57f7c49da73663a6c6412eab7f80bfc96ed7", func := "loop.example/g01303/laws.FnExactDiagramsOf", spec := "fnExactDiagramsOf", unfollowed := true, recurses := true, apart := false }
def FnExactDiagramsOfSaid : Prop := fnExactDiagramsOfRow.holds Try.pinned (OpenSpec.ofChange fnExactDiagramsOfSpec)

/-- ITS FALSE NEIGHBOUR: 'it returns false'. Refute it at one input. -/
def fnExactDiagramsOfWrong : ChangeSpec := { name := "fnExactDiagramsOf", fn := fun _ => fun
  | [d] => { results := [.lit (.bool false)], args := [d] }
  | _ => none }
def FnExactDiagramsOfWrongFalsely : Prop := fnExactDiagramsOfRow.holds Try.pinned (OpenSpec.ofChange fnExactDiagramsOfWrong)

/- THE SECOND FORM. 'bulk': how many values and letters a reading holds, each counted each time it is reached (what is shared counts as often as it is met; a slice's spare places count too). A statement '..UptoSaid' is the law's where the arguments, and the package variables that the reading takes, are together of bulk at most 1048576: NARROWER than '..Said'. Prove '..Said' where nothing that the law and all that it calls make is longer than what came in: it says more and counts as full. Else prove '..UptoSaid'. A law counts once. -/
mutual
def uptoBulk {H : Type} : DataW H → Nat
  | .lit (.string bytes) => bytes.length + 1
  | .lit _ => 1
  | .nil => 1
  | .ptr d => uptoBulk d + 1
  | .slice elems spare => uptoBulkAll elems + uptoBulkAll spare + 1
  | .agg parts => uptoBulkAll parts + 1
  | .iface _ d => uptoBulk d + 1
  | .map entries => uptoBulkEntries entries + 1
  | .held _ => 1
def uptoBulkAll {H : Type} : List (DataW H) → Nat
  | [] => 0
  | d :: r => uptoBulk d + uptoBulkAll r
def uptoBulkEntries {H : Type} : List (Lit × DataW H) → Nat
  | [] => 0
  | x :: r => uptoBulkEntry x + uptoBulkEntries r
def uptoBulkEntry {H : Type} : Lit × DataW H → Nat
  | (.string bytes, d) => bytes.length + uptoBulk d + 1
  | (_, d) => uptoBulk d + 1
 end
def uptoSmall : (H : Type) → List (DataW H) → Bool := fun _ ds => decide (uptoBulkAll ds ≤ 1048576)
def OpenSpec.upto (s : _root_.Go.ChangeSpec) : _root_.Go.OpenSpec := { _root_.Go.OpenSpec.ofChange s with cond := some uptoSmall }

/-- 'laws.FnExactNamedWeb', WHERE WHAT IT READS IS OF BULK AT MOST 1048576: true; the input reads as it did. -/
def fnExactNamedWebUptoRow : OpenClaim := { program := "ytflpdjmdkdgijaa", sum := "9a5956da7e9ed739c95098cf071c57f7c49da73663a6c6412eab7f80bfc96ed7", func := "loop.example/g01303/laws.FnExactNamedWeb", spec := "fnExactNamedWeb", apart := false, narrowed := true }
def FnExactNamedWebUptoSaid : Prop := fnExactNamedWebUptoRow.holds Try.pinned (OpenSpec.upto fnExactNamedWebSpec)

/-- 'laws.FnExactWordsOf', WHERE WHAT IT READS IS OF BULK AT MOST 1048576: true; the input reads as it did. -/
def fnExactWordsOfUptoRow : OpenClaim := { program := "ytflpdjmdkdgijaa", sum := "9a5956da7e9ed739c95098cf071c57f7c49da73663a6c6412eab7f80bfc96ed7", func := "loop.example/g01303/laws.FnExactWordsOf", spec := "fnExactWordsOf", unfollowed := true, recurses := true, apart := false, narrowed := true }
def FnExactWordsOfUptoSaid : Prop := fnExactWordsOfUptoRow.holds Try.pinned (OpenSpec.upto fnExactWordsOfSpec)

/-- 'laws.FnExactPlaceInList', WHERE WHAT IT READS IS OF BULK AT MOST 1048576: true; the input reads as it did. -/
def fnExactPlaceInListUptoRow : OpenClaim := { program := "ytflpdjmdkdgijaa", sum := "9a5956da7e9ed739c95098cf071c57f7c49da73663a6c6412eab7f80bfc96ed7", func := "loop.example/g01303/laws.FnExactPlaceInList", spec := "fnExactPlaceInList", unfollowed := true, recurses := true, apart := false, narrowed := true }
def FnExactPlaceInListUptoSaid : Prop := fnExactPlaceInListUptoRow.holds Try.pinned (OpenSpec.upto fnExactPlaceInListSpec)

/-- 'laws.FnExactDiagramsOf', WHERE WHAT IT READS IS OF BULK AT MOST 1048576: true; the input reads as it did. -/
def fnExactDiagramsOfUptoRow : OpenClaim := { program := "ytflpdjmdkdgijaa", sum := "9a5956da7e9ed739c95098cf071c57f7c49da73663a6c6412eab7f80bfc96ed7", func := "loop.example/g01303/laws.FnExactDiagramsOf", spec := "fnExactDiagramsOf", unfollowed := true, recurses := true, apart := false, narrowed := true }
def FnExactDiagramsOfUptoSaid : Prop := fnExactDiagramsOfUptoRow.holds Try.pinned (OpenSpec.upto fnExactDiagramsOfSpec)

end Rows
end Go.Proofs.Ytflpdjmdkdgijaa
