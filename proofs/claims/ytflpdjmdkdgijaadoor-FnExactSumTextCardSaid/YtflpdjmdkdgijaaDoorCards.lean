/-
  DERIVED. GIVEN WITH THE SEED: THE CARDS: each row of YtflpdjmdkdgijaaDoorRows.lean that lists a variable, with what it lists TIED to the program's text (the seventh form; the later family's looks); each row that meets fmt, with fmt's text TOLD by the authors' own Lean function (tested against real Go, not proved from fmt's source: count such statements apart). THE CARD IS WHAT COUNTS. Prove the row's statement (the work); the ties are given (YtflpdjmdkdgijaaDoorTie.lean); close each card by the builder's one call (the guide's Derived/Test/ToyasCard.lean, 'card_holds'). Laid BY PROGRAM, IN A SANDBOX (cutbox-door.mjs). By AI agents, Wed Nov 11 2026. No macro, syntax, notation, axiom, sorry.
-/
import Derived.Test.YtflpdjmdkdgijaaDoorRows
import GoSem.ClaimSeven
namespace Go.Proofs.YtflpdjmdkdgijaaDoor
namespace Rows

/-- THE TIED CARD OF 'laws.FnExactSumText'. -/
def fnExactSumTextCard : Claim7 := { stood := { row := fnExactSumTextRow, standIns := [], harness := (true, "d291427b1d56e2b1dfed510761caf2ce960af1b7eaf12be51f609078a712b6be"), looks := false }, kinds := [], alts := [], laidByText := true, laidKinds := [.data, .data, .data], laidTests := true, laidLooks := .later }
def FnExactSumTextCardSaid : Prop := Claim7.holds Tryd.pinned (.plain (OpenSpec.ofChange fnExactSumTextSpec)) fnExactSumTextCard

/-- THE SECOND FORM's CARD OF 'laws.FnExactSumText'. -/
def fnExactSumTextUptoCard : Claim7 := { stood := { row := fnExactSumTextUptoRow, standIns := [], harness := (true, "d291427b1d56e2b1dfed510761caf2ce960af1b7eaf12be51f609078a712b6be"), looks := false }, kinds := [], alts := [], laidByText := true, laidKinds := [.data, .data, .data], laidTests := true, laidLooks := .later }
def FnExactSumTextUptoCardSaid : Prop := Claim7.holds Tryd.pinned (.plain (OpenSpec.upto fnExactSumTextSpec)) fnExactSumTextUptoCard
end Rows
end Go.Proofs.YtflpdjmdkdgijaaDoor
