/-
  DERIVED. GIVEN WITH THE SEED: THE CARDS: each row of YtflpdjmdkdgijaaGreatDoorRows.lean that lists a variable, with what it lists TIED to the program's text (the seventh form; the later family's looks); each row that meets fmt, with fmt's text TOLD by the authors' own Lean function (tested against real Go, not proved from fmt's source: count such statements apart). THE CARD IS WHAT COUNTS. Prove the row's statement (the work); the ties are given (YtflpdjmdkdgijaaGreatDoorTie.lean); close each card by the builder's one call (the guide's Derived/Test/ToyasCard.lean, 'card_holds'). Laid BY PROGRAM, IN A SANDBOX (cutbox-door.mjs). By AI agents, Wed Nov 11 2026. No macro, syntax, notation, axiom, sorry.
-/
import Derived.Test.YtflpdjmdkdgijaaGreatDoorRows
import GoSem.ClaimSeven
namespace Go.Proofs.YtflpdjmdkdgijaaGreatDoor
namespace Rows

/-- THE TIED CARD OF 'laws.FnExactParseSum'. -/
def fnExactParseSumCard : Claim7 := { stood := { row := fnExactParseSumRow, standIns := [], harness := (true, "4fa62ac43f5160b1d0c4d769a64d5ba630c44e772e0e1f4a0f363c2f62c2c747"), looks := true }, kinds := [], alts := [], laidByText := true, laidKinds := [.data, .data, .data, .data, .sentinel, .sentinel, .pinned], laidTests := true, laidLooks := .later }
def FnExactParseSumCardSaid : Prop := Claim7.holds Tryz.pinned (.plain (OpenSpec.ofChange fnExactParseSumSpec)) fnExactParseSumCard

/-- THE SECOND FORM's CARD OF 'laws.FnExactParseSum'. -/
def fnExactParseSumUptoCard : Claim7 := { stood := { row := fnExactParseSumUptoRow, standIns := [], harness := (true, "4fa62ac43f5160b1d0c4d769a64d5ba630c44e772e0e1f4a0f363c2f62c2c747"), looks := true }, kinds := [], alts := [], laidByText := true, laidKinds := [.data, .data, .data, .data, .sentinel, .sentinel, .pinned], laidTests := true, laidLooks := .later }
def FnExactParseSumUptoCardSaid : Prop := Claim7.holds Tryz.pinned (.plain (OpenSpec.upto fnExactParseSumSpec)) fnExactParseSumUptoCard
end Rows
end Go.Proofs.YtflpdjmdkdgijaaGreatDoor
