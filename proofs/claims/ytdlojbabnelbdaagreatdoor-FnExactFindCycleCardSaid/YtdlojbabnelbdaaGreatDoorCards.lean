/-
  DERIVED. GIVEN WITH THE SEED: THE CARDS: each row of YtdlojbabnelbdaaGreatDoorRows.lean that lists a variable, with what it lists TIED to the program's text (the seventh form; the later family's looks); each row that meets fmt, with fmt's text TOLD by the authors' own Lean function (tested against real Go, not proved from fmt's source: count such statements apart). THE CARD IS WHAT COUNTS. Prove the row's statement (the work); the ties are given (YtdlojbabnelbdaaGreatDoorTie.lean); close each card by the builder's one call (the guide's Derived/Test/ToyasCard.lean, 'card_holds'). Laid BY PROGRAM, IN A SANDBOX (cutbox-door.mjs). By AI agents, Wed Nov 11 2026. No macro, syntax, notation, axiom, sorry.
-/
import Derived.Test.YtdlojbabnelbdaaGreatDoorRows
import GoSem.ClaimSeven
namespace Go.Proofs.YtdlojbabnelbdaaGreatDoor
namespace Rows

/-- THE TIED CARD OF 'laws.FnExactFindCycle'. -/
def fnExactFindCycleCard : Claim7 := { stood := { row := fnExactFindCycleRow, standIns := [], harness := (true, "37f1175270f6f995a9c3281c44a5ceb07295f9c3d78ba00311c2a4bcb415dcb2"), looks := false }, kinds := [], alts := [], laidByText := true, laidKinds := [.data, .data, .data], laidTests := true, laidLooks := .later }
def FnExactFindCycleCardSaid : Prop := Claim7.holds Tryz.pinned (.plain (OpenSpec.ofChange fnExactFindCycleSpec)) fnExactFindCycleCard

/-- THE SECOND FORM's CARD OF 'laws.FnExactFindCycle'. -/
def fnExactFindCycleUptoCard : Claim7 := { stood := { row := fnExactFindCycleUptoRow, standIns := [], harness := (true, "37f1175270f6f995a9c3281c44a5ceb07295f9c3d78ba00311c2a4bcb415dcb2"), looks := false }, kinds := [], alts := [], laidByText := true, laidKinds := [.data, .data, .data], laidTests := true, laidLooks := .later }
def FnExactFindCycleUptoCardSaid : Prop := Claim7.holds Tryz.pinned (.plain (OpenSpec.upto fnExactFindCycleSpec)) fnExactFindCycleUptoCard
end Rows
end Go.Proofs.YtdlojbabnelbdaaGreatDoor
