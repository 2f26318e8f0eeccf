/-
  DERIVED. GIVEN WITH THE SEED: THE CARDS: each row of YtacajmgokdgbgaaDoorRows.lean that lists a variable, with what it lists TIED to the program's text (the seventh form; the later family's looks); each row that meets fmt, with fmt's text TOLD by the authors' own Lean function (tested against real Go, not proved from fmt's source: count such statements apart). THE CARD IS WHAT COUNTS. Prove the row's statement (the work); the ties are given (YtacajmgokdgbgaaDoorTie.lean); close each card by the builder's one call (the guide's Derived/Test/ToyasCard.lean, 'card_holds'). Laid BY PROGRAM, IN A SANDBOX (cutbox-door.mjs). By AI agents, Wed Nov 11 2026. No macro, syntax, notation, axiom, sorry.
-/
import Derived.Test.YtacajmgokdgbgaaDoorRows
import GoSem.ClaimSeven
namespace Go.Proofs.YtacajmgokdgbgaaDoor
namespace Rows

/-- THE TIED CARD OF 'laws.FnExactRunLoop'. -/
def fnExactRunLoopCard : Claim7 := { stood := { row := fnExactRunLoopRow, standIns := [], harness := (true, "12342b3a97f4ce238509fa277e302e0b7527e08ba78eb13714f72767a98f1fce"), looks := true }, kinds := [], alts := [], laidByText := true, laidKinds := [.sentinel, .sentinel], laidTests := true, laidLooks := .later }
def FnExactRunLoopCardSaid : Prop := Claim7.holds Tryd.pinned (.plain (OpenSpec.ofChange fnExactRunLoopSpec)) fnExactRunLoopCard

/-- THE TIED CARD OF 'laws.FnComposed'. -/
def fnComposedCard : Claim7 := { stood := { row := fnComposedRow, standIns := [], harness := (true, "12342b3a97f4ce238509fa277e302e0b7527e08ba78eb13714f72767a98f1fce"), looks := true }, kinds := [], alts := [], laidByText := true, laidKinds := [.data, .data, .data, .sentinel], laidTests := true, laidLooks := .later }
def FnComposedCardSaid : Prop := Claim7.holds Tryd.pinned (.plain (OpenSpec.ofChange fnComposedSpec)) fnComposedCard

/-- THE TIED CARD OF 'laws.FnExactRunFuncLoop'. -/
def fnExactRunFuncLoopCard : Claim7 := { stood := { row := fnExactRunFuncLoopRow, standIns := [], harness := (true, "12342b3a97f4ce238509fa277e302e0b7527e08ba78eb13714f72767a98f1fce"), looks := true }, kinds := [], alts := [], laidByText := true, laidKinds := [.sentinel, .sentinel], laidTests := true, laidLooks := .later }
def FnExactRunFuncLoopCardSaid : Prop := Claim7.holds Tryd.pinned (.plain (OpenSpec.ofChange fnExactRunFuncLoopSpec)) fnExactRunFuncLoopCard

/-- THE TIED CARD OF 'laws.FnStandards'. -/
def fnStandardsCard : Claim7 := { stood := { row := fnStandardsRow, standIns := [], harness := (true, "12342b3a97f4ce238509fa277e302e0b7527e08ba78eb13714f72767a98f1fce"), looks := true }, kinds := [], alts := [], laidByText := true, laidKinds := [.data, .data, .data, .sentinel], laidTests := true, laidLooks := .later }
def FnStandardsCardSaid : Prop := Claim7.holds Tryd.pinned (.plain (OpenSpec.ofChange fnStandardsSpec)) fnStandardsCard

/-- THE SECOND FORM's CARD OF 'laws.FnExactRunLoop'. -/
def fnExactRunLoopUptoCard : Claim7 := { stood := { row := fnExactRunLoopUptoRow, standIns := [], harness := (true, "12342b3a97f4ce238509fa277e302e0b7527e08ba78eb13714f72767a98f1fce"), looks := true }, kinds := [], alts := [], laidByText := true, laidKinds := [.sentinel, .sentinel], laidTests := true, laidLooks := .later }
def FnExactRunLoopUptoCardSaid : Prop := Claim7.holds Tryd.pinned (.plain (OpenSpec.upto fnExactRunLoopSpec)) fnExactRunLoopUptoCard

/-- THE SECOND FORM's CARD OF 'laws.FnComposed'. -/
def fnComposedUptoCard : Claim7 := { stood := { row := fnComposedUptoRow, standIns := [], harness := (true, "12342b3a97f4ce238509fa277e302e0b7527e08ba78eb13714f72767a98f1fce"), looks := true }, kinds := [], alts := [], laidByText := true, laidKinds := [.data, .data, .data, .sentinel], laidTests := true, laidLooks := .later }
def FnComposedUptoCardSaid : Prop := Claim7.holds Tryd.pinned (.plain (OpenSpec.upto fnComposedSpec)) fnComposedUptoCard

/-- THE SECOND FORM's CARD OF 'laws.FnExactRunFuncLoop'. -/
def fnExactRunFuncLoopUptoCard : Claim7 := { stood := { row := fnExactRunFuncLoopUptoRow, standIns := [], harness := (true, "12342b3a97f4ce238509fa277e302e0b7527e08ba78eb13714f72767a98f1fce"), looks := true }, kinds := [], alts := [], laidByText := true, laidKinds := [.sentinel, .sentinel], laidTests := true, laidLooks := .later }
def FnExactRunFuncLoopUptoCardSaid : Prop := Claim7.holds Tryd.pinned (.plain (OpenSpec.upto fnExactRunFuncLoopSpec)) fnExactRunFuncLoopUptoCard

/-- THE SECOND FORM's CARD OF 'laws.FnStandards'. -/
def fnStandardsUptoCard : Claim7 := { stood := { row := fnStandardsUptoRow, standIns := [], harness := (true, "12342b3a97f4ce238509fa277e302e0b7527e08ba78eb13714f72767a98f1fce"), looks := true }, kinds := [], alts := [], laidByText := true, laidKinds := [.data, .data, .data, .sentinel], laidTests := true, laidLooks := .later }
def FnStandardsUptoCardSaid : Prop := Claim7.holds Tryd.pinned (.plain (OpenSpec.upto fnStandardsSpec)) fnStandardsUptoCard
end Rows
end Go.Proofs.YtacajmgokdgbgaaDoor
