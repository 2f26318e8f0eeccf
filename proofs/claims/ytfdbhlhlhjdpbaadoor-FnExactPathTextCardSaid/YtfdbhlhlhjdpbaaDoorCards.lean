/-
  DERIVED. GIVEN WITH THE SEED: THE CARDS: each row of YtfdbhlhlhjdpbaaDoorRows.lean that lists a variable, with what it lists TIED to the program's text (the seventh form; the later family's looks); each row that meets fmt, with fmt's text TOLD by the authors' own Lean function (tested against real Go, not proved from fmt's source: count such statements apart). THE CARD IS WHAT COUNTS. Prove the row's statement (the work); the ties are given (YtfdbhlhlhjdpbaaDoorTie.lean); close each card by the builder's one call (the guide's Derived/Test/ToyasCard.lean, 'card_holds'). Laid BY PROGRAM, IN A SANDBOX (cutbox-door.mjs). By AI agents, Wed Nov 11 2026. No macro, syntax, notation, axiom, sorry.
-/
import Derived.Test.YtfdbhlhlhjdpbaaDoorRows
import GoSem.ClaimSeven
namespace Go.Proofs.YtfdbhlhlhjdpbaaDoor
namespace Rows

/-- THE TIED CARD OF 'laws.FnExactRunLoop'. -/
def fnExactRunLoopCard : Claim7 := { stood := { row := fnExactRunLoopRow, standIns := [], harness := (true, "5ea8a1ac71d234ddfc4cefdd1c213d6fc9ebb531fff4e2b0f26e55ea7c36cb14"), looks := true }, kinds := [], alts := [], laidByText := true, laidKinds := [.sentinel, .sentinel], laidTests := true, laidLooks := .later }
def FnExactRunLoopCardSaid : Prop := Claim7.holds Tryd.pinned (.plain (OpenSpec.ofChange fnExactRunLoopSpec)) fnExactRunLoopCard

/-- THE TIED CARD OF 'laws.FnExactPathText'. -/
def fnExactPathTextCard : Claim7 := { stood := { row := fnExactPathTextRow, standIns := [], harness := (true, "5ea8a1ac71d234ddfc4cefdd1c213d6fc9ebb531fff4e2b0f26e55ea7c36cb14"), looks := true }, kinds := [], alts := [], laidByText := true, laidKinds := [.data, .data, .data], laidTests := true, laidLooks := .later }
def FnExactPathTextCardSaid : Prop := Claim7.holds Tryd.pinned (.plain (OpenSpec.ofChange fnExactPathTextSpec)) fnExactPathTextCard

/-- THE TIED CARD OF 'laws.FnExactNeverEnters'. -/
def fnExactNeverEntersCard : Claim7 := { stood := { row := fnExactNeverEntersRow, standIns := [], harness := (true, "5ea8a1ac71d234ddfc4cefdd1c213d6fc9ebb531fff4e2b0f26e55ea7c36cb14"), looks := true }, kinds := [], alts := [], laidByText := true, laidKinds := [.data, .data, .data], laidTests := true, laidLooks := .later }
def FnExactNeverEntersCardSaid : Prop := Claim7.holds Tryd.pinned (.plain (OpenSpec.ofChange fnExactNeverEntersSpec)) fnExactNeverEntersCard

/-- THE TIED CARD OF 'laws.FnExactBackwardDepth'. -/
def fnExactBackwardDepthCard : Claim7 := { stood := { row := fnExactBackwardDepthRow, standIns := [], harness := (true, "5ea8a1ac71d234ddfc4cefdd1c213d6fc9ebb531fff4e2b0f26e55ea7c36cb14"), looks := true }, kinds := [], alts := [], laidByText := true, laidKinds := [.data, .data, .data], laidTests := true, laidLooks := .later }
def FnExactBackwardDepthCardSaid : Prop := Claim7.holds Tryd.pinned (.plain (OpenSpec.ofChange fnExactBackwardDepthSpec)) fnExactBackwardDepthCard

/-- THE TIED CARD OF 'laws.FnExactBackwardLevels'. -/
def fnExactBackwardLevelsCard : Claim7 := { stood := { row := fnExactBackwardLevelsRow, standIns := [], harness := (true, "5ea8a1ac71d234ddfc4cefdd1c213d6fc9ebb531fff4e2b0f26e55ea7c36cb14"), looks := true }, kinds := [], alts := [], laidByText := true, laidKinds := [.data, .data, .data], laidTests := true, laidLooks := .later }
def FnExactBackwardLevelsCardSaid : Prop := Claim7.holds Tryd.pinned (.plain (OpenSpec.ofChange fnExactBackwardLevelsSpec)) fnExactBackwardLevelsCard

/-- THE TIED CARD OF 'laws.FnExactAncestorsOf'. -/
def fnExactAncestorsOfCard : Claim7 := { stood := { row := fnExactAncestorsOfRow, standIns := [], harness := (true, "5ea8a1ac71d234ddfc4cefdd1c213d6fc9ebb531fff4e2b0f26e55ea7c36cb14"), looks := true }, kinds := [], alts := [], laidByText := true, laidKinds := [.data, .data, .data], laidTests := true, laidLooks := .later }
def FnExactAncestorsOfCardSaid : Prop := Claim7.holds Tryd.pinned (.plain (OpenSpec.ofChange fnExactAncestorsOfSpec)) fnExactAncestorsOfCard

/-- THE SECOND FORM's CARD OF 'laws.FnExactRunLoop'. -/
def fnExactRunLoopUptoCard : Claim7 := { stood := { row := fnExactRunLoopUptoRow, standIns := [], harness := (true, "5ea8a1ac71d234ddfc4cefdd1c213d6fc9ebb531fff4e2b0f26e55ea7c36cb14"), looks := true }, kinds := [], alts := [], laidByText := true, laidKinds := [.sentinel, .sentinel], laidTests := true, laidLooks := .later }
def FnExactRunLoopUptoCardSaid : Prop := Claim7.holds Tryd.pinned (.plain (OpenSpec.upto fnExactRunLoopSpec)) fnExactRunLoopUptoCard

/-- THE SECOND FORM's CARD OF 'laws.FnExactPathText'. -/
def fnExactPathTextUptoCard : Claim7 := { stood := { row := fnExactPathTextUptoRow, standIns := [], harness := (true, "5ea8a1ac71d234ddfc4cefdd1c213d6fc9ebb531fff4e2b0f26e55ea7c36cb14"), looks := true }, kinds := [], alts := [], laidByText := true, laidKinds := [.data, .data, .data], laidTests := true, laidLooks := .later }
def FnExactPathTextUptoCardSaid : Prop := Claim7.holds Tryd.pinned (.plain (OpenSpec.upto fnExactPathTextSpec)) fnExactPathTextUptoCard

/-- THE SECOND FORM's CARD OF 'laws.FnExactNeverEnters'. -/
def fnExactNeverEntersUptoCard : Claim7 := { stood := { row := fnExactNeverEntersUptoRow, standIns := [], harness := (true, "5ea8a1ac71d234ddfc4cefdd1c213d6fc9ebb531fff4e2b0f26e55ea7c36cb14"), looks := true }, kinds := [], alts := [], laidByText := true, laidKinds := [.data, .data, .data], laidTests := true, laidLooks := .later }
def FnExactNeverEntersUptoCardSaid : Prop := Claim7.holds Tryd.pinned (.plain (OpenSpec.upto fnExactNeverEntersSpec)) fnExactNeverEntersUptoCard

/-- THE SECOND FORM's CARD OF 'laws.FnExactBackwardDepth'. -/
def fnExactBackwardDepthUptoCard : Claim7 := { stood := { row := fnExactBackwardDepthUptoRow, standIns := [], harness := (true, "5ea8a1ac71d234ddfc4cefdd1c213d6fc9ebb531fff4e2b0f26e55ea7c36cb14"), looks := true }, kinds := [], alts := [], laidByText := true, laidKinds := [.data, .data, .data], laidTests := true, laidLooks := .later }
def FnExactBackwardDepthUptoCardSaid : Prop := Claim7.holds Tryd.pinned (.plain (OpenSpec.upto fnExactBackwardDepthSpec)) fnExactBackwardDepthUptoCard

/-- THE SECOND FORM's CARD OF 'laws.FnExactBackwardLevels'. -/
def fnExactBackwardLevelsUptoCard : Claim7 := { stood := { row := fnExactBackwardLevelsUptoRow, standIns := [], harness := (true, "5ea8a1ac71d234ddfc4cefdd1c213d6fc9ebb531fff4e2b0f26e55ea7c36cb14"), looks := true }, kinds := [], alts := [], laidByText := true, laidKinds := [.data, .data, .data], laidTests := true, laidLooks := .later }
def FnExactBackwardLevelsUptoCardSaid : Prop := Claim7.holds Tryd.pinned (.plain (OpenSpec.upto fnExactBackwardLevelsSpec)) fnExactBackwardLevelsUptoCard

/-- THE SECOND FORM's CARD OF 'laws.FnExactAncestorsOf'. -/
def fnExactAncestorsOfUptoCard : Claim7 := { stood := { row := fnExactAncestorsOfUptoRow, standIns := [], harness := (true, "5ea8a1ac71d234ddfc4cefdd1c213d6fc9ebb531fff4e2b0f26e55ea7c36cb14"), looks := true }, kinds := [], alts := [], laidByText := true, laidKinds := [.data, .data, .data], laidTests := true, laidLooks := .later }
def FnExactAncestorsOfUptoCardSaid : Prop := Claim7.holds Tryd.pinned (.plain (OpenSpec.upto fnExactAncestorsOfSpec)) fnExactAncestorsOfUptoCard
end Rows
end Go.Proofs.YtfdbhlhlhjdpbaaDoor
