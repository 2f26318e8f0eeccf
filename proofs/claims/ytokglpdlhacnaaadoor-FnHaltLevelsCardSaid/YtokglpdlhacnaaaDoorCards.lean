/-
  DERIVED. GIVEN WITH THE SEED: THE CARDS: each row of YtokglpdlhacnaaaDoorRows.lean that lists a variable, with what it lists TIED to the program's text (the seventh form; the later family's looks); each row that meets fmt, with fmt's text TOLD by the authors' own Lean function (tested against real Go, not proved from fmt's source: count such statements apart). THE CARD IS WHAT COUNTS. Prove the row's statement (the work); the ties are given (YtokglpdlhacnaaaDoorTie.lean); close each card by the builder's one call (the guide's Derived/Test/ToyasCard.lean, 'card_holds'). Laid BY PROGRAM, IN A SANDBOX (cutbox-door.mjs). By AI agents, Wed Nov 11 2026. No macro, syntax, notation, axiom, sorry.
-/
import Derived.Test.YtokglpdlhacnaaaDoorRows
import GoSem.ClaimSeven
namespace Go.Proofs.YtokglpdlhacnaaaDoor
namespace Rows

/-- THE TIED CARD OF 'laws.FnExactRunLoop'. -/
def fnExactRunLoopCard : Claim7 := { stood := { row := fnExactRunLoopRow, standIns := [], harness := (true, "8bb93bedd6c971e863d1091ae94ae366ec43d2e5a6d5d1cf36d29287f5e50991"), looks := true }, kinds := [], alts := [], laidByText := true, laidKinds := [.sentinel, .sentinel], laidTests := true, laidLooks := .later }
def FnExactRunLoopCardSaid : Prop := Claim7.holds Tryd.pinned (.plain (OpenSpec.ofChange fnExactRunLoopSpec)) fnExactRunLoopCard

/-- THE TIED CARD OF 'laws.FnExactNeverEnters'. -/
def fnExactNeverEntersCard : Claim7 := { stood := { row := fnExactNeverEntersRow, standIns := [], harness := (true, "8bb93bedd6c971e863d1091ae94ae366ec43d2e5a6d5d1cf36d29287f5e50991"), looks := true }, kinds := [], alts := [], laidByText := true, laidKinds := [.data, .data, .data], laidTests := true, laidLooks := .later }
def FnExactNeverEntersCardSaid : Prop := Claim7.holds Tryd.pinned (.plain (OpenSpec.ofChange fnExactNeverEntersSpec)) fnExactNeverEntersCard

/-- THE TIED CARD OF 'laws.FnExactBackwardDepth'. -/
def fnExactBackwardDepthCard : Claim7 := { stood := { row := fnExactBackwardDepthRow, standIns := [], harness := (true, "8bb93bedd6c971e863d1091ae94ae366ec43d2e5a6d5d1cf36d29287f5e50991"), looks := true }, kinds := [], alts := [], laidByText := true, laidKinds := [.data, .data, .data], laidTests := true, laidLooks := .later }
def FnExactBackwardDepthCardSaid : Prop := Claim7.holds Tryd.pinned (.plain (OpenSpec.ofChange fnExactBackwardDepthSpec)) fnExactBackwardDepthCard

/-- THE TIED CARD OF 'laws.FnExactBackwardLevels'. -/
def fnExactBackwardLevelsCard : Claim7 := { stood := { row := fnExactBackwardLevelsRow, standIns := [], harness := (true, "8bb93bedd6c971e863d1091ae94ae366ec43d2e5a6d5d1cf36d29287f5e50991"), looks := true }, kinds := [], alts := [], laidByText := true, laidKinds := [.data, .data, .data], laidTests := true, laidLooks := .later }
def FnExactBackwardLevelsCardSaid : Prop := Claim7.holds Tryd.pinned (.plain (OpenSpec.ofChange fnExactBackwardLevelsSpec)) fnExactBackwardLevelsCard

/-- THE TIED CARD OF 'laws.FnExactAncestorsOf'. -/
def fnExactAncestorsOfCard : Claim7 := { stood := { row := fnExactAncestorsOfRow, standIns := [], harness := (true, "8bb93bedd6c971e863d1091ae94ae366ec43d2e5a6d5d1cf36d29287f5e50991"), looks := true }, kinds := [], alts := [], laidByText := true, laidKinds := [.data, .data, .data], laidTests := true, laidLooks := .later }
def FnExactAncestorsOfCardSaid : Prop := Claim7.holds Tryd.pinned (.plain (OpenSpec.ofChange fnExactAncestorsOfSpec)) fnExactAncestorsOfCard

/-- THE TIED CARD OF 'laws.FnHaltLevels'. -/
def fnHaltLevelsCard : Claim7 := { stood := { row := fnHaltLevelsRow, standIns := [], harness := (true, "8bb93bedd6c971e863d1091ae94ae366ec43d2e5a6d5d1cf36d29287f5e50991"), looks := true }, kinds := [], alts := [], laidByText := true, laidKinds := [.data, .data, .data], laidTests := true, laidLooks := .later }
def FnHaltLevelsCardSaid : Prop := Claim7.holds Tryd.pinned (.plain (OpenSpec.ofChange fnHaltLevelsSpec)) fnHaltLevelsCard

/-- THE SECOND FORM's CARD OF 'laws.FnExactRunLoop'. -/
def fnExactRunLoopUptoCard : Claim7 := { stood := { row := fnExactRunLoopUptoRow, standIns := [], harness := (true, "8bb93bedd6c971e863d1091ae94ae366ec43d2e5a6d5d1cf36d29287f5e50991"), looks := true }, kinds := [], alts := [], laidByText := true, laidKinds := [.sentinel, .sentinel], laidTests := true, laidLooks := .later }
def FnExactRunLoopUptoCardSaid : Prop := Claim7.holds Tryd.pinned (.plain (OpenSpec.upto fnExactRunLoopSpec)) fnExactRunLoopUptoCard

/-- THE SECOND FORM's CARD OF 'laws.FnExactNeverEnters'. -/
def fnExactNeverEntersUptoCard : Claim7 := { stood := { row := fnExactNeverEntersUptoRow, standIns := [], harness := (true, "8bb93bedd6c971e863d1091ae94ae366ec43d2e5a6d5d1cf36d29287f5e50991"), looks := true }, kinds := [], alts := [], laidByText := true, laidKinds := [.data, .data, .data], laidTests := true, laidLooks := .later }
def FnExactNeverEntersUptoCardSaid : Prop := Claim7.holds Tryd.pinned (.plain (OpenSpec.upto fnExactNeverEntersSpec)) fnExactNeverEntersUptoCard

/-- THE SECOND FORM's CARD OF 'laws.FnExactBackwardDepth'. -/
def fnExactBackwardDepthUptoCard : Claim7 := { stood := { row := fnExactBackwardDepthUptoRow, standIns := [], harness := (true, "8bb93bedd6c971e863d1091ae94ae366ec43d2e5a6d5d1cf36d29287f5e50991"), looks := true }, kinds := [], alts := [], laidByText := true, laidKinds := [.data, .data, .data], laidTests := true, laidLooks := .later }
def FnExactBackwardDepthUptoCardSaid : Prop := Claim7.holds Tryd.pinned (.plain (OpenSpec.upto fnExactBackwardDepthSpec)) fnExactBackwardDepthUptoCard

/-- THE SECOND FORM's CARD OF 'laws.FnExactBackwardLevels'. -/
def fnExactBackwardLevelsUptoCard : Claim7 := { stood := { row := fnExactBackwardLevelsUptoRow, standIns := [], harness := (true, "8bb93bedd6c971e863d1091ae94ae366ec43d2e5a6d5d1cf36d29287f5e50991"), looks := true }, kinds := [], alts := [], laidByText := true, laidKinds := [.data, .data, .data], laidTests := true, laidLooks := .later }
def FnExactBackwardLevelsUptoCardSaid : Prop := Claim7.holds Tryd.pinned (.plain (OpenSpec.upto fnExactBackwardLevelsSpec)) fnExactBackwardLevelsUptoCard

/-- THE SECOND FORM's CARD OF 'laws.FnExactAncestorsOf'. -/
def fnExactAncestorsOfUptoCard : Claim7 := { stood := { row := fnExactAncestorsOfUptoRow, standIns := [], harness := (true, "8bb93bedd6c971e863d1091ae94ae366ec43d2e5a6d5d1cf36d29287f5e50991"), looks := true }, kinds := [], alts := [], laidByText := true, laidKinds := [.data, .data, .data], laidTests := true, laidLooks := .later }
def FnExactAncestorsOfUptoCardSaid : Prop := Claim7.holds Tryd.pinned (.plain (OpenSpec.upto fnExactAncestorsOfSpec)) fnExactAncestorsOfUptoCard

/-- THE SECOND FORM's CARD OF 'laws.FnHaltLevels'. -/
def fnHaltLevelsUptoCard : Claim7 := { stood := { row := fnHaltLevelsUptoRow, standIns := [], harness := (true, "8bb93bedd6c971e863d1091ae94ae366ec43d2e5a6d5d1cf36d29287f5e50991"), looks := true }, kinds := [], alts := [], laidByText := true, laidKinds := [.data, .data, .data], laidTests := true, laidLooks := .later }
def FnHaltLevelsUptoCardSaid : Prop := Claim7.holds Tryd.pinned (.plain (OpenSpec.upto fnHaltLevelsSpec)) fnHaltLevelsUptoCard
end Rows
end Go.Proofs.YtokglpdlhacnaaaDoor
