/-
  DERIVED. GIVEN WITH THE SEED: THE CARDS: each row of YtoibcfioicdlhaaGreatDoorRows.lean that lists a variable, with what it lists TIED to the program's text (the seventh form; the later family's looks); each row that meets fmt, with fmt's text TOLD by the authors' own Lean function (tested against real Go, not proved from fmt's source: count such statements apart). THE CARD IS WHAT COUNTS. Prove the row's statement (the work); the ties are given (YtoibcfioicdlhaaGreatDoorTie.lean); close each card by the builder's one call (the guide's Derived/Test/ToyasCard.lean, 'card_holds'). Laid BY PROGRAM, IN A SANDBOX (cutbox-door.mjs). By AI agents, Wed Nov 11 2026. No macro, syntax, notation, axiom, sorry.
-/
import Derived.Test.YtoibcfioicdlhaaGreatDoorRows
import GoSem.ClaimSeven
namespace Go.Proofs.YtoibcfioicdlhaaGreatDoor
namespace Rows

/-- THE TIED CARD OF 'lazarettolaw16.PureTries'. -/
def pureTriesCard : Claim7 := { stood := { row := pureTriesRow, standIns := [], harness := (true, "4440829e15da2e9c5003e7a0782fee66523798929404240c1e124a83bcae5a5f"), looks := true }, kinds := [], alts := [], laidByText := true, laidKinds := [.data, .data, .data, .data, .sentinel, .sentinel, .data, .pinned], laidTests := true, laidLooks := .later }
def PureTriesCardSaid : Prop := Claim7.holds Tryz.pinned (.plain (OpenSpec.ofChange pureTriesSpec)) pureTriesCard

/-- THE TIED CARD OF 'lazarettolaw16.PureCalls'. -/
def pureCallsCard : Claim7 := { stood := { row := pureCallsRow, standIns := [], harness := (true, "4440829e15da2e9c5003e7a0782fee66523798929404240c1e124a83bcae5a5f"), looks := true }, kinds := [], alts := [], laidByText := true, laidKinds := [.data, .data, .data, .data, .sentinel, .sentinel, .data, .pinned], laidTests := true, laidLooks := .later }
def PureCallsCardSaid : Prop := Claim7.holds Tryz.pinned (.plain (OpenSpec.ofChange pureCallsSpec)) pureCallsCard

/-- THE TIED CARD OF 'lazarettolaw10.VerifyRuns'. -/
def verifyRunsCard : Claim7 := { stood := { row := verifyRunsRow, standIns := [], harness := (true, "4440829e15da2e9c5003e7a0782fee66523798929404240c1e124a83bcae5a5f"), looks := true }, kinds := [], alts := [], laidByText := true, laidKinds := [.data, .data, .data, .data, .sentinel, .sentinel, .data, .pinned], laidTests := true, laidLooks := .later }
def VerifyRunsCardSaid : Prop := Claim7.holds Tryz.pinned (.plain (OpenSpec.ofChange verifyRunsSpec)) verifyRunsCard

/-- THE TIED CARD OF 'lazarettolaw10.VerifyWrong'. -/
def verifyWrongCard : Claim7 := { stood := { row := verifyWrongRow, standIns := [], harness := (true, "4440829e15da2e9c5003e7a0782fee66523798929404240c1e124a83bcae5a5f"), looks := true }, kinds := [], alts := [], laidByText := true, laidKinds := [.data, .data, .data, .data, .sentinel, .sentinel, .data, .pinned], laidTests := true, laidLooks := .later }
def VerifyWrongCardSaid : Prop := Claim7.holds Tryz.pinned (.plain (OpenSpec.ofChange verifyWrongSpec)) verifyWrongCard

/-- THE TIED CARD OF 'lazarettolaw10.VerifyDepth'. -/
def verifyDepthCard : Claim7 := { stood := { row := verifyDepthRow, standIns := [], harness := (true, "4440829e15da2e9c5003e7a0782fee66523798929404240c1e124a83bcae5a5f"), looks := true }, kinds := [], alts := [], laidByText := true, laidKinds := [.data, .data, .data, .data, .sentinel, .sentinel, .data, .pinned], laidTests := true, laidLooks := .later }
def VerifyDepthCardSaid : Prop := Claim7.holds Tryz.pinned (.plain (OpenSpec.ofChange verifyDepthSpec)) verifyDepthCard

/-- THE TIED CARD OF 'lazarettolaw10.VerifyMeets'. -/
def verifyMeetsCard : Claim7 := { stood := { row := verifyMeetsRow, standIns := [], harness := (true, "4440829e15da2e9c5003e7a0782fee66523798929404240c1e124a83bcae5a5f"), looks := true }, kinds := [], alts := [], laidByText := true, laidKinds := [.data, .data, .data, .data, .sentinel, .sentinel, .data, .pinned], laidTests := true, laidLooks := .later }
def VerifyMeetsCardSaid : Prop := Claim7.holds Tryz.pinned (.plain (OpenSpec.ofChange verifyMeetsSpec)) verifyMeetsCard

/-- THE TIED CARD OF 'lazarettolaw16.PureFits'. -/
def pureFitsCard : Claim7 := { stood := { row := pureFitsRow, standIns := [], harness := (true, "4440829e15da2e9c5003e7a0782fee66523798929404240c1e124a83bcae5a5f"), looks := true }, kinds := [], alts := [], laidByText := true, laidKinds := [.data, .data, .data, .data, .sentinel, .sentinel, .data, .pinned], laidTests := true, laidLooks := .later }
def PureFitsCardSaid : Prop := Claim7.holds Tryz.pinned (.plain (OpenSpec.ofChange pureFitsSpec)) pureFitsCard

/-- THE SECOND FORM's CARD OF 'lazarettolaw16.PureTries'. -/
def pureTriesUptoCard : Claim7 := { stood := { row := pureTriesUptoRow, standIns := [], harness := (true, "4440829e15da2e9c5003e7a0782fee66523798929404240c1e124a83bcae5a5f"), looks := true }, kinds := [], alts := [], laidByText := true, laidKinds := [.data, .data, .data, .data, .sentinel, .sentinel, .data, .pinned], laidTests := true, laidLooks := .later }
def PureTriesUptoCardSaid : Prop := Claim7.holds Tryz.pinned (.plain (OpenSpec.upto pureTriesSpec)) pureTriesUptoCard

/-- THE SECOND FORM's CARD OF 'lazarettolaw16.PureCalls'. -/
def pureCallsUptoCard : Claim7 := { stood := { row := pureCallsUptoRow, standIns := [], harness := (true, "4440829e15da2e9c5003e7a0782fee66523798929404240c1e124a83bcae5a5f"), looks := true }, kinds := [], alts := [], laidByText := true, laidKinds := [.data, .data, .data, .data, .sentinel, .sentinel, .data, .pinned], laidTests := true, laidLooks := .later }
def PureCallsUptoCardSaid : Prop := Claim7.holds Tryz.pinned (.plain (OpenSpec.upto pureCallsSpec)) pureCallsUptoCard

/-- THE SECOND FORM's CARD OF 'lazarettolaw10.VerifyRuns'. -/
def verifyRunsUptoCard : Claim7 := { stood := { row := verifyRunsUptoRow, standIns := [], harness := (true, "4440829e15da2e9c5003e7a0782fee66523798929404240c1e124a83bcae5a5f"), looks := true }, kinds := [], alts := [], laidByText := true, laidKinds := [.data, .data, .data, .data, .sentinel, .sentinel, .data, .pinned], laidTests := true, laidLooks := .later }
def VerifyRunsUptoCardSaid : Prop := Claim7.holds Tryz.pinned (.plain (OpenSpec.upto verifyRunsSpec)) verifyRunsUptoCard

/-- THE SECOND FORM's CARD OF 'lazarettolaw10.VerifyWrong'. -/
def verifyWrongUptoCard : Claim7 := { stood := { row := verifyWrongUptoRow, standIns := [], harness := (true, "4440829e15da2e9c5003e7a0782fee66523798929404240c1e124a83bcae5a5f"), looks := true }, kinds := [], alts := [], laidByText := true, laidKinds := [.data, .data, .data, .data, .sentinel, .sentinel, .data, .pinned], laidTests := true, laidLooks := .later }
def VerifyWrongUptoCardSaid : Prop := Claim7.holds Tryz.pinned (.plain (OpenSpec.upto verifyWrongSpec)) verifyWrongUptoCard

/-- THE SECOND FORM's CARD OF 'lazarettolaw10.VerifyDepth'. -/
def verifyDepthUptoCard : Claim7 := { stood := { row := verifyDepthUptoRow, standIns := [], harness := (true, "4440829e15da2e9c5003e7a0782fee66523798929404240c1e124a83bcae5a5f"), looks := true }, kinds := [], alts := [], laidByText := true, laidKinds := [.data, .data, .data, .data, .sentinel, .sentinel, .data, .pinned], laidTests := true, laidLooks := .later }
def VerifyDepthUptoCardSaid : Prop := Claim7.holds Tryz.pinned (.plain (OpenSpec.upto verifyDepthSpec)) verifyDepthUptoCard

/-- THE SECOND FORM's CARD OF 'lazarettolaw10.VerifyMeets'. -/
def verifyMeetsUptoCard : Claim7 := { stood := { row := verifyMeetsUptoRow, standIns := [], harness := (true, "4440829e15da2e9c5003e7a0782fee66523798929404240c1e124a83bcae5a5f"), looks := true }, kinds := [], alts := [], laidByText := true, laidKinds := [.data, .data, .data, .data, .sentinel, .sentinel, .data, .pinned], laidTests := true, laidLooks := .later }
def VerifyMeetsUptoCardSaid : Prop := Claim7.holds Tryz.pinned (.plain (OpenSpec.upto verifyMeetsSpec)) verifyMeetsUptoCard

/-- THE SECOND FORM's CARD OF 'lazarettolaw16.PureFits'. -/
def pureFitsUptoCard : Claim7 := { stood := { row := pureFitsUptoRow, standIns := [], harness := (true, "4440829e15da2e9c5003e7a0782fee66523798929404240c1e124a83bcae5a5f"), looks := true }, kinds := [], alts := [], laidByText := true, laidKinds := [.data, .data, .data, .data, .sentinel, .sentinel, .data, .pinned], laidTests := true, laidLooks := .later }
def PureFitsUptoCardSaid : Prop := Claim7.holds Tryz.pinned (.plain (OpenSpec.upto pureFitsSpec)) pureFitsUptoCard
end Rows
end Go.Proofs.YtoibcfioicdlhaaGreatDoor
