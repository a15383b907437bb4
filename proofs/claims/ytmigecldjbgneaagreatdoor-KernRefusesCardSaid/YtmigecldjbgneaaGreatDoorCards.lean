/-
  DERIVED. GIVEN WITH THE SEED: THE CARDS: each row of YtmigecldjbgneaaGreatDoorRows.lean that lists a variable, with what it lists TIED to the program's text (the seventh form; the later family's looks); each row that meets fmt, with fmt's text TOLD by the authors' own Lean function (tested against real Go, not proved from fmt's source: count such statements apart). THE CARD IS WHAT COUNTS. Prove the row's statement (the work); the ties are given (YtmigecldjbgneaaGreatDoorTie.lean); close each card by the builder's one call (the guide's Derived/Test/ToyasCard.lean, 'card_holds'). Laid BY PROGRAM, IN A SANDBOX (cutbox-door.mjs). By AI agents, Wed Nov 11 2026. No macro, syntax, notation, axiom, sorry.
-/
import Derived.Test.YtmigecldjbgneaaGreatDoorRows
import GoSem.ClaimSeven
namespace Go.Proofs.YtmigecldjbgneaaGreatDoor
namespace Rows

/-- THE TIED CARD OF 'lazarettolaw19.KernRefuses'. -/
def kernRefusesCard : Claim7 := { stood := { row := kernRefusesRow, standIns := [], harness := (true, "18ec922085e84caa74b29281bab682e7feb8fcd2b5ad5c45ed7f17aa56bee07b"), looks := true }, kinds := [], alts := [], laidByText := true, laidKinds := [.data, .data, .data, .data, .sentinel, .sentinel, .data, .pinned], laidTests := true, laidLooks := .later }
def KernRefusesCardSaid : Prop := Claim7.holds Tryz.pinned (.plain (OpenSpec.ofChange kernRefusesSpec)) kernRefusesCard

/-- THE SECOND FORM's CARD OF 'lazarettolaw19.KernRefuses'. -/
def kernRefusesUptoCard : Claim7 := { stood := { row := kernRefusesUptoRow, standIns := [], harness := (true, "18ec922085e84caa74b29281bab682e7feb8fcd2b5ad5c45ed7f17aa56bee07b"), looks := true }, kinds := [], alts := [], laidByText := true, laidKinds := [.data, .data, .data, .data, .sentinel, .sentinel, .data, .pinned], laidTests := true, laidLooks := .later }
def KernRefusesUptoCardSaid : Prop := Claim7.holds Tryz.pinned (.plain (OpenSpec.upto kernRefusesSpec)) kernRefusesUptoCard
end Rows
end Go.Proofs.YtmigecldjbgneaaGreatDoor
