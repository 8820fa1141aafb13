/-
  DERIVED. GIVEN WITH THE SEED: THE CARDS: each row of YtoiifhmepniniaaGreatDoorRows.lean that lists a variable, with what it lists TIED to the program's text (the seventh form; the later family's looks); each row that meets fmt, with fmt's text TOLD by the authors' own Lean function (tested against real Go, not proved from fmt's source: count such statements apart). THE CARD IS WHAT COUNTS. Prove the row's statement (the work); the ties are given (YtoiifhmepniniaaGreatDoorTie.lean); close each card by the builder's one call (the guide's Derived/Test/ToyasCard.lean, 'card_holds'). Laid BY PROGRAM, IN A SANDBOX (cutbox-door.mjs). By AI agents, Wed Nov 11 2026. No macro, syntax, notation, axiom, sorry.
-/
import Derived.Test.YtoiifhmepniniaaGreatDoorRows
import GoSem.ClaimSeven
namespace Go.Proofs.YtoiifhmepniniaaGreatDoor
namespace Rows

/-- THE TIED CARD OF 'numerallaw08.TurnCuts'. -/
def turnCutsCard : Claim7 := { stood := { row := turnCutsRow, standIns := [], harness := (true, "aa09bd0eca992ea135b21da6a9091b2813434281b01dd080910a435c7fff7348"), looks := false }, kinds := [], alts := [], laidByText := true, laidKinds := [.data], laidTests := true, laidLooks := .later }
def TurnCutsCardSaid : Prop := Claim7.holds Tryz.pinned (.plain (OpenSpec.ofChange turnCutsSpec)) turnCutsCard

/-- THE SECOND FORM's CARD OF 'numerallaw08.TurnCuts'. -/
def turnCutsUptoCard : Claim7 := { stood := { row := turnCutsUptoRow, standIns := [], harness := (true, "aa09bd0eca992ea135b21da6a9091b2813434281b01dd080910a435c7fff7348"), looks := false }, kinds := [], alts := [], laidByText := true, laidKinds := [.data], laidTests := true, laidLooks := .later }
def TurnCutsUptoCardSaid : Prop := Claim7.holds Tryz.pinned (.plain (OpenSpec.upto turnCutsSpec)) turnCutsUptoCard
end Rows
end Go.Proofs.YtoiifhmepniniaaGreatDoor
