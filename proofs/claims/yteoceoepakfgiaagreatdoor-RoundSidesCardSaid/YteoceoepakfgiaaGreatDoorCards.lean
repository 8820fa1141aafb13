/-
  DERIVED. GIVEN WITH THE SEED: THE CARDS: each row of YteoceoepakfgiaaGreatDoorRows.lean that lists a variable, with what it lists TIED to the program's text (the seventh form; the later family's looks); each row that meets fmt, with fmt's text TOLD by the authors' own Lean function (tested against real Go, not proved from fmt's source: count such statements apart). THE CARD IS WHAT COUNTS. Prove the row's statement (the work); the ties are given (YteoceoepakfgiaaGreatDoorTie.lean); close each card by the builder's one call (the guide's Derived/Test/ToyasCard.lean, 'card_holds'). Laid BY PROGRAM, IN A SANDBOX (cutbox-door.mjs). By AI agents, Wed Nov 11 2026. No macro, syntax, notation, axiom, sorry.
-/
import Derived.Test.YteoceoepakfgiaaGreatDoorRows
import GoSem.ClaimSeven
namespace Go.Proofs.YteoceoepakfgiaaGreatDoor
namespace Rows

/-- THE TIED CARD OF 'numerallaw05.RoundInteger'. -/
def roundIntegerCard : Claim7 := { stood := { row := roundIntegerRow, standIns := [], harness := (true, "f0efccf5d060a65906fa13e3fb0223054329231a814988fd870207f74db786b6"), looks := true }, kinds := [], alts := [], laidByText := true, laidKinds := [.data], laidTests := true, laidLooks := .later }
def RoundIntegerCardSaid : Prop := Claim7.holds Tryz.pinned (.plain (OpenSpec.ofChange roundIntegerSpec)) roundIntegerCard

/-- THE TIED CARD OF 'numerallaw07.SoftSums'. -/
def softSumsCard : Claim7 := { stood := { row := softSumsRow, standIns := [], harness := (true, "f0efccf5d060a65906fa13e3fb0223054329231a814988fd870207f74db786b6"), looks := true }, kinds := [], alts := [], laidByText := true, laidKinds := [.data], laidTests := true, laidLooks := .later }
def SoftSumsCardSaid : Prop := Claim7.holds Tryz.pinned (.plain (OpenSpec.ofChange softSumsSpec)) softSumsCard

/-- THE TIED CARD OF 'numerallaw05.RoundSides'. -/
def roundSidesCard : Claim7 := { stood := { row := roundSidesRow, standIns := [], harness := (true, "f0efccf5d060a65906fa13e3fb0223054329231a814988fd870207f74db786b6"), looks := true }, kinds := [], alts := [], laidByText := true, laidKinds := [.data], laidTests := true, laidLooks := .later }
def RoundSidesCardSaid : Prop := Claim7.holds Tryz.pinned (.plain (OpenSpec.ofChange roundSidesSpec)) roundSidesCard

/-- THE SECOND FORM's CARD OF 'numerallaw05.RoundInteger'. -/
def roundIntegerUptoCard : Claim7 := { stood := { row := roundIntegerUptoRow, standIns := [], harness := (true, "f0efccf5d060a65906fa13e3fb0223054329231a814988fd870207f74db786b6"), looks := true }, kinds := [], alts := [], laidByText := true, laidKinds := [.data], laidTests := true, laidLooks := .later }
def RoundIntegerUptoCardSaid : Prop := Claim7.holds Tryz.pinned (.plain (OpenSpec.upto roundIntegerSpec)) roundIntegerUptoCard

/-- THE SECOND FORM's CARD OF 'numerallaw07.SoftSums'. -/
def softSumsUptoCard : Claim7 := { stood := { row := softSumsUptoRow, standIns := [], harness := (true, "f0efccf5d060a65906fa13e3fb0223054329231a814988fd870207f74db786b6"), looks := true }, kinds := [], alts := [], laidByText := true, laidKinds := [.data], laidTests := true, laidLooks := .later }
def SoftSumsUptoCardSaid : Prop := Claim7.holds Tryz.pinned (.plain (OpenSpec.upto softSumsSpec)) softSumsUptoCard

/-- THE SECOND FORM's CARD OF 'numerallaw05.RoundSides'. -/
def roundSidesUptoCard : Claim7 := { stood := { row := roundSidesUptoRow, standIns := [], harness := (true, "f0efccf5d060a65906fa13e3fb0223054329231a814988fd870207f74db786b6"), looks := true }, kinds := [], alts := [], laidByText := true, laidKinds := [.data], laidTests := true, laidLooks := .later }
def RoundSidesUptoCardSaid : Prop := Claim7.holds Tryz.pinned (.plain (OpenSpec.upto roundSidesSpec)) roundSidesUptoCard
end Rows
end Go.Proofs.YteoceoepakfgiaaGreatDoor
