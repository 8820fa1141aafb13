/-
  DERIVED. GIVEN WITH THE SEED: THE CARDS: each row of YtklibjdhlmdkpaaGreatDoorRows.lean that lists a variable, with what it lists TIED to the program's text (the seventh form; the later family's looks); each row that meets fmt, with fmt's text TOLD by the authors' own Lean function (tested against real Go, not proved from fmt's source: count such statements apart). THE CARD IS WHAT COUNTS. Prove the row's statement (the work); the ties are given (YtklibjdhlmdkpaaGreatDoorTie.lean); close each card by the builder's one call (the guide's Derived/Test/ToyasCard.lean, 'card_holds'). Laid BY PROGRAM, IN A SANDBOX (cutbox-door.mjs). By AI agents, Wed Nov 11 2026. No macro, syntax, notation, axiom, sorry.
-/
import Derived.Test.YtklibjdhlmdkpaaGreatDoorRows
import GoSem.ClaimSeven
namespace Go.Proofs.YtklibjdhlmdkpaaGreatDoor
namespace Rows

/-- THE TIED CARD OF 'numerallaw08.TurnNames'. -/
def turnNamesCard : Claim7 := { stood := { row := turnNamesRow, standIns := [], harness := (true, "bd5ee1d3f18a483ee249ed1832b5459032b1aca9306d22cc656243c8ac822c79"), looks := false }, kinds := [], alts := [], laidByText := true, laidKinds := [.data], laidTests := true, laidLooks := .later }
def TurnNamesCardSaid : Prop := Claim7.holds Tryz.pinned (.plain (OpenSpec.ofChange turnNamesSpec)) turnNamesCard

/-- THE TIED CARD OF 'numerallaw08.TurnTos'. -/
def turnTosCard : Claim7 := { stood := { row := turnTosRow, standIns := [], harness := (true, "bd5ee1d3f18a483ee249ed1832b5459032b1aca9306d22cc656243c8ac822c79"), looks := false }, kinds := [], alts := [], laidByText := true, laidKinds := [.data], laidTests := true, laidLooks := .later }
def TurnTosCardSaid : Prop := Claim7.holds Tryz.pinned (.plain (OpenSpec.ofChange turnTosSpec)) turnTosCard

/-- THE TIED CARD OF 'numerallaw08.TurnInts'. -/
def turnIntsCard : Claim7 := { stood := { row := turnIntsRow, standIns := [], harness := (true, "bd5ee1d3f18a483ee249ed1832b5459032b1aca9306d22cc656243c8ac822c79"), looks := false }, kinds := [], alts := [], laidByText := true, laidKinds := [.data], laidTests := true, laidLooks := .later }
def TurnIntsCardSaid : Prop := Claim7.holds Tryz.pinned (.plain (OpenSpec.ofChange turnIntsSpec)) turnIntsCard

/-- THE TIED CARD OF 'numerallaw08.TurnFroms'. -/
def turnFromsCard : Claim7 := { stood := { row := turnFromsRow, standIns := [], harness := (true, "bd5ee1d3f18a483ee249ed1832b5459032b1aca9306d22cc656243c8ac822c79"), looks := false }, kinds := [], alts := [], laidByText := true, laidKinds := [.data], laidTests := true, laidLooks := .later }
def TurnFromsCardSaid : Prop := Claim7.holds Tryz.pinned (.plain (OpenSpec.ofChange turnFromsSpec)) turnFromsCard

/-- THE TIED CARD OF 'numerallaw08.TurnCuts'. -/
def turnCutsCard : Claim7 := { stood := { row := turnCutsRow, standIns := [], harness := (true, "bd5ee1d3f18a483ee249ed1832b5459032b1aca9306d22cc656243c8ac822c79"), looks := false }, kinds := [], alts := [], laidByText := true, laidKinds := [.data], laidTests := true, laidLooks := .later }
def TurnCutsCardSaid : Prop := Claim7.holds Tryz.pinned (.plain (OpenSpec.ofChange turnCutsSpec)) turnCutsCard

/-- THE TIED CARD OF 'numerallaw08.TurnThere'. -/
def turnThereCard : Claim7 := { stood := { row := turnThereRow, standIns := [], harness := (true, "bd5ee1d3f18a483ee249ed1832b5459032b1aca9306d22cc656243c8ac822c79"), looks := false }, kinds := [], alts := [], laidByText := true, laidKinds := [.data], laidTests := true, laidLooks := .later }
def TurnThereCardSaid : Prop := Claim7.holds Tryz.pinned (.plain (OpenSpec.ofChange turnThereSpec)) turnThereCard

/-- THE TIED CARD OF 'numerallaw08.TurnFrom'. -/
def turnFromCard : Claim7 := { stood := { row := turnFromRow, standIns := [], harness := (true, "bd5ee1d3f18a483ee249ed1832b5459032b1aca9306d22cc656243c8ac822c79"), looks := false }, kinds := [], alts := [], laidByText := true, laidKinds := [.data], laidTests := true, laidLooks := .later }
def TurnFromCardSaid : Prop := Claim7.holds Tryz.pinned (.plain (OpenSpec.ofChange turnFromSpec)) turnFromCard

/-- THE TIED CARD OF 'numerallaw08.TurnNears'. -/
def turnNearsCard : Claim7 := { stood := { row := turnNearsRow, standIns := [], harness := (true, "bd5ee1d3f18a483ee249ed1832b5459032b1aca9306d22cc656243c8ac822c79"), looks := false }, kinds := [], alts := [], laidByText := true, laidKinds := [.data], laidTests := true, laidLooks := .later }
def TurnNearsCardSaid : Prop := Claim7.holds Tryz.pinned (.plain (OpenSpec.ofChange turnNearsSpec)) turnNearsCard

/-- THE TIED CARD OF 'numerallaw08.TurnGo'. -/
def turnGoCard : Claim7 := { stood := { row := turnGoRow, standIns := [], harness := (true, "bd5ee1d3f18a483ee249ed1832b5459032b1aca9306d22cc656243c8ac822c79"), looks := false }, kinds := [], alts := [], laidByText := true, laidKinds := [.data], laidTests := true, laidLooks := .later }
def TurnGoCardSaid : Prop := Claim7.holds Tryz.pinned (.plain (OpenSpec.ofChange turnGoSpec)) turnGoCard

/-- THE TIED CARD OF 'numerallaw08.TurnNatives'. -/
def turnNativesCard : Claim7 := { stood := { row := turnNativesRow, standIns := [], harness := (true, "bd5ee1d3f18a483ee249ed1832b5459032b1aca9306d22cc656243c8ac822c79"), looks := false }, kinds := [], alts := [], laidByText := true, laidKinds := [.data], laidTests := true, laidLooks := .later }
def TurnNativesCardSaid : Prop := Claim7.holds Tryz.pinned (.plain (OpenSpec.ofChange turnNativesSpec)) turnNativesCard

/-- THE TIED CARD OF 'numerallaw08.TurnWider'. -/
def turnWiderCard : Claim7 := { stood := { row := turnWiderRow, standIns := [], harness := (true, "bd5ee1d3f18a483ee249ed1832b5459032b1aca9306d22cc656243c8ac822c79"), looks := false }, kinds := [], alts := [], laidByText := true, laidKinds := [.data], laidTests := true, laidLooks := .later }
def TurnWiderCardSaid : Prop := Claim7.holds Tryz.pinned (.plain (OpenSpec.ofChange turnWiderSpec)) turnWiderCard

/-- THE SECOND FORM's CARD OF 'numerallaw08.TurnNames'. -/
def turnNamesUptoCard : Claim7 := { stood := { row := turnNamesUptoRow, standIns := [], harness := (true, "bd5ee1d3f18a483ee249ed1832b5459032b1aca9306d22cc656243c8ac822c79"), looks := false }, kinds := [], alts := [], laidByText := true, laidKinds := [.data], laidTests := true, laidLooks := .later }
def TurnNamesUptoCardSaid : Prop := Claim7.holds Tryz.pinned (.plain (OpenSpec.upto turnNamesSpec)) turnNamesUptoCard

/-- THE SECOND FORM's CARD OF 'numerallaw08.TurnTos'. -/
def turnTosUptoCard : Claim7 := { stood := { row := turnTosUptoRow, standIns := [], harness := (true, "bd5ee1d3f18a483ee249ed1832b5459032b1aca9306d22cc656243c8ac822c79"), looks := false }, kinds := [], alts := [], laidByText := true, laidKinds := [.data], laidTests := true, laidLooks := .later }
def TurnTosUptoCardSaid : Prop := Claim7.holds Tryz.pinned (.plain (OpenSpec.upto turnTosSpec)) turnTosUptoCard

/-- THE SECOND FORM's CARD OF 'numerallaw08.TurnInts'. -/
def turnIntsUptoCard : Claim7 := { stood := { row := turnIntsUptoRow, standIns := [], harness := (true, "bd5ee1d3f18a483ee249ed1832b5459032b1aca9306d22cc656243c8ac822c79"), looks := false }, kinds := [], alts := [], laidByText := true, laidKinds := [.data], laidTests := true, laidLooks := .later }
def TurnIntsUptoCardSaid : Prop := Claim7.holds Tryz.pinned (.plain (OpenSpec.upto turnIntsSpec)) turnIntsUptoCard

/-- THE SECOND FORM's CARD OF 'numerallaw08.TurnFroms'. -/
def turnFromsUptoCard : Claim7 := { stood := { row := turnFromsUptoRow, standIns := [], harness := (true, "bd5ee1d3f18a483ee249ed1832b5459032b1aca9306d22cc656243c8ac822c79"), looks := false }, kinds := [], alts := [], laidByText := true, laidKinds := [.data], laidTests := true, laidLooks := .later }
def TurnFromsUptoCardSaid : Prop := Claim7.holds Tryz.pinned (.plain (OpenSpec.upto turnFromsSpec)) turnFromsUptoCard

/-- THE SECOND FORM's CARD OF 'numerallaw08.TurnCuts'. -/
def turnCutsUptoCard : Claim7 := { stood := { row := turnCutsUptoRow, standIns := [], harness := (true, "bd5ee1d3f18a483ee249ed1832b5459032b1aca9306d22cc656243c8ac822c79"), looks := false }, kinds := [], alts := [], laidByText := true, laidKinds := [.data], laidTests := true, laidLooks := .later }
def TurnCutsUptoCardSaid : Prop := Claim7.holds Tryz.pinned (.plain (OpenSpec.upto turnCutsSpec)) turnCutsUptoCard

/-- THE SECOND FORM's CARD OF 'numerallaw08.TurnThere'. -/
def turnThereUptoCard : Claim7 := { stood := { row := turnThereUptoRow, standIns := [], harness := (true, "bd5ee1d3f18a483ee249ed1832b5459032b1aca9306d22cc656243c8ac822c79"), looks := false }, kinds := [], alts := [], laidByText := true, laidKinds := [.data], laidTests := true, laidLooks := .later }
def TurnThereUptoCardSaid : Prop := Claim7.holds Tryz.pinned (.plain (OpenSpec.upto turnThereSpec)) turnThereUptoCard

/-- THE SECOND FORM's CARD OF 'numerallaw08.TurnFrom'. -/
def turnFromUptoCard : Claim7 := { stood := { row := turnFromUptoRow, standIns := [], harness := (true, "bd5ee1d3f18a483ee249ed1832b5459032b1aca9306d22cc656243c8ac822c79"), looks := false }, kinds := [], alts := [], laidByText := true, laidKinds := [.data], laidTests := true, laidLooks := .later }
def TurnFromUptoCardSaid : Prop := Claim7.holds Tryz.pinned (.plain (OpenSpec.upto turnFromSpec)) turnFromUptoCard

/-- THE SECOND FORM's CARD OF 'numerallaw08.TurnNears'. -/
def turnNearsUptoCard : Claim7 := { stood := { row := turnNearsUptoRow, standIns := [], harness := (true, "bd5ee1d3f18a483ee249ed1832b5459032b1aca9306d22cc656243c8ac822c79"), looks := false }, kinds := [], alts := [], laidByText := true, laidKinds := [.data], laidTests := true, laidLooks := .later }
def TurnNearsUptoCardSaid : Prop := Claim7.holds Tryz.pinned (.plain (OpenSpec.upto turnNearsSpec)) turnNearsUptoCard

/-- THE SECOND FORM's CARD OF 'numerallaw08.TurnGo'. -/
def turnGoUptoCard : Claim7 := { stood := { row := turnGoUptoRow, standIns := [], harness := (true, "bd5ee1d3f18a483ee249ed1832b5459032b1aca9306d22cc656243c8ac822c79"), looks := false }, kinds := [], alts := [], laidByText := true, laidKinds := [.data], laidTests := true, laidLooks := .later }
def TurnGoUptoCardSaid : Prop := Claim7.holds Tryz.pinned (.plain (OpenSpec.upto turnGoSpec)) turnGoUptoCard

/-- THE SECOND FORM's CARD OF 'numerallaw08.TurnNatives'. -/
def turnNativesUptoCard : Claim7 := { stood := { row := turnNativesUptoRow, standIns := [], harness := (true, "bd5ee1d3f18a483ee249ed1832b5459032b1aca9306d22cc656243c8ac822c79"), looks := false }, kinds := [], alts := [], laidByText := true, laidKinds := [.data], laidTests := true, laidLooks := .later }
def TurnNativesUptoCardSaid : Prop := Claim7.holds Tryz.pinned (.plain (OpenSpec.upto turnNativesSpec)) turnNativesUptoCard

/-- THE SECOND FORM's CARD OF 'numerallaw08.TurnWider'. -/
def turnWiderUptoCard : Claim7 := { stood := { row := turnWiderUptoRow, standIns := [], harness := (true, "bd5ee1d3f18a483ee249ed1832b5459032b1aca9306d22cc656243c8ac822c79"), looks := false }, kinds := [], alts := [], laidByText := true, laidKinds := [.data], laidTests := true, laidLooks := .later }
def TurnWiderUptoCardSaid : Prop := Claim7.holds Tryz.pinned (.plain (OpenSpec.upto turnWiderSpec)) turnWiderUptoCard
end Rows
end Go.Proofs.YtklibjdhlmdkpaaGreatDoor
