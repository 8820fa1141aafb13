/-
  DERIVED. GIVEN WITH THE SEED: THE CARDS: each row of YtaddnoneoflimaaGreatDoorRows.lean that lists a variable, with what it lists TIED to the program's text (the seventh form; the later family's looks); each row that meets fmt, with fmt's text TOLD by the authors' own Lean function (tested against real Go, not proved from fmt's source: count such statements apart). THE CARD IS WHAT COUNTS. Prove the row's statement (the work); the ties are given (YtaddnoneoflimaaGreatDoorTie.lean); close each card by the builder's one call (the guide's Derived/Test/ToyasCard.lean, 'card_holds'). Laid BY PROGRAM, IN A SANDBOX (cutbox-door.mjs). By AI agents, Wed Nov 11 2026. No macro, syntax, notation, axiom, sorry.
-/
import Derived.Test.YtaddnoneoflimaaGreatDoorRows
import GoSem.ClaimSeven
namespace Go.Proofs.YtaddnoneoflimaaGreatDoor
namespace Rows

/-- THE TIED CARD OF 'numerallaw08.TurnCuts'. -/
def turnCutsCard : Claim7 := { stood := { row := turnCutsRow, standIns := [], harness := (true, "418bdbb0d62e183233ae86026282bbc375dccb3a04fabf8c38b767299519d1a4"), looks := true }, kinds := [], alts := [], laidByText := true, laidKinds := [.data], laidTests := true, laidLooks := .later }
def TurnCutsCardSaid : Prop := Claim7.holds Tryz.pinned (.plain (OpenSpec.ofChange turnCutsSpec)) turnCutsCard

/-- THE TIED CARD OF 'numerallaw08.TurnThere'. -/
def turnThereCard : Claim7 := { stood := { row := turnThereRow, standIns := [], harness := (true, "418bdbb0d62e183233ae86026282bbc375dccb3a04fabf8c38b767299519d1a4"), looks := true }, kinds := [], alts := [], laidByText := true, laidKinds := [.data], laidTests := true, laidLooks := .later }
def TurnThereCardSaid : Prop := Claim7.holds Tryz.pinned (.plain (OpenSpec.ofChange turnThereSpec)) turnThereCard

/-- THE TIED CARD OF 'numerallaw08.TurnNears'. -/
def turnNearsCard : Claim7 := { stood := { row := turnNearsRow, standIns := [], harness := (true, "418bdbb0d62e183233ae86026282bbc375dccb3a04fabf8c38b767299519d1a4"), looks := true }, kinds := [], alts := [], laidByText := true, laidKinds := [.data], laidTests := true, laidLooks := .later }
def TurnNearsCardSaid : Prop := Claim7.holds Tryz.pinned (.plain (OpenSpec.ofChange turnNearsSpec)) turnNearsCard

/-- THE TIED CARD OF 'numerallaw06.NearReach'. -/
def nearReachCard : Claim7 := { stood := { row := nearReachRow, standIns := [], harness := (true, "418bdbb0d62e183233ae86026282bbc375dccb3a04fabf8c38b767299519d1a4"), looks := true }, kinds := [], alts := [], laidByText := true, laidKinds := [.data], laidTests := true, laidLooks := .later }
def NearReachCardSaid : Prop := Claim7.holds Tryz.pinned (.plain (OpenSpec.ofChange nearReachSpec)) nearReachCard

/-- THE TIED CARD OF 'numerallaw06.NearBeside'. -/
def nearBesideCard : Claim7 := { stood := { row := nearBesideRow, standIns := [], harness := (true, "418bdbb0d62e183233ae86026282bbc375dccb3a04fabf8c38b767299519d1a4"), looks := true }, kinds := [], alts := [], laidByText := true, laidKinds := [.data], laidTests := true, laidLooks := .later }
def NearBesideCardSaid : Prop := Claim7.holds Tryz.pinned (.plain (OpenSpec.ofChange nearBesideSpec)) nearBesideCard

/-- THE TIED CARD OF 'numerallaw08.TurnWider'. -/
def turnWiderCard : Claim7 := { stood := { row := turnWiderRow, standIns := [], harness := (true, "418bdbb0d62e183233ae86026282bbc375dccb3a04fabf8c38b767299519d1a4"), looks := true }, kinds := [], alts := [], laidByText := true, laidKinds := [.data], laidTests := true, laidLooks := .later }
def TurnWiderCardSaid : Prop := Claim7.holds Tryz.pinned (.plain (OpenSpec.ofChange turnWiderSpec)) turnWiderCard

/-- THE TIED CARD OF 'numerallaw07.SoftProducts'. -/
def softProductsCard : Claim7 := { stood := { row := softProductsRow, standIns := [], harness := (true, "418bdbb0d62e183233ae86026282bbc375dccb3a04fabf8c38b767299519d1a4"), looks := true }, kinds := [], alts := [], laidByText := true, laidKinds := [.data], laidTests := true, laidLooks := .later }
def SoftProductsCardSaid : Prop := Claim7.holds Tryz.pinned (.plain (OpenSpec.ofChange softProductsSpec)) softProductsCard

/-- THE SECOND FORM's CARD OF 'numerallaw08.TurnCuts'. -/
def turnCutsUptoCard : Claim7 := { stood := { row := turnCutsUptoRow, standIns := [], harness := (true, "418bdbb0d62e183233ae86026282bbc375dccb3a04fabf8c38b767299519d1a4"), looks := true }, kinds := [], alts := [], laidByText := true, laidKinds := [.data], laidTests := true, laidLooks := .later }
def TurnCutsUptoCardSaid : Prop := Claim7.holds Tryz.pinned (.plain (OpenSpec.upto turnCutsSpec)) turnCutsUptoCard

/-- THE SECOND FORM's CARD OF 'numerallaw08.TurnThere'. -/
def turnThereUptoCard : Claim7 := { stood := { row := turnThereUptoRow, standIns := [], harness := (true, "418bdbb0d62e183233ae86026282bbc375dccb3a04fabf8c38b767299519d1a4"), looks := true }, kinds := [], alts := [], laidByText := true, laidKinds := [.data], laidTests := true, laidLooks := .later }
def TurnThereUptoCardSaid : Prop := Claim7.holds Tryz.pinned (.plain (OpenSpec.upto turnThereSpec)) turnThereUptoCard

/-- THE SECOND FORM's CARD OF 'numerallaw08.TurnNears'. -/
def turnNearsUptoCard : Claim7 := { stood := { row := turnNearsUptoRow, standIns := [], harness := (true, "418bdbb0d62e183233ae86026282bbc375dccb3a04fabf8c38b767299519d1a4"), looks := true }, kinds := [], alts := [], laidByText := true, laidKinds := [.data], laidTests := true, laidLooks := .later }
def TurnNearsUptoCardSaid : Prop := Claim7.holds Tryz.pinned (.plain (OpenSpec.upto turnNearsSpec)) turnNearsUptoCard

/-- THE SECOND FORM's CARD OF 'numerallaw06.NearReach'. -/
def nearReachUptoCard : Claim7 := { stood := { row := nearReachUptoRow, standIns := [], harness := (true, "418bdbb0d62e183233ae86026282bbc375dccb3a04fabf8c38b767299519d1a4"), looks := true }, kinds := [], alts := [], laidByText := true, laidKinds := [.data], laidTests := true, laidLooks := .later }
def NearReachUptoCardSaid : Prop := Claim7.holds Tryz.pinned (.plain (OpenSpec.upto nearReachSpec)) nearReachUptoCard

/-- THE SECOND FORM's CARD OF 'numerallaw06.NearBeside'. -/
def nearBesideUptoCard : Claim7 := { stood := { row := nearBesideUptoRow, standIns := [], harness := (true, "418bdbb0d62e183233ae86026282bbc375dccb3a04fabf8c38b767299519d1a4"), looks := true }, kinds := [], alts := [], laidByText := true, laidKinds := [.data], laidTests := true, laidLooks := .later }
def NearBesideUptoCardSaid : Prop := Claim7.holds Tryz.pinned (.plain (OpenSpec.upto nearBesideSpec)) nearBesideUptoCard

/-- THE SECOND FORM's CARD OF 'numerallaw08.TurnWider'. -/
def turnWiderUptoCard : Claim7 := { stood := { row := turnWiderUptoRow, standIns := [], harness := (true, "418bdbb0d62e183233ae86026282bbc375dccb3a04fabf8c38b767299519d1a4"), looks := true }, kinds := [], alts := [], laidByText := true, laidKinds := [.data], laidTests := true, laidLooks := .later }
def TurnWiderUptoCardSaid : Prop := Claim7.holds Tryz.pinned (.plain (OpenSpec.upto turnWiderSpec)) turnWiderUptoCard

/-- THE SECOND FORM's CARD OF 'numerallaw07.SoftProducts'. -/
def softProductsUptoCard : Claim7 := { stood := { row := softProductsUptoRow, standIns := [], harness := (true, "418bdbb0d62e183233ae86026282bbc375dccb3a04fabf8c38b767299519d1a4"), looks := true }, kinds := [], alts := [], laidByText := true, laidKinds := [.data], laidTests := true, laidLooks := .later }
def SoftProductsUptoCardSaid : Prop := Claim7.holds Tryz.pinned (.plain (OpenSpec.upto softProductsSpec)) softProductsUptoCard
end Rows
end Go.Proofs.YtaddnoneoflimaaGreatDoor
