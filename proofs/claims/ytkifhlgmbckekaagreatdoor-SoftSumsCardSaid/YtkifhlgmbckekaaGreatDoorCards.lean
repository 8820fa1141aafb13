/-
  DERIVED. GIVEN WITH THE SEED: THE CARDS: each row of YtkifhlgmbckekaaGreatDoorRows.lean that lists a variable, with what it lists TIED to the program's text (the seventh form; the later family's looks); each row that meets fmt, with fmt's text TOLD by the authors' own Lean function (tested against real Go, not proved from fmt's source: count such statements apart). THE CARD IS WHAT COUNTS. Prove the row's statement (the work); the ties are given (YtkifhlgmbckekaaGreatDoorTie.lean); close each card by the builder's one call (the guide's Derived/Test/ToyasCard.lean, 'card_holds'). Laid BY PROGRAM, IN A SANDBOX (cutbox-door.mjs). By AI agents, Wed Nov 11 2026. No macro, syntax, notation, axiom, sorry.
-/
import Derived.Test.YtkifhlgmbckekaaGreatDoorRows
import GoSem.ClaimSeven
namespace Go.Proofs.YtkifhlgmbckekaaGreatDoor
namespace Rows

/-- THE TIED CARD OF 'numerallaw07.SoftSums'. -/
def softSumsCard : Claim7 := { stood := { row := softSumsRow, standIns := [], harness := (true, "18027eb046cd6ed894c1512153cbf03aad57f5a815313dcccfd968b64ade2643"), looks := true }, kinds := [], alts := [], laidByText := true, laidKinds := [.data], laidTests := true, laidLooks := .later }
def SoftSumsCardSaid : Prop := Claim7.holds Tryz.pinned (.plain (OpenSpec.ofChange softSumsSpec)) softSumsCard

/-- THE TIED CARD OF 'numerallaw08.TurnNames'. -/
def turnNamesCard : Claim7 := { stood := { row := turnNamesRow, standIns := [], harness := (true, "18027eb046cd6ed894c1512153cbf03aad57f5a815313dcccfd968b64ade2643"), looks := true }, kinds := [], alts := [], laidByText := true, laidKinds := [.data], laidTests := true, laidLooks := .later }
def TurnNamesCardSaid : Prop := Claim7.holds Tryz.pinned (.plain (OpenSpec.ofChange turnNamesSpec)) turnNamesCard

/-- THE TIED CARD OF 'numerallaw08.TurnTos'. -/
def turnTosCard : Claim7 := { stood := { row := turnTosRow, standIns := [], harness := (true, "18027eb046cd6ed894c1512153cbf03aad57f5a815313dcccfd968b64ade2643"), looks := true }, kinds := [], alts := [], laidByText := true, laidKinds := [.data], laidTests := true, laidLooks := .later }
def TurnTosCardSaid : Prop := Claim7.holds Tryz.pinned (.plain (OpenSpec.ofChange turnTosSpec)) turnTosCard

/-- THE TIED CARD OF 'numerallaw08.TurnInts'. -/
def turnIntsCard : Claim7 := { stood := { row := turnIntsRow, standIns := [], harness := (true, "18027eb046cd6ed894c1512153cbf03aad57f5a815313dcccfd968b64ade2643"), looks := true }, kinds := [], alts := [], laidByText := true, laidKinds := [.data], laidTests := true, laidLooks := .later }
def TurnIntsCardSaid : Prop := Claim7.holds Tryz.pinned (.plain (OpenSpec.ofChange turnIntsSpec)) turnIntsCard

/-- THE TIED CARD OF 'numerallaw08.TurnFroms'. -/
def turnFromsCard : Claim7 := { stood := { row := turnFromsRow, standIns := [], harness := (true, "18027eb046cd6ed894c1512153cbf03aad57f5a815313dcccfd968b64ade2643"), looks := true }, kinds := [], alts := [], laidByText := true, laidKinds := [.data], laidTests := true, laidLooks := .later }
def TurnFromsCardSaid : Prop := Claim7.holds Tryz.pinned (.plain (OpenSpec.ofChange turnFromsSpec)) turnFromsCard

/-- THE TIED CARD OF 'numerallaw08.TurnThere'. -/
def turnThereCard : Claim7 := { stood := { row := turnThereRow, standIns := [], harness := (true, "18027eb046cd6ed894c1512153cbf03aad57f5a815313dcccfd968b64ade2643"), looks := true }, kinds := [], alts := [], laidByText := true, laidKinds := [.data], laidTests := true, laidLooks := .later }
def TurnThereCardSaid : Prop := Claim7.holds Tryz.pinned (.plain (OpenSpec.ofChange turnThereSpec)) turnThereCard

/-- THE TIED CARD OF 'numerallaw08.TurnFrom'. -/
def turnFromCard : Claim7 := { stood := { row := turnFromRow, standIns := [], harness := (true, "18027eb046cd6ed894c1512153cbf03aad57f5a815313dcccfd968b64ade2643"), looks := true }, kinds := [], alts := [], laidByText := true, laidKinds := [.data], laidTests := true, laidLooks := .later }
def TurnFromCardSaid : Prop := Claim7.holds Tryz.pinned (.plain (OpenSpec.ofChange turnFromSpec)) turnFromCard

/-- THE TIED CARD OF 'numerallaw06.NearReach'. -/
def nearReachCard : Claim7 := { stood := { row := nearReachRow, standIns := [], harness := (true, "18027eb046cd6ed894c1512153cbf03aad57f5a815313dcccfd968b64ade2643"), looks := true }, kinds := [], alts := [], laidByText := true, laidKinds := [.data], laidTests := true, laidLooks := .later }
def NearReachCardSaid : Prop := Claim7.holds Tryz.pinned (.plain (OpenSpec.ofChange nearReachSpec)) nearReachCard

/-- THE TIED CARD OF 'numerallaw06.NearBeside'. -/
def nearBesideCard : Claim7 := { stood := { row := nearBesideRow, standIns := [], harness := (true, "18027eb046cd6ed894c1512153cbf03aad57f5a815313dcccfd968b64ade2643"), looks := true }, kinds := [], alts := [], laidByText := true, laidKinds := [.data], laidTests := true, laidLooks := .later }
def NearBesideCardSaid : Prop := Claim7.holds Tryz.pinned (.plain (OpenSpec.ofChange nearBesideSpec)) nearBesideCard

/-- THE TIED CARD OF 'numerallaw07.SoftFmas'. -/
def softFmasCard : Claim7 := { stood := { row := softFmasRow, standIns := [], harness := (true, "18027eb046cd6ed894c1512153cbf03aad57f5a815313dcccfd968b64ade2643"), looks := true }, kinds := [], alts := [], laidByText := true, laidKinds := [.data], laidTests := true, laidLooks := .later }
def SoftFmasCardSaid : Prop := Claim7.holds Tryz.pinned (.plain (OpenSpec.ofChange softFmasSpec)) softFmasCard

/-- THE TIED CARD OF 'numerallaw07.SoftRoots'. -/
def softRootsCard : Claim7 := { stood := { row := softRootsRow, standIns := [], harness := (true, "18027eb046cd6ed894c1512153cbf03aad57f5a815313dcccfd968b64ade2643"), looks := true }, kinds := [], alts := [], laidByText := true, laidKinds := [.data], laidTests := true, laidLooks := .later }
def SoftRootsCardSaid : Prop := Claim7.holds Tryz.pinned (.plain (OpenSpec.ofChange softRootsSpec)) softRootsCard

/-- THE TIED CARD OF 'numerallaw07.SoftProducts'. -/
def softProductsCard : Claim7 := { stood := { row := softProductsRow, standIns := [], harness := (true, "18027eb046cd6ed894c1512153cbf03aad57f5a815313dcccfd968b64ade2643"), looks := true }, kinds := [], alts := [], laidByText := true, laidKinds := [.data], laidTests := true, laidLooks := .later }
def SoftProductsCardSaid : Prop := Claim7.holds Tryz.pinned (.plain (OpenSpec.ofChange softProductsSpec)) softProductsCard

/-- THE SECOND FORM's CARD OF 'numerallaw07.SoftSums'. -/
def softSumsUptoCard : Claim7 := { stood := { row := softSumsUptoRow, standIns := [], harness := (true, "18027eb046cd6ed894c1512153cbf03aad57f5a815313dcccfd968b64ade2643"), looks := true }, kinds := [], alts := [], laidByText := true, laidKinds := [.data], laidTests := true, laidLooks := .later }
def SoftSumsUptoCardSaid : Prop := Claim7.holds Tryz.pinned (.plain (OpenSpec.upto softSumsSpec)) softSumsUptoCard

/-- THE SECOND FORM's CARD OF 'numerallaw08.TurnNames'. -/
def turnNamesUptoCard : Claim7 := { stood := { row := turnNamesUptoRow, standIns := [], harness := (true, "18027eb046cd6ed894c1512153cbf03aad57f5a815313dcccfd968b64ade2643"), looks := true }, kinds := [], alts := [], laidByText := true, laidKinds := [.data], laidTests := true, laidLooks := .later }
def TurnNamesUptoCardSaid : Prop := Claim7.holds Tryz.pinned (.plain (OpenSpec.upto turnNamesSpec)) turnNamesUptoCard

/-- THE SECOND FORM's CARD OF 'numerallaw08.TurnTos'. -/
def turnTosUptoCard : Claim7 := { stood := { row := turnTosUptoRow, standIns := [], harness := (true, "18027eb046cd6ed894c1512153cbf03aad57f5a815313dcccfd968b64ade2643"), looks := true }, kinds := [], alts := [], laidByText := true, laidKinds := [.data], laidTests := true, laidLooks := .later }
def TurnTosUptoCardSaid : Prop := Claim7.holds Tryz.pinned (.plain (OpenSpec.upto turnTosSpec)) turnTosUptoCard

/-- THE SECOND FORM's CARD OF 'numerallaw08.TurnInts'. -/
def turnIntsUptoCard : Claim7 := { stood := { row := turnIntsUptoRow, standIns := [], harness := (true, "18027eb046cd6ed894c1512153cbf03aad57f5a815313dcccfd968b64ade2643"), looks := true }, kinds := [], alts := [], laidByText := true, laidKinds := [.data], laidTests := true, laidLooks := .later }
def TurnIntsUptoCardSaid : Prop := Claim7.holds Tryz.pinned (.plain (OpenSpec.upto turnIntsSpec)) turnIntsUptoCard

/-- THE SECOND FORM's CARD OF 'numerallaw08.TurnFroms'. -/
def turnFromsUptoCard : Claim7 := { stood := { row := turnFromsUptoRow, standIns := [], harness := (true, "18027eb046cd6ed894c1512153cbf03aad57f5a815313dcccfd968b64ade2643"), looks := true }, kinds := [], alts := [], laidByText := true, laidKinds := [.data], laidTests := true, laidLooks := .later }
def TurnFromsUptoCardSaid : Prop := Claim7.holds Tryz.pinned (.plain (OpenSpec.upto turnFromsSpec)) turnFromsUptoCard

/-- THE SECOND FORM's CARD OF 'numerallaw08.TurnThere'. -/
def turnThereUptoCard : Claim7 := { stood := { row := turnThereUptoRow, standIns := [], harness := (true, "18027eb046cd6ed894c1512153cbf03aad57f5a815313dcccfd968b64ade2643"), looks := true }, kinds := [], alts := [], laidByText := true, laidKinds := [.data], laidTests := true, laidLooks := .later }
def TurnThereUptoCardSaid : Prop := Claim7.holds Tryz.pinned (.plain (OpenSpec.upto turnThereSpec)) turnThereUptoCard

/-- THE SECOND FORM's CARD OF 'numerallaw08.TurnFrom'. -/
def turnFromUptoCard : Claim7 := { stood := { row := turnFromUptoRow, standIns := [], harness := (true, "18027eb046cd6ed894c1512153cbf03aad57f5a815313dcccfd968b64ade2643"), looks := true }, kinds := [], alts := [], laidByText := true, laidKinds := [.data], laidTests := true, laidLooks := .later }
def TurnFromUptoCardSaid : Prop := Claim7.holds Tryz.pinned (.plain (OpenSpec.upto turnFromSpec)) turnFromUptoCard

/-- THE SECOND FORM's CARD OF 'numerallaw06.NearReach'. -/
def nearReachUptoCard : Claim7 := { stood := { row := nearReachUptoRow, standIns := [], harness := (true, "18027eb046cd6ed894c1512153cbf03aad57f5a815313dcccfd968b64ade2643"), looks := true }, kinds := [], alts := [], laidByText := true, laidKinds := [.data], laidTests := true, laidLooks := .later }
def NearReachUptoCardSaid : Prop := Claim7.holds Tryz.pinned (.plain (OpenSpec.upto nearReachSpec)) nearReachUptoCard

/-- THE SECOND FORM's CARD OF 'numerallaw06.NearBeside'. -/
def nearBesideUptoCard : Claim7 := { stood := { row := nearBesideUptoRow, standIns := [], harness := (true, "18027eb046cd6ed894c1512153cbf03aad57f5a815313dcccfd968b64ade2643"), looks := true }, kinds := [], alts := [], laidByText := true, laidKinds := [.data], laidTests := true, laidLooks := .later }
def NearBesideUptoCardSaid : Prop := Claim7.holds Tryz.pinned (.plain (OpenSpec.upto nearBesideSpec)) nearBesideUptoCard

/-- THE SECOND FORM's CARD OF 'numerallaw07.SoftFmas'. -/
def softFmasUptoCard : Claim7 := { stood := { row := softFmasUptoRow, standIns := [], harness := (true, "18027eb046cd6ed894c1512153cbf03aad57f5a815313dcccfd968b64ade2643"), looks := true }, kinds := [], alts := [], laidByText := true, laidKinds := [.data], laidTests := true, laidLooks := .later }
def SoftFmasUptoCardSaid : Prop := Claim7.holds Tryz.pinned (.plain (OpenSpec.upto softFmasSpec)) softFmasUptoCard

/-- THE SECOND FORM's CARD OF 'numerallaw07.SoftRoots'. -/
def softRootsUptoCard : Claim7 := { stood := { row := softRootsUptoRow, standIns := [], harness := (true, "18027eb046cd6ed894c1512153cbf03aad57f5a815313dcccfd968b64ade2643"), looks := true }, kinds := [], alts := [], laidByText := true, laidKinds := [.data], laidTests := true, laidLooks := .later }
def SoftRootsUptoCardSaid : Prop := Claim7.holds Tryz.pinned (.plain (OpenSpec.upto softRootsSpec)) softRootsUptoCard

/-- THE SECOND FORM's CARD OF 'numerallaw07.SoftProducts'. -/
def softProductsUptoCard : Claim7 := { stood := { row := softProductsUptoRow, standIns := [], harness := (true, "18027eb046cd6ed894c1512153cbf03aad57f5a815313dcccfd968b64ade2643"), looks := true }, kinds := [], alts := [], laidByText := true, laidKinds := [.data], laidTests := true, laidLooks := .later }
def SoftProductsUptoCardSaid : Prop := Claim7.holds Tryz.pinned (.plain (OpenSpec.upto softProductsSpec)) softProductsUptoCard
end Rows
end Go.Proofs.YtkifhlgmbckekaaGreatDoor
