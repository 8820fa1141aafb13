/-
  DERIVED. GIVEN WITH THE SEED: THE CARDS: each row of YtfjgmpfpadfknaaGreatDoorRows.lean that lists a variable, with what it lists TIED to the program's text (the seventh form; the later family's looks); each row that meets fmt, with fmt's text TOLD by the authors' own Lean function (tested against real Go, not proved from fmt's source: count such statements apart). THE CARD IS WHAT COUNTS. Prove the row's statement (the work); the ties are given (YtfjgmpfpadfknaaGreatDoorTie.lean); close each card by the builder's one call (the guide's Derived/Test/ToyasCard.lean, 'card_holds'). Laid BY PROGRAM, IN A SANDBOX (cutbox-door.mjs). By AI agents, Wed Nov 11 2026. No macro, syntax, notation, axiom, sorry.
-/
import Derived.Test.YtfjgmpfpadfknaaGreatDoorRows
import GoSem.ClaimSeven
namespace Go.Proofs.YtfjgmpfpadfknaaGreatDoor
namespace Rows

/-- THE TIED CARD OF 'numerallaw06.NearReach'. -/
def nearReachCard : Claim7 := { stood := { row := nearReachRow, standIns := [], harness := (true, "a8b23a628479f87a3c0b5a82aa188c818aa3b26cfaaaa49ea804a686877b53fe"), looks := false }, kinds := [], alts := [], laidByText := true, laidKinds := [.data], laidTests := true, laidLooks := .later }
def NearReachCardSaid : Prop := Claim7.holds Tryz.pinned (.plain (OpenSpec.ofChange nearReachSpec)) nearReachCard

/-- THE TIED CARD OF 'numerallaw06.NearBeside'. -/
def nearBesideCard : Claim7 := { stood := { row := nearBesideRow, standIns := [], harness := (true, "a8b23a628479f87a3c0b5a82aa188c818aa3b26cfaaaa49ea804a686877b53fe"), looks := false }, kinds := [], alts := [], laidByText := true, laidKinds := [.data], laidTests := true, laidLooks := .later }
def NearBesideCardSaid : Prop := Claim7.holds Tryz.pinned (.plain (OpenSpec.ofChange nearBesideSpec)) nearBesideCard

/-- THE TIED CARD OF 'numerallaw06.NearMeets'. -/
def nearMeetsCard : Claim7 := { stood := { row := nearMeetsRow, standIns := [], harness := (true, "a8b23a628479f87a3c0b5a82aa188c818aa3b26cfaaaa49ea804a686877b53fe"), looks := false }, kinds := [], alts := [], laidByText := true, laidKinds := [.data], laidTests := true, laidLooks := .later }
def NearMeetsCardSaid : Prop := Claim7.holds Tryz.pinned (.plain (OpenSpec.ofChange nearMeetsSpec)) nearMeetsCard

/-- THE TIED CARD OF 'numerallaw06.NearSteps'. -/
def nearStepsCard : Claim7 := { stood := { row := nearStepsRow, standIns := [], harness := (true, "a8b23a628479f87a3c0b5a82aa188c818aa3b26cfaaaa49ea804a686877b53fe"), looks := false }, kinds := [], alts := [], laidByText := true, laidKinds := [.data], laidTests := true, laidLooks := .later }
def NearStepsCardSaid : Prop := Claim7.holds Tryz.pinned (.plain (OpenSpec.ofChange nearStepsSpec)) nearStepsCard

/-- THE TIED CARD OF 'numerallaw06.NearRow'. -/
def nearRowCard : Claim7 := { stood := { row := nearRowRow, standIns := [], harness := (true, "a8b23a628479f87a3c0b5a82aa188c818aa3b26cfaaaa49ea804a686877b53fe"), looks := false }, kinds := [], alts := [], laidByText := true, laidKinds := [.data], laidTests := true, laidLooks := .later }
def NearRowCardSaid : Prop := Claim7.holds Tryz.pinned (.plain (OpenSpec.ofChange nearRowSpec)) nearRowCard

/-- THE TIED CARD OF 'numerallaw06.NearNative'. -/
def nearNativeCard : Claim7 := { stood := { row := nearNativeRow, standIns := [], harness := (true, "a8b23a628479f87a3c0b5a82aa188c818aa3b26cfaaaa49ea804a686877b53fe"), looks := false }, kinds := [], alts := [], laidByText := true, laidKinds := [.data], laidTests := true, laidLooks := .later }
def NearNativeCardSaid : Prop := Claim7.holds Tryz.pinned (.plain (OpenSpec.ofChange nearNativeSpec)) nearNativeCard

/-- THE TIED CARD OF 'numerallaw06.NearRounds'. -/
def nearRoundsCard : Claim7 := { stood := { row := nearRoundsRow, standIns := [], harness := (true, "a8b23a628479f87a3c0b5a82aa188c818aa3b26cfaaaa49ea804a686877b53fe"), looks := false }, kinds := [], alts := [], laidByText := true, laidKinds := [.data], laidTests := true, laidLooks := .later }
def NearRoundsCardSaid : Prop := Claim7.holds Tryz.pinned (.plain (OpenSpec.ofChange nearRoundsSpec)) nearRoundsCard

/-- THE SECOND FORM's CARD OF 'numerallaw06.NearReach'. -/
def nearReachUptoCard : Claim7 := { stood := { row := nearReachUptoRow, standIns := [], harness := (true, "a8b23a628479f87a3c0b5a82aa188c818aa3b26cfaaaa49ea804a686877b53fe"), looks := false }, kinds := [], alts := [], laidByText := true, laidKinds := [.data], laidTests := true, laidLooks := .later }
def NearReachUptoCardSaid : Prop := Claim7.holds Tryz.pinned (.plain (OpenSpec.upto nearReachSpec)) nearReachUptoCard

/-- THE SECOND FORM's CARD OF 'numerallaw06.NearBeside'. -/
def nearBesideUptoCard : Claim7 := { stood := { row := nearBesideUptoRow, standIns := [], harness := (true, "a8b23a628479f87a3c0b5a82aa188c818aa3b26cfaaaa49ea804a686877b53fe"), looks := false }, kinds := [], alts := [], laidByText := true, laidKinds := [.data], laidTests := true, laidLooks := .later }
def NearBesideUptoCardSaid : Prop := Claim7.holds Tryz.pinned (.plain (OpenSpec.upto nearBesideSpec)) nearBesideUptoCard

/-- THE SECOND FORM's CARD OF 'numerallaw06.NearMeets'. -/
def nearMeetsUptoCard : Claim7 := { stood := { row := nearMeetsUptoRow, standIns := [], harness := (true, "a8b23a628479f87a3c0b5a82aa188c818aa3b26cfaaaa49ea804a686877b53fe"), looks := false }, kinds := [], alts := [], laidByText := true, laidKinds := [.data], laidTests := true, laidLooks := .later }
def NearMeetsUptoCardSaid : Prop := Claim7.holds Tryz.pinned (.plain (OpenSpec.upto nearMeetsSpec)) nearMeetsUptoCard

/-- THE SECOND FORM's CARD OF 'numerallaw06.NearSteps'. -/
def nearStepsUptoCard : Claim7 := { stood := { row := nearStepsUptoRow, standIns := [], harness := (true, "a8b23a628479f87a3c0b5a82aa188c818aa3b26cfaaaa49ea804a686877b53fe"), looks := false }, kinds := [], alts := [], laidByText := true, laidKinds := [.data], laidTests := true, laidLooks := .later }
def NearStepsUptoCardSaid : Prop := Claim7.holds Tryz.pinned (.plain (OpenSpec.upto nearStepsSpec)) nearStepsUptoCard

/-- THE SECOND FORM's CARD OF 'numerallaw06.NearRow'. -/
def nearRowUptoCard : Claim7 := { stood := { row := nearRowUptoRow, standIns := [], harness := (true, "a8b23a628479f87a3c0b5a82aa188c818aa3b26cfaaaa49ea804a686877b53fe"), looks := false }, kinds := [], alts := [], laidByText := true, laidKinds := [.data], laidTests := true, laidLooks := .later }
def NearRowUptoCardSaid : Prop := Claim7.holds Tryz.pinned (.plain (OpenSpec.upto nearRowSpec)) nearRowUptoCard

/-- THE SECOND FORM's CARD OF 'numerallaw06.NearNative'. -/
def nearNativeUptoCard : Claim7 := { stood := { row := nearNativeUptoRow, standIns := [], harness := (true, "a8b23a628479f87a3c0b5a82aa188c818aa3b26cfaaaa49ea804a686877b53fe"), looks := false }, kinds := [], alts := [], laidByText := true, laidKinds := [.data], laidTests := true, laidLooks := .later }
def NearNativeUptoCardSaid : Prop := Claim7.holds Tryz.pinned (.plain (OpenSpec.upto nearNativeSpec)) nearNativeUptoCard

/-- THE SECOND FORM's CARD OF 'numerallaw06.NearRounds'. -/
def nearRoundsUptoCard : Claim7 := { stood := { row := nearRoundsUptoRow, standIns := [], harness := (true, "a8b23a628479f87a3c0b5a82aa188c818aa3b26cfaaaa49ea804a686877b53fe"), looks := false }, kinds := [], alts := [], laidByText := true, laidKinds := [.data], laidTests := true, laidLooks := .later }
def NearRoundsUptoCardSaid : Prop := Claim7.holds Tryz.pinned (.plain (OpenSpec.upto nearRoundsSpec)) nearRoundsUptoCard
end Rows
end Go.Proofs.YtfjgmpfpadfknaaGreatDoor
