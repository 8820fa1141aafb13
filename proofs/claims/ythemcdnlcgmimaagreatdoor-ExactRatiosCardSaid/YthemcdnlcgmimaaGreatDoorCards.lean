/-
  DERIVED. GIVEN WITH THE SEED: THE CARDS: each row of YthemcdnlcgmimaaGreatDoorRows.lean that lists a variable, with what it lists TIED to the program's text (the seventh form; the later family's looks); each row that meets fmt, with fmt's text TOLD by the authors' own Lean function (tested against real Go, not proved from fmt's source: count such statements apart). THE CARD IS WHAT COUNTS. Prove the row's statement (the work); the ties are given (YthemcdnlcgmimaaGreatDoorTie.lean); close each card by the builder's one call (the guide's Derived/Test/ToyasCard.lean, 'card_holds'). Laid BY PROGRAM, IN A SANDBOX (cutbox-door.mjs). By AI agents, Wed Nov 11 2026. No macro, syntax, notation, axiom, sorry.
-/
import Derived.Test.YthemcdnlcgmimaaGreatDoorRows
import GoSem.ClaimSeven
namespace Go.Proofs.YthemcdnlcgmimaaGreatDoor
namespace Rows

/-- THE TIED CARD OF 'numerallaw04.ExactRatios'. -/
def exactRatiosCard : Claim7 := { stood := { row := exactRatiosRow, standIns := [], harness := (true, "9411c2bcc524567687d2509989f07f78fdfa95dad02e786d1c833c5421a343eb"), looks := false }, kinds := [], alts := [], laidByText := true, laidKinds := [.data], laidTests := true, laidLooks := .later }
def ExactRatiosCardSaid : Prop := Claim7.holds Tryz.pinned (.plain (OpenSpec.ofChange exactRatiosSpec)) exactRatiosCard

/-- THE SECOND FORM's CARD OF 'numerallaw04.ExactRatios'. -/
def exactRatiosUptoCard : Claim7 := { stood := { row := exactRatiosUptoRow, standIns := [], harness := (true, "9411c2bcc524567687d2509989f07f78fdfa95dad02e786d1c833c5421a343eb"), looks := false }, kinds := [], alts := [], laidByText := true, laidKinds := [.data], laidTests := true, laidLooks := .later }
def ExactRatiosUptoCardSaid : Prop := Claim7.holds Tryz.pinned (.plain (OpenSpec.upto exactRatiosSpec)) exactRatiosUptoCard
end Rows
end Go.Proofs.YthemcdnlcgmimaaGreatDoor
