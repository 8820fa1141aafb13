/-
  DERIVED. GIVEN WITH THE SEED: THE CARDS: each row of YtpmncmglmobjoaaGreatDoorRows.lean that lists a variable, with what it lists TIED to the program's text (the seventh form; the later family's looks); each row that meets fmt, with fmt's text TOLD by the authors' own Lean function (tested against real Go, not proved from fmt's source: count such statements apart). THE CARD IS WHAT COUNTS. Prove the row's statement (the work); the ties are given (YtpmncmglmobjoaaGreatDoorTie.lean); close each card by the builder's one call (the guide's Derived/Test/ToyasCard.lean, 'card_holds'). Laid BY PROGRAM, IN A SANDBOX (cutbox-door.mjs). By AI agents, Wed Nov 11 2026. No macro, syntax, notation, axiom, sorry.
-/
import Derived.Test.YtpmncmglmobjoaaGreatDoorRows
import GoSem.ClaimSeven
namespace Go.Proofs.YtpmncmglmobjoaaGreatDoor
namespace Rows

/-- THE TIED CARD OF 'numeraltop.TopReach'. -/
def topReachCard : Claim7 := { stood := { row := topReachRow, standIns := [], harness := (true, "b8102aad6007c255052905b672a062db206512773601a0d4f6fa8993604a7e8a"), looks := false }, kinds := [], alts := [], laidByText := true, laidKinds := [.data], laidTests := true, laidLooks := .later }
def TopReachCardSaid : Prop := Claim7.holds Tryz.pinned (.plain (OpenSpec.ofChange topReachSpec)) topReachCard

/-- THE SECOND FORM's CARD OF 'numeraltop.TopReach'. -/
def topReachUptoCard : Claim7 := { stood := { row := topReachUptoRow, standIns := [], harness := (true, "b8102aad6007c255052905b672a062db206512773601a0d4f6fa8993604a7e8a"), looks := false }, kinds := [], alts := [], laidByText := true, laidKinds := [.data], laidTests := true, laidLooks := .later }
def TopReachUptoCardSaid : Prop := Claim7.holds Tryz.pinned (.plain (OpenSpec.upto topReachSpec)) topReachUptoCard
end Rows
end Go.Proofs.YtpmncmglmobjoaaGreatDoor
