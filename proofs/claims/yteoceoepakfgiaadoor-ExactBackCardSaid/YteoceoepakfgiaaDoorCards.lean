/-
  DERIVED. GIVEN WITH THE SEED: THE CARDS: each row of YteoceoepakfgiaaDoorRows.lean that lists a variable, with what it lists TIED to the program's text (the seventh form; the later family's looks); each row that meets fmt, with fmt's text TOLD by the authors' own Lean function (tested against real Go, not proved from fmt's source: count such statements apart). THE CARD IS WHAT COUNTS. Prove the row's statement (the work); the ties are given (YteoceoepakfgiaaDoorTie.lean); close each card by the builder's one call (the guide's Derived/Test/ToyasCard.lean, 'card_holds'). Laid BY PROGRAM, IN A SANDBOX (cutbox-door.mjs). By AI agents, Wed Nov 11 2026. No macro, syntax, notation, axiom, sorry.
-/
import Derived.Test.YteoceoepakfgiaaDoorRows
import GoSem.ClaimSeven
namespace Go.Proofs.YteoceoepakfgiaaDoor
namespace Rows

/-- THE TIED CARD OF 'numerallaw04.ExactBack'. -/
def exactBackCard : Claim7 := { stood := { row := exactBackRow, standIns := [], harness := (true, "6a9beab15ecb54ff86e43292efcf1c702a4a78c7fbda113a583a8997ddb409b3"), looks := false }, kinds := [], alts := [], laidByText := true, laidKinds := [.data], laidTests := true, laidLooks := .later }
def ExactBackCardSaid : Prop := Claim7.holds Tryd.pinned (.plain (OpenSpec.ofChange exactBackSpec)) exactBackCard

/-- THE SECOND FORM's CARD OF 'numerallaw04.ExactBack'. -/
def exactBackUptoCard : Claim7 := { stood := { row := exactBackUptoRow, standIns := [], harness := (true, "6a9beab15ecb54ff86e43292efcf1c702a4a78c7fbda113a583a8997ddb409b3"), looks := false }, kinds := [], alts := [], laidByText := true, laidKinds := [.data], laidTests := true, laidLooks := .later }
def ExactBackUptoCardSaid : Prop := Claim7.holds Tryd.pinned (.plain (OpenSpec.upto exactBackSpec)) exactBackUptoCard
end Rows
end Go.Proofs.YteoceoepakfgiaaDoor
