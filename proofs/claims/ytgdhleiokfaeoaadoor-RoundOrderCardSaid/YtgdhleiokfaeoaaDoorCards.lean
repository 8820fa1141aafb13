/-
  DERIVED. GIVEN WITH THE SEED: THE CARDS: each row of YtgdhleiokfaeoaaDoorRows.lean that lists a variable, with what it lists TIED to the program's text (the seventh form; the later family's looks); each row that meets fmt, with fmt's text TOLD by the authors' own Lean function (tested against real Go, not proved from fmt's source: count such statements apart). THE CARD IS WHAT COUNTS. Prove the row's statement (the work); the ties are given (YtgdhleiokfaeoaaDoorTie.lean); close each card by the builder's one call (the guide's Derived/Test/ToyasCard.lean, 'card_holds'). Laid BY PROGRAM, IN A SANDBOX (cutbox-door.mjs). By AI agents, Wed Nov 11 2026. No macro, syntax, notation, axiom, sorry.
-/
import Derived.Test.YtgdhleiokfaeoaaDoorRows
import GoSem.ClaimSeven
namespace Go.Proofs.YtgdhleiokfaeoaaDoor
namespace Rows

/-- THE TIED CARD OF 'numerallaw05.RoundNames'. -/
def roundNamesCard : Claim7 := { stood := { row := roundNamesRow, standIns := [], harness := (true, "561c3cde4a7c2ae03878800964f31d5e033cc9059b882d2c41076790bc488ae3"), looks := false }, kinds := [], alts := [], laidByText := true, laidKinds := [.data], laidTests := true, laidLooks := .later }
def RoundNamesCardSaid : Prop := Claim7.holds Tryd.pinned (.plain (OpenSpec.ofChange roundNamesSpec)) roundNamesCard

/-- THE TIED CARD OF 'numerallaw05.RoundNamed'. -/
def roundNamedCard : Claim7 := { stood := { row := roundNamedRow, standIns := [], harness := (true, "561c3cde4a7c2ae03878800964f31d5e033cc9059b882d2c41076790bc488ae3"), looks := false }, kinds := [], alts := [], laidByText := true, laidKinds := [.data], laidTests := true, laidLooks := .later }
def RoundNamedCardSaid : Prop := Claim7.holds Tryd.pinned (.plain (OpenSpec.ofChange roundNamedSpec)) roundNamedCard

/-- THE TIED CARD OF 'numerallaw05.RoundOrder'. -/
def roundOrderCard : Claim7 := { stood := { row := roundOrderRow, standIns := [], harness := (true, "561c3cde4a7c2ae03878800964f31d5e033cc9059b882d2c41076790bc488ae3"), looks := false }, kinds := [], alts := [], laidByText := true, laidKinds := [.data], laidTests := true, laidLooks := .later }
def RoundOrderCardSaid : Prop := Claim7.holds Tryd.pinned (.plain (OpenSpec.ofChange roundOrderSpec)) roundOrderCard

/-- THE TIED CARD OF 'numerallaw04.ExactBack'. -/
def exactBackCard : Claim7 := { stood := { row := exactBackRow, standIns := [], harness := (true, "561c3cde4a7c2ae03878800964f31d5e033cc9059b882d2c41076790bc488ae3"), looks := false }, kinds := [], alts := [], laidByText := true, laidKinds := [.data], laidTests := true, laidLooks := .later }
def ExactBackCardSaid : Prop := Claim7.holds Tryd.pinned (.plain (OpenSpec.ofChange exactBackSpec)) exactBackCard

/-- THE SECOND FORM's CARD OF 'numerallaw05.RoundNames'. -/
def roundNamesUptoCard : Claim7 := { stood := { row := roundNamesUptoRow, standIns := [], harness := (true, "561c3cde4a7c2ae03878800964f31d5e033cc9059b882d2c41076790bc488ae3"), looks := false }, kinds := [], alts := [], laidByText := true, laidKinds := [.data], laidTests := true, laidLooks := .later }
def RoundNamesUptoCardSaid : Prop := Claim7.holds Tryd.pinned (.plain (OpenSpec.upto roundNamesSpec)) roundNamesUptoCard

/-- THE SECOND FORM's CARD OF 'numerallaw05.RoundNamed'. -/
def roundNamedUptoCard : Claim7 := { stood := { row := roundNamedUptoRow, standIns := [], harness := (true, "561c3cde4a7c2ae03878800964f31d5e033cc9059b882d2c41076790bc488ae3"), looks := false }, kinds := [], alts := [], laidByText := true, laidKinds := [.data], laidTests := true, laidLooks := .later }
def RoundNamedUptoCardSaid : Prop := Claim7.holds Tryd.pinned (.plain (OpenSpec.upto roundNamedSpec)) roundNamedUptoCard

/-- THE SECOND FORM's CARD OF 'numerallaw05.RoundOrder'. -/
def roundOrderUptoCard : Claim7 := { stood := { row := roundOrderUptoRow, standIns := [], harness := (true, "561c3cde4a7c2ae03878800964f31d5e033cc9059b882d2c41076790bc488ae3"), looks := false }, kinds := [], alts := [], laidByText := true, laidKinds := [.data], laidTests := true, laidLooks := .later }
def RoundOrderUptoCardSaid : Prop := Claim7.holds Tryd.pinned (.plain (OpenSpec.upto roundOrderSpec)) roundOrderUptoCard

/-- THE SECOND FORM's CARD OF 'numerallaw04.ExactBack'. -/
def exactBackUptoCard : Claim7 := { stood := { row := exactBackUptoRow, standIns := [], harness := (true, "561c3cde4a7c2ae03878800964f31d5e033cc9059b882d2c41076790bc488ae3"), looks := false }, kinds := [], alts := [], laidByText := true, laidKinds := [.data], laidTests := true, laidLooks := .later }
def ExactBackUptoCardSaid : Prop := Claim7.holds Tryd.pinned (.plain (OpenSpec.upto exactBackSpec)) exactBackUptoCard
end Rows
end Go.Proofs.YtgdhleiokfaeoaaDoor
