/-
  DERIVED. GIVEN WITH THE SEED: THE CARDS: each row of YtnokabglkmiidaaDoorRows.lean that lists a variable, with what it lists TIED to the program's text (the seventh form; the later family's looks); each row that meets fmt, with fmt's text TOLD by the authors' own Lean function (tested against real Go, not proved from fmt's source: count such statements apart). THE CARD IS WHAT COUNTS. Prove the row's statement (the work); the ties are given (YtnokabglkmiidaaDoorTie.lean); close each card by the builder's one call (the guide's Derived/Test/ToyasCard.lean, 'card_holds'). Laid BY PROGRAM, IN A SANDBOX (cutbox-door.mjs). By AI agents, Wed Nov 11 2026. No macro, syntax, notation, axiom, sorry.
-/
import Derived.Test.YtnokabglkmiidaaDoorRows
import GoSem.ClaimSeven
namespace Go.Proofs.YtnokabglkmiidaaDoor
namespace Rows

/-- THE TIED CARD OF 'numerallaw04.ExactMakes'. -/
def exactMakesCard : Claim7 := { stood := { row := exactMakesRow, standIns := [], harness := (true, "2bfe4fe5f0f1950b19c48de15e09e9db7dbec0fdfcaeafb6947f2057a6662c48"), looks := true }, kinds := [], alts := [], laidByText := true, laidKinds := [.data], laidTests := true, laidLooks := .later }
def ExactMakesCardSaid : Prop := Claim7.holds Tryd.pinned (.plain (OpenSpec.ofChange exactMakesSpec)) exactMakesCard

/-- THE TIED CARD OF 'numerallaw04.ExactValues'. -/
def exactValuesCard : Claim7 := { stood := { row := exactValuesRow, standIns := [], harness := (true, "2bfe4fe5f0f1950b19c48de15e09e9db7dbec0fdfcaeafb6947f2057a6662c48"), looks := true }, kinds := [], alts := [], laidByText := true, laidKinds := [.data], laidTests := true, laidLooks := .later }
def ExactValuesCardSaid : Prop := Claim7.holds Tryd.pinned (.plain (OpenSpec.ofChange exactValuesSpec)) exactValuesCard

/-- THE TIED CARD OF 'numerallaw07.SoftPicks'. -/
def softPicksCard : Claim7 := { stood := { row := softPicksRow, standIns := [], harness := (true, "2bfe4fe5f0f1950b19c48de15e09e9db7dbec0fdfcaeafb6947f2057a6662c48"), looks := true }, kinds := [], alts := [], laidByText := true, laidKinds := [.data], laidTests := true, laidLooks := .later }
def SoftPicksCardSaid : Prop := Claim7.holds Tryd.pinned (.plain (OpenSpec.ofChange softPicksSpec)) softPicksCard

/-- THE TIED CARD OF 'numerallaw04.ExactSums'. -/
def exactSumsCard : Claim7 := { stood := { row := exactSumsRow, standIns := [], harness := (true, "2bfe4fe5f0f1950b19c48de15e09e9db7dbec0fdfcaeafb6947f2057a6662c48"), looks := true }, kinds := [], alts := [], laidByText := true, laidKinds := [.data], laidTests := true, laidLooks := .later }
def ExactSumsCardSaid : Prop := Claim7.holds Tryd.pinned (.plain (OpenSpec.ofChange exactSumsSpec)) exactSumsCard

/-- THE SECOND FORM's CARD OF 'numerallaw04.ExactMakes'. -/
def exactMakesUptoCard : Claim7 := { stood := { row := exactMakesUptoRow, standIns := [], harness := (true, "2bfe4fe5f0f1950b19c48de15e09e9db7dbec0fdfcaeafb6947f2057a6662c48"), looks := true }, kinds := [], alts := [], laidByText := true, laidKinds := [.data], laidTests := true, laidLooks := .later }
def ExactMakesUptoCardSaid : Prop := Claim7.holds Tryd.pinned (.plain (OpenSpec.upto exactMakesSpec)) exactMakesUptoCard

/-- THE SECOND FORM's CARD OF 'numerallaw04.ExactValues'. -/
def exactValuesUptoCard : Claim7 := { stood := { row := exactValuesUptoRow, standIns := [], harness := (true, "2bfe4fe5f0f1950b19c48de15e09e9db7dbec0fdfcaeafb6947f2057a6662c48"), looks := true }, kinds := [], alts := [], laidByText := true, laidKinds := [.data], laidTests := true, laidLooks := .later }
def ExactValuesUptoCardSaid : Prop := Claim7.holds Tryd.pinned (.plain (OpenSpec.upto exactValuesSpec)) exactValuesUptoCard

/-- THE SECOND FORM's CARD OF 'numerallaw07.SoftPicks'. -/
def softPicksUptoCard : Claim7 := { stood := { row := softPicksUptoRow, standIns := [], harness := (true, "2bfe4fe5f0f1950b19c48de15e09e9db7dbec0fdfcaeafb6947f2057a6662c48"), looks := true }, kinds := [], alts := [], laidByText := true, laidKinds := [.data], laidTests := true, laidLooks := .later }
def SoftPicksUptoCardSaid : Prop := Claim7.holds Tryd.pinned (.plain (OpenSpec.upto softPicksSpec)) softPicksUptoCard

/-- THE SECOND FORM's CARD OF 'numerallaw04.ExactSums'. -/
def exactSumsUptoCard : Claim7 := { stood := { row := exactSumsUptoRow, standIns := [], harness := (true, "2bfe4fe5f0f1950b19c48de15e09e9db7dbec0fdfcaeafb6947f2057a6662c48"), looks := true }, kinds := [], alts := [], laidByText := true, laidKinds := [.data], laidTests := true, laidLooks := .later }
def ExactSumsUptoCardSaid : Prop := Claim7.holds Tryd.pinned (.plain (OpenSpec.upto exactSumsSpec)) exactSumsUptoCard
end Rows
end Go.Proofs.YtnokabglkmiidaaDoor
