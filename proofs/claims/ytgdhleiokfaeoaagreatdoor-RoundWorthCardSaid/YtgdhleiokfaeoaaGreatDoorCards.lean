/-
  DERIVED. GIVEN WITH THE SEED: THE CARDS: each row of YtgdhleiokfaeoaaGreatDoorRows.lean that lists a variable, with what it lists TIED to the program's text (the seventh form; the later family's looks); each row that meets fmt, with fmt's text TOLD by the authors' own Lean function (tested against real Go, not proved from fmt's source: count such statements apart). THE CARD IS WHAT COUNTS. Prove the row's statement (the work); the ties are given (YtgdhleiokfaeoaaGreatDoorTie.lean); close each card by the builder's one call (the guide's Derived/Test/ToyasCard.lean, 'card_holds'). Laid BY PROGRAM, IN A SANDBOX (cutbox-door.mjs). By AI agents, Wed Nov 11 2026. No macro, syntax, notation, axiom, sorry.
-/
import Derived.Test.YtgdhleiokfaeoaaGreatDoorRows
import GoSem.ClaimSeven
namespace Go.Proofs.YtgdhleiokfaeoaaGreatDoor
namespace Rows

/-- THE TIED CARD OF 'numerallaw05.RoundRatios'. -/
def roundRatiosCard : Claim7 := { stood := { row := roundRatiosRow, standIns := [], harness := (true, "a28a696fd0e685f91900f0714ae552b1c481ab3aaac2bda5fc1c867262e4b213"), looks := false }, kinds := [], alts := [], laidByText := true, laidKinds := [.data], laidTests := true, laidLooks := .later }
def RoundRatiosCardSaid : Prop := Claim7.holds Tryz.pinned (.plain (OpenSpec.ofChange roundRatiosSpec)) roundRatiosCard

/-- THE TIED CARD OF 'numerallaw05.RoundScaleds'. -/
def roundScaledsCard : Claim7 := { stood := { row := roundScaledsRow, standIns := [], harness := (true, "a28a696fd0e685f91900f0714ae552b1c481ab3aaac2bda5fc1c867262e4b213"), looks := false }, kinds := [], alts := [], laidByText := true, laidKinds := [.data], laidTests := true, laidLooks := .later }
def RoundScaledsCardSaid : Prop := Claim7.holds Tryz.pinned (.plain (OpenSpec.ofChange roundScaledsSpec)) roundScaledsCard

/-- THE TIED CARD OF 'numerallaw05.RoundWholes'. -/
def roundWholesCard : Claim7 := { stood := { row := roundWholesRow, standIns := [], harness := (true, "a28a696fd0e685f91900f0714ae552b1c481ab3aaac2bda5fc1c867262e4b213"), looks := false }, kinds := [], alts := [], laidByText := true, laidKinds := [.data], laidTests := true, laidLooks := .later }
def RoundWholesCardSaid : Prop := Claim7.holds Tryz.pinned (.plain (OpenSpec.ofChange roundWholesSpec)) roundWholesCard

/-- THE TIED CARD OF 'numerallaw05.RoundDyadics'. -/
def roundDyadicsCard : Claim7 := { stood := { row := roundDyadicsRow, standIns := [], harness := (true, "a28a696fd0e685f91900f0714ae552b1c481ab3aaac2bda5fc1c867262e4b213"), looks := false }, kinds := [], alts := [], laidByText := true, laidKinds := [.data], laidTests := true, laidLooks := .later }
def RoundDyadicsCardSaid : Prop := Claim7.holds Tryz.pinned (.plain (OpenSpec.ofChange roundDyadicsSpec)) roundDyadicsCard

/-- THE TIED CARD OF 'numerallaw05.RoundInteger'. -/
def roundIntegerCard : Claim7 := { stood := { row := roundIntegerRow, standIns := [], harness := (true, "a28a696fd0e685f91900f0714ae552b1c481ab3aaac2bda5fc1c867262e4b213"), looks := false }, kinds := [], alts := [], laidByText := true, laidKinds := [.data], laidTests := true, laidLooks := .later }
def RoundIntegerCardSaid : Prop := Claim7.holds Tryz.pinned (.plain (OpenSpec.ofChange roundIntegerSpec)) roundIntegerCard

/-- THE TIED CARD OF 'numerallaw05.RoundMirror'. -/
def roundMirrorCard : Claim7 := { stood := { row := roundMirrorRow, standIns := [], harness := (true, "a28a696fd0e685f91900f0714ae552b1c481ab3aaac2bda5fc1c867262e4b213"), looks := false }, kinds := [], alts := [], laidByText := true, laidKinds := [.data], laidTests := true, laidLooks := .later }
def RoundMirrorCardSaid : Prop := Claim7.holds Tryz.pinned (.plain (OpenSpec.ofChange roundMirrorSpec)) roundMirrorCard

/-- THE TIED CARD OF 'numerallaw05.RoundSides'. -/
def roundSidesCard : Claim7 := { stood := { row := roundSidesRow, standIns := [], harness := (true, "a28a696fd0e685f91900f0714ae552b1c481ab3aaac2bda5fc1c867262e4b213"), looks := false }, kinds := [], alts := [], laidByText := true, laidKinds := [.data], laidTests := true, laidLooks := .later }
def RoundSidesCardSaid : Prop := Claim7.holds Tryz.pinned (.plain (OpenSpec.ofChange roundSidesSpec)) roundSidesCard

/-- THE TIED CARD OF 'numerallaw05.RoundWorth'. -/
def roundWorthCard : Claim7 := { stood := { row := roundWorthRow, standIns := [], harness := (true, "a28a696fd0e685f91900f0714ae552b1c481ab3aaac2bda5fc1c867262e4b213"), looks := false }, kinds := [], alts := [], laidByText := true, laidKinds := [.data], laidTests := true, laidLooks := .later }
def RoundWorthCardSaid : Prop := Claim7.holds Tryz.pinned (.plain (OpenSpec.ofChange roundWorthSpec)) roundWorthCard

/-- THE SECOND FORM's CARD OF 'numerallaw05.RoundRatios'. -/
def roundRatiosUptoCard : Claim7 := { stood := { row := roundRatiosUptoRow, standIns := [], harness := (true, "a28a696fd0e685f91900f0714ae552b1c481ab3aaac2bda5fc1c867262e4b213"), looks := false }, kinds := [], alts := [], laidByText := true, laidKinds := [.data], laidTests := true, laidLooks := .later }
def RoundRatiosUptoCardSaid : Prop := Claim7.holds Tryz.pinned (.plain (OpenSpec.upto roundRatiosSpec)) roundRatiosUptoCard

/-- THE SECOND FORM's CARD OF 'numerallaw05.RoundScaleds'. -/
def roundScaledsUptoCard : Claim7 := { stood := { row := roundScaledsUptoRow, standIns := [], harness := (true, "a28a696fd0e685f91900f0714ae552b1c481ab3aaac2bda5fc1c867262e4b213"), looks := false }, kinds := [], alts := [], laidByText := true, laidKinds := [.data], laidTests := true, laidLooks := .later }
def RoundScaledsUptoCardSaid : Prop := Claim7.holds Tryz.pinned (.plain (OpenSpec.upto roundScaledsSpec)) roundScaledsUptoCard

/-- THE SECOND FORM's CARD OF 'numerallaw05.RoundWholes'. -/
def roundWholesUptoCard : Claim7 := { stood := { row := roundWholesUptoRow, standIns := [], harness := (true, "a28a696fd0e685f91900f0714ae552b1c481ab3aaac2bda5fc1c867262e4b213"), looks := false }, kinds := [], alts := [], laidByText := true, laidKinds := [.data], laidTests := true, laidLooks := .later }
def RoundWholesUptoCardSaid : Prop := Claim7.holds Tryz.pinned (.plain (OpenSpec.upto roundWholesSpec)) roundWholesUptoCard

/-- THE SECOND FORM's CARD OF 'numerallaw05.RoundDyadics'. -/
def roundDyadicsUptoCard : Claim7 := { stood := { row := roundDyadicsUptoRow, standIns := [], harness := (true, "a28a696fd0e685f91900f0714ae552b1c481ab3aaac2bda5fc1c867262e4b213"), looks := false }, kinds := [], alts := [], laidByText := true, laidKinds := [.data], laidTests := true, laidLooks := .later }
def RoundDyadicsUptoCardSaid : Prop := Claim7.holds Tryz.pinned (.plain (OpenSpec.upto roundDyadicsSpec)) roundDyadicsUptoCard

/-- THE SECOND FORM's CARD OF 'numerallaw05.RoundInteger'. -/
def roundIntegerUptoCard : Claim7 := { stood := { row := roundIntegerUptoRow, standIns := [], harness := (true, "a28a696fd0e685f91900f0714ae552b1c481ab3aaac2bda5fc1c867262e4b213"), looks := false }, kinds := [], alts := [], laidByText := true, laidKinds := [.data], laidTests := true, laidLooks := .later }
def RoundIntegerUptoCardSaid : Prop := Claim7.holds Tryz.pinned (.plain (OpenSpec.upto roundIntegerSpec)) roundIntegerUptoCard

/-- THE SECOND FORM's CARD OF 'numerallaw05.RoundMirror'. -/
def roundMirrorUptoCard : Claim7 := { stood := { row := roundMirrorUptoRow, standIns := [], harness := (true, "a28a696fd0e685f91900f0714ae552b1c481ab3aaac2bda5fc1c867262e4b213"), looks := false }, kinds := [], alts := [], laidByText := true, laidKinds := [.data], laidTests := true, laidLooks := .later }
def RoundMirrorUptoCardSaid : Prop := Claim7.holds Tryz.pinned (.plain (OpenSpec.upto roundMirrorSpec)) roundMirrorUptoCard

/-- THE SECOND FORM's CARD OF 'numerallaw05.RoundSides'. -/
def roundSidesUptoCard : Claim7 := { stood := { row := roundSidesUptoRow, standIns := [], harness := (true, "a28a696fd0e685f91900f0714ae552b1c481ab3aaac2bda5fc1c867262e4b213"), looks := false }, kinds := [], alts := [], laidByText := true, laidKinds := [.data], laidTests := true, laidLooks := .later }
def RoundSidesUptoCardSaid : Prop := Claim7.holds Tryz.pinned (.plain (OpenSpec.upto roundSidesSpec)) roundSidesUptoCard

/-- THE SECOND FORM's CARD OF 'numerallaw05.RoundWorth'. -/
def roundWorthUptoCard : Claim7 := { stood := { row := roundWorthUptoRow, standIns := [], harness := (true, "a28a696fd0e685f91900f0714ae552b1c481ab3aaac2bda5fc1c867262e4b213"), looks := false }, kinds := [], alts := [], laidByText := true, laidKinds := [.data], laidTests := true, laidLooks := .later }
def RoundWorthUptoCardSaid : Prop := Claim7.holds Tryz.pinned (.plain (OpenSpec.upto roundWorthSpec)) roundWorthUptoCard
end Rows
end Go.Proofs.YtgdhleiokfaeoaaGreatDoor
