/-
  DERIVED. GIVEN WITH THE SEED: THE CARDS: each row of YtmiheaoojmgalaaDoorRows.lean that lists a variable, with what it lists TIED to the program's text (the seventh form; the later family's looks); each row that meets fmt, with fmt's text TOLD by the authors' own Lean function (tested against real Go, not proved from fmt's source: count such statements apart). THE CARD IS WHAT COUNTS. Prove the row's statement (the work); the ties are given (YtmiheaoojmgalaaDoorTie.lean); close each card by the builder's one call (the guide's Derived/Test/ToyasCard.lean, 'card_holds'). Laid BY PROGRAM, IN A SANDBOX (cutbox-door.mjs). By AI agents, Wed Nov 11 2026. No macro, syntax, notation, axiom, sorry.
-/
import Derived.Test.YtmiheaoojmgalaaDoorRows
import GoSem.ClaimSeven
namespace Go.Proofs.YtmiheaoojmgalaaDoor
namespace Rows

/-- THE TIED CARD OF 'numerallaw07.SoftPicks'. -/
def softPicksCard : Claim7 := { stood := { row := softPicksRow, standIns := [], harness := (true, "7960b4abaec2313ab5a10c8b6f93109d93e804f4e229a93b119a66d5da604b03"), looks := true }, kinds := [], alts := [], laidByText := true, laidKinds := [.data], laidTests := true, laidLooks := .later }
def SoftPicksCardSaid : Prop := Claim7.holds Tryd.pinned (.plain (OpenSpec.ofChange softPicksSpec)) softPicksCard

/-- THE TIED CARD OF 'numerallaw04.ExactNames'. -/
def exactNamesCard : Claim7 := { stood := { row := exactNamesRow, standIns := [], harness := (true, "7960b4abaec2313ab5a10c8b6f93109d93e804f4e229a93b119a66d5da604b03"), looks := true }, kinds := [], alts := [], laidByText := true, laidKinds := [.data], laidTests := true, laidLooks := .later }
def ExactNamesCardSaid : Prop := Claim7.holds Tryd.pinned (.plain (OpenSpec.ofChange exactNamesSpec)) exactNamesCard

/-- THE TIED CARD OF 'numerallaw04.ExactOver'. -/
def exactOverCard : Claim7 := { stood := { row := exactOverRow, standIns := [], harness := (true, "7960b4abaec2313ab5a10c8b6f93109d93e804f4e229a93b119a66d5da604b03"), looks := true }, kinds := [], alts := [], laidByText := true, laidKinds := [.data], laidTests := true, laidLooks := .later }
def ExactOverCardSaid : Prop := Claim7.holds Tryd.pinned (.plain (OpenSpec.ofChange exactOverSpec)) exactOverCard

/-- THE TIED CARD OF 'numerallaw04.ExactRing'. -/
def exactRingCard : Claim7 := { stood := { row := exactRingRow, standIns := [], harness := (true, "7960b4abaec2313ab5a10c8b6f93109d93e804f4e229a93b119a66d5da604b03"), looks := true }, kinds := [], alts := [], laidByText := true, laidKinds := [.data], laidTests := true, laidLooks := .later }
def ExactRingCardSaid : Prop := Claim7.holds Tryd.pinned (.plain (OpenSpec.ofChange exactRingSpec)) exactRingCard

/-- THE TIED CARD OF 'numerallaw04.ExactFloats'. -/
def exactFloatsCard : Claim7 := { stood := { row := exactFloatsRow, standIns := [], harness := (true, "7960b4abaec2313ab5a10c8b6f93109d93e804f4e229a93b119a66d5da604b03"), looks := true }, kinds := [], alts := [], laidByText := true, laidKinds := [.data], laidTests := true, laidLooks := .later }
def ExactFloatsCardSaid : Prop := Claim7.holds Tryd.pinned (.plain (OpenSpec.ofChange exactFloatsSpec)) exactFloatsCard

/-- THE TIED CARD OF 'numeraltop.TopWorth'. -/
def topWorthCard : Claim7 := { stood := { row := topWorthRow, standIns := [], harness := (true, "7960b4abaec2313ab5a10c8b6f93109d93e804f4e229a93b119a66d5da604b03"), looks := true }, kinds := [], alts := [], laidByText := true, laidKinds := [.data], laidTests := true, laidLooks := .later }
def TopWorthCardSaid : Prop := Claim7.holds Tryd.pinned (.plain (OpenSpec.ofChange topWorthSpec)) topWorthCard

/-- THE SECOND FORM's CARD OF 'numerallaw07.SoftPicks'. -/
def softPicksUptoCard : Claim7 := { stood := { row := softPicksUptoRow, standIns := [], harness := (true, "7960b4abaec2313ab5a10c8b6f93109d93e804f4e229a93b119a66d5da604b03"), looks := true }, kinds := [], alts := [], laidByText := true, laidKinds := [.data], laidTests := true, laidLooks := .later }
def SoftPicksUptoCardSaid : Prop := Claim7.holds Tryd.pinned (.plain (OpenSpec.upto softPicksSpec)) softPicksUptoCard

/-- THE SECOND FORM's CARD OF 'numerallaw04.ExactNames'. -/
def exactNamesUptoCard : Claim7 := { stood := { row := exactNamesUptoRow, standIns := [], harness := (true, "7960b4abaec2313ab5a10c8b6f93109d93e804f4e229a93b119a66d5da604b03"), looks := true }, kinds := [], alts := [], laidByText := true, laidKinds := [.data], laidTests := true, laidLooks := .later }
def ExactNamesUptoCardSaid : Prop := Claim7.holds Tryd.pinned (.plain (OpenSpec.upto exactNamesSpec)) exactNamesUptoCard

/-- THE SECOND FORM's CARD OF 'numerallaw04.ExactOver'. -/
def exactOverUptoCard : Claim7 := { stood := { row := exactOverUptoRow, standIns := [], harness := (true, "7960b4abaec2313ab5a10c8b6f93109d93e804f4e229a93b119a66d5da604b03"), looks := true }, kinds := [], alts := [], laidByText := true, laidKinds := [.data], laidTests := true, laidLooks := .later }
def ExactOverUptoCardSaid : Prop := Claim7.holds Tryd.pinned (.plain (OpenSpec.upto exactOverSpec)) exactOverUptoCard

/-- THE SECOND FORM's CARD OF 'numerallaw04.ExactRing'. -/
def exactRingUptoCard : Claim7 := { stood := { row := exactRingUptoRow, standIns := [], harness := (true, "7960b4abaec2313ab5a10c8b6f93109d93e804f4e229a93b119a66d5da604b03"), looks := true }, kinds := [], alts := [], laidByText := true, laidKinds := [.data], laidTests := true, laidLooks := .later }
def ExactRingUptoCardSaid : Prop := Claim7.holds Tryd.pinned (.plain (OpenSpec.upto exactRingSpec)) exactRingUptoCard

/-- THE SECOND FORM's CARD OF 'numerallaw04.ExactFloats'. -/
def exactFloatsUptoCard : Claim7 := { stood := { row := exactFloatsUptoRow, standIns := [], harness := (true, "7960b4abaec2313ab5a10c8b6f93109d93e804f4e229a93b119a66d5da604b03"), looks := true }, kinds := [], alts := [], laidByText := true, laidKinds := [.data], laidTests := true, laidLooks := .later }
def ExactFloatsUptoCardSaid : Prop := Claim7.holds Tryd.pinned (.plain (OpenSpec.upto exactFloatsSpec)) exactFloatsUptoCard

/-- THE SECOND FORM's CARD OF 'numeraltop.TopWorth'. -/
def topWorthUptoCard : Claim7 := { stood := { row := topWorthUptoRow, standIns := [], harness := (true, "7960b4abaec2313ab5a10c8b6f93109d93e804f4e229a93b119a66d5da604b03"), looks := true }, kinds := [], alts := [], laidByText := true, laidKinds := [.data], laidTests := true, laidLooks := .later }
def TopWorthUptoCardSaid : Prop := Claim7.holds Tryd.pinned (.plain (OpenSpec.upto topWorthSpec)) topWorthUptoCard
end Rows
end Go.Proofs.YtmiheaoojmgalaaDoor
