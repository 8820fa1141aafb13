/-
  Contracts of numeral/numeralref05: Two.
-/
import Derived.Test.YtgdhleiokfaeoaaGreatDoorQBigL
import Derived.Test.YtgdhleiokfaeoaaGreatDoorQIntL
import Derived.Deep.RegionWith
import Derived.Deep.CutBlock
import Derived.Deep.Cut
import Derived.Deep.RegionHeld3
import Derived.Deep.CutRange
import Derived.StillTailTactics
import Derived.Deep.DrawnRows
import Derived.Test.YtgdhleiokfaeoaaGreatDoorQRatM
import Derived.Test.YtgdhleiokfaeoaaGreatDoorQRndN
import Derived.Test.YtgdhleiokfaeoaaGreatDoorQRdA
import Derived.Test.YtgdhleiokfaeoaaGreatDoorQRdD
import Derived.Test.YtgdhleiokfaeoaaGreatDoorQRtE
import Derived.Test.YtgdhleiokfaeoaaGreatDoorQRdE
import Derived.Test.YtgdhleiokfaeoaaGreatDoorQRndQ
namespace Go.Proofs.YtgdhleiokfaeoaaGreatDoor

open Go.RowKit Go.Lb

attribute [local go_sem] Go.World.cell?_alloc_some

/-- May it be a dyadic? -/
def twoB (neg : Bool) (xs : List Nat) (x : Int) : Bool := decide (dchk neg xs x = 0)

end Go.Proofs.YtgdhleiokfaeoaaGreatDoor

