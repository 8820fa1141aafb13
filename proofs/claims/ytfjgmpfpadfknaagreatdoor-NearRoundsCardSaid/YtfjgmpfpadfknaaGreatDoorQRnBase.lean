/-
  What the laws of this set lean on.
-/
import Derived.Test.YtfjgmpfpadfknaaGreatDoorQbDMD37
import Derived.Test.YtfjgmpfpadfknaaGreatDoorQbDMD27
import Derived.Test.YtfjgmpfpadfknaaGreatDoorQbDNearP
import Derived.Test.YtfjgmpfpadfknaaGreatDoorQbDMD38
import Derived.Test.YtfjgmpfpadfknaaGreatDoorQbDBgU
import Derived.Test.YtfjgmpfpadfknaaGreatDoorQbDMakes
import Derived.Test.YtfjgmpfpadfknaaGreatDoorQbDBase
namespace Go.Proofs.YtfjgmpfpadfknaaGreatDoor

theorem set_is : True := trivial

end Go.Proofs.YtfjgmpfpadfknaaGreatDoor

