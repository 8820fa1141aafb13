/-
  What the laws of this set lean on.
-/
import Derived.Test.YtaddnoneoflimaaGreatDoorQbNMN36
import Derived.Test.YtaddnoneoflimaaGreatDoorQbNTurE
import Derived.Test.YtaddnoneoflimaaGreatDoorQbNMakes
import Derived.Test.YtaddnoneoflimaaGreatDoorQbNBase
namespace Go.Proofs.YtaddnoneoflimaaGreatDoor

theorem set_is : True := trivial

end Go.Proofs.YtaddnoneoflimaaGreatDoor

