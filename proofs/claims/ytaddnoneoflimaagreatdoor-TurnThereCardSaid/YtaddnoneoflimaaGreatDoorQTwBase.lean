/-
  What the laws of this set lean on.
-/
import Derived.Test.YtaddnoneoflimaaGreatDoorQbTMT26
import Derived.Test.YtaddnoneoflimaaGreatDoorQbTTurE
import Derived.Test.YtaddnoneoflimaaGreatDoorQbTMT28
import Derived.Test.YtaddnoneoflimaaGreatDoorQbTMakes
import Derived.Test.YtaddnoneoflimaaGreatDoorQbTBase
namespace Go.Proofs.YtaddnoneoflimaaGreatDoor

theorem set_is : True := trivial

end Go.Proofs.YtaddnoneoflimaaGreatDoor

