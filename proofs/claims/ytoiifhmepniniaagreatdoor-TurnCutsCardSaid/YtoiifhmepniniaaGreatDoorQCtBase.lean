/-
  What the laws of this set lean on.
-/
import Derived.Test.YtoiifhmepniniaaGreatDoorQbCMC30
namespace Go.Proofs.YtoiifhmepniniaaGreatDoor
theorem set_is : True := trivial
end Go.Proofs.YtoiifhmepniniaaGreatDoor
