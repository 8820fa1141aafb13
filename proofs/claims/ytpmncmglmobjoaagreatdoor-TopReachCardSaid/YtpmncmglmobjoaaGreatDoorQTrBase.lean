/-
  What the laws of this set lean on.
-/
import Derived.Test.YtpmncmglmobjoaaGreatDoorQbTMT38
namespace Go.Proofs.YtpmncmglmobjoaaGreatDoor
theorem set_is : True := trivial
end Go.Proofs.YtpmncmglmobjoaaGreatDoor
