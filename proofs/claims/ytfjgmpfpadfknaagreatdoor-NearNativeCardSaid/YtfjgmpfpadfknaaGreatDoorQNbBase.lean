/-
  What the laws of this set lean on.
-/
import Derived.Test.YtfjgmpfpadfknaaGreatDoorQbNMN40
namespace Go.Proofs.YtfjgmpfpadfknaaGreatDoor
theorem set_is : True := trivial
end Go.Proofs.YtfjgmpfpadfknaaGreatDoor
