/-
  What the rows of this set lean on.
-/
import Derived.Test.YtklibjdhlmdkpaaGreatDoorQLawTn
import Derived.Test.YtklibjdhlmdkpaaGreatDoorRowTab
namespace Go.Proofs.YtklibjdhlmdkpaaGreatDoor

theorem set_is : True := trivial

end Go.Proofs.YtklibjdhlmdkpaaGreatDoor

