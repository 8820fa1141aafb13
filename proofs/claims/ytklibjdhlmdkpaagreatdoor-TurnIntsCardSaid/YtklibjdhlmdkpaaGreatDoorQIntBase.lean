/-
  What the laws of this set lean on.
-/
import Derived.Test.YtklibjdhlmdkpaaGreatDoorQbIMI32
import Derived.Test.YtklibjdhlmdkpaaGreatDoorQbITurW
import Derived.Test.YtklibjdhlmdkpaaGreatDoorQbIMI36
import Derived.Test.YtklibjdhlmdkpaaGreatDoorQbIMI2
import Derived.Test.YtklibjdhlmdkpaaGreatDoorQbIBase
namespace Go.Proofs.YtklibjdhlmdkpaaGreatDoor

theorem set_is : True := trivial

end Go.Proofs.YtklibjdhlmdkpaaGreatDoor

