/-
  What the laws of this set lean on.
-/
import Derived.Test.YtklibjdhlmdkpaaGreatDoorQbBMB33
import Derived.Test.YtklibjdhlmdkpaaGreatDoorQbBMB34
import Derived.Test.YtklibjdhlmdkpaaGreatDoorQbBMB25
import Derived.Test.YtklibjdhlmdkpaaGreatDoorQbBMB14
import Derived.Test.YtklibjdhlmdkpaaGreatDoorQbBMB32
import Derived.Test.YtklibjdhlmdkpaaGreatDoorQbBMB1
import Derived.Deep.Cut
import Derived.Deep.RegionHeld3
import Derived.Test.YtklibjdhlmdkpaaGreatDoorQbBRdB
import Derived.Test.YtklibjdhlmdkpaaGreatDoorQbBMB17
import Derived.Test.YtklibjdhlmdkpaaGreatDoorQbBMB31
import Derived.Test.YtklibjdhlmdkpaaGreatDoorQbBMB2
import Derived.Test.YtklibjdhlmdkpaaGreatDoorQbBBase
namespace Go.Proofs.YtklibjdhlmdkpaaGreatDoor

theorem set_is : True := trivial

end Go.Proofs.YtklibjdhlmdkpaaGreatDoor

