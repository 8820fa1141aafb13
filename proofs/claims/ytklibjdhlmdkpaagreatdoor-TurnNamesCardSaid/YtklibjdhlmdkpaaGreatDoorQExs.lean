/-
  The walks of exact.both, sign, twin, and of the reference's two, sign, Twin. The walks of exact.Neg and exact.Mul. The walk of exact.Add, way by way. (Printed by wip/gen/add.py.) The walk of exact.Add, its last way, and all of it. (Printed by wip/gen/add.py.) The walk of exact.Cmp. (Printed by wip/gen/cmp.py.)
-/
import Derived.Test.YtklibjdhlmdkpaaGreatDoorQSumNs
import Derived.Test.YtklibjdhlmdkpaaGreatDoorNats
import Derived.Test.YtklibjdhlmdkpaaGreatDoorMakes
import Derived.Test.YtklibjdhlmdkpaaGreatDoorQUps
import Derived.Test.YtklibjdhlmdkpaaGreatDoorBoxes
import Derived.Deep.RegionHeld3
namespace Go.Proofs.YtklibjdhlmdkpaaGreatDoor

open Go.RowKit Go.Lb

end Go.Proofs.YtklibjdhlmdkpaaGreatDoor

namespace Go.Proofs.YtklibjdhlmdkpaaGreatDoor

open Go.RowKit Go.Lb

theorem bigN_of {N : Nat} (h : bigE N = 0) : bigN N = N := by
  unfold bigE at h
  unfold bigN
  split at h
  · rename_i hh; exact if_pos hh
  · cases h

end Go.Proofs.YtklibjdhlmdkpaaGreatDoor

namespace Go.Proofs.YtklibjdhlmdkpaaGreatDoor

open Go.RowKit Go.Lb

end Go.Proofs.YtklibjdhlmdkpaaGreatDoor

namespace Go.Proofs.YtklibjdhlmdkpaaGreatDoor

open Go.RowKit Go.Lb

end Go.Proofs.YtklibjdhlmdkpaaGreatDoor

namespace Go.Proofs.YtklibjdhlmdkpaaGreatDoor

open Go.RowKit Go.Lb

end Go.Proofs.YtklibjdhlmdkpaaGreatDoor

