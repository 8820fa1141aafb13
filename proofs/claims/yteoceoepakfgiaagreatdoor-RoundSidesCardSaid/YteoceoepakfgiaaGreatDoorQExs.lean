/-
  The walks of exact.both, sign, twin, and of the reference's two, sign, Twin. The walks of exact.Neg and exact.Mul. The walk of exact.Add, way by way. (Printed by wip/gen/add.py.) The walk of exact.Add, its last way, and all of it. (Printed by wip/gen/add.py.) The walk of exact.Cmp. (Printed by wip/gen/cmp.py.)
-/
import Derived.Test.YteoceoepakfgiaaGreatDoorSumNs
import Derived.Test.YteoceoepakfgiaaGreatDoorNats
import Derived.Test.YteoceoepakfgiaaGreatDoorMakes
import Derived.Test.YteoceoepakfgiaaGreatDoorUps
import Derived.Test.YteoceoepakfgiaaGreatDoorBoxes
import Derived.Deep.RegionHeld3
namespace Go.Proofs.YteoceoepakfgiaaGreatDoor

open Go.RowKit Go.Lb

end Go.Proofs.YteoceoepakfgiaaGreatDoor

namespace Go.Proofs.YteoceoepakfgiaaGreatDoor

open Go.RowKit Go.Lb

theorem bigN_of {N : Nat} (h : bigE N = 0) : bigN N = N := by
  unfold bigE at h
  unfold bigN
  split at h
  · rename_i hh; exact if_pos hh
  · cases h

end Go.Proofs.YteoceoepakfgiaaGreatDoor

namespace Go.Proofs.YteoceoepakfgiaaGreatDoor

open Go.RowKit Go.Lb

end Go.Proofs.YteoceoepakfgiaaGreatDoor

namespace Go.Proofs.YteoceoepakfgiaaGreatDoor

open Go.RowKit Go.Lb

end Go.Proofs.YteoceoepakfgiaaGreatDoor

namespace Go.Proofs.YteoceoepakfgiaaGreatDoor

open Go.RowKit Go.Lb

/-- What a block of three cells holds. -/
structure Cell3 (w : World) (b : Nat) (u v x : Value) : Prop where
  c0 : w.cell? ⟨b, 0, none⟩ = some u
  c1 : w.cell? ⟨b, 1, none⟩ = some v
  c2 : w.cell? ⟨b, 2, none⟩ = some x

theorem Cell3.stay {wp w' : World} {b : Nat} {u v x : Value} (h : Cell3 wp b u v x) (k : Below wp.heap.size wp w') : Cell3 w' b u v x := ⟨cellStay h.c0 k, cellStay h.c1 k, cellStay h.c2 k⟩

end Go.Proofs.YteoceoepakfgiaaGreatDoor

