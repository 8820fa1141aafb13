/-
  Contracts of numeralbig: figure. (Printed by wip/gen/big.py.) Contracts of numeralbig: divWords. (Printed by wip/gen/big.py.) Contracts of numeralbig: divWords whole, topBits, blend, one, by. (Printed by wip/gen/big.py.)
-/
import Derived.Test.YteoceoepakfgiaaDoorNbB
import Derived.Test.YteoceoepakfgiaaDoorBigL
import Derived.Deep.CutBlock
import Derived.Deep.Cut
import Derived.Deep.RegionHeld3
namespace Go.Proofs.YteoceoepakfgiaaDoor
open Go.RowKit Go.Lb

end Go.Proofs.YteoceoepakfgiaaDoor

namespace Go.Proofs.YteoceoepakfgiaaDoor
open Go.RowKit Go.Lb

/-- What divWords answers. -/
def NbQr (A V : Nat) (w : World) (e : Ending) (w' : World) : Prop :=
  ∃ aq kq cq ar kr cr, e = .returned (.tuple #[.slice aq kq cq, .slice ar kr cr]) ∧ Fr 81 w' w.heap.size aq kq cq (limbs (A / V)) ∧ Fr 81 w' w.heap.size ar kr cr (limbs (A % V)) ∧ Below w.heap.size w w'

theorem nbOwn_one (w : World) (r : Nat) : (w.alloc (.cells #[.int .u32 (r : Int)] 81)).ownsRow w.heap.size 81 1 (.slice (some ⟨w.heap.size, 0, none⟩) 1 1) 1 (lvs [r]) :=
  World.ownsRow_lit w #[.int .u32 (r : Int)] 1 (Nat.le_refl _) (by decide) rfl

end Go.Proofs.YteoceoepakfgiaaDoor

namespace Go.Proofs.YteoceoepakfgiaaDoor
open Go.RowKit Go.Lb

end Go.Proofs.YteoceoepakfgiaaDoor
