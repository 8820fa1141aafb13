/-
  Contracts of numeralbig: by, common. (Printed by wip/gen/big.py.) Contracts of numeralbig: common whole. (Printed by wip/gen/big.py.)
-/
import Derived.Test.YteoceoepakfgiaaDoorNbE
import Derived.Test.YteoceoepakfgiaaDoorBigL
import Derived.Deep.CutRange
namespace Go.Proofs.YteoceoepakfgiaaDoor
open Go.RowKit Go.Lb

end Go.Proofs.YteoceoepakfgiaaDoor

namespace Go.Proofs.YteoceoepakfgiaaDoor
open Go.RowKit Go.Lb

end Go.Proofs.YteoceoepakfgiaaDoor
