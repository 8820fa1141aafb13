/-
  Contracts of numeralbig: trim, copied, fromUint, toUint, cmpWords, bitLen, zeros. (Printed by wip/gen/big.py.) Contracts of numeralbig: up, down, divSmall. (Printed by wip/gen/big.py.)
-/
import Derived.Test.YteoceoepakfgiaaDoorBigL
namespace Go.Proofs.YteoceoepakfgiaaDoor
open Go.RowKit Go.Lb

end Go.Proofs.YteoceoepakfgiaaDoor

namespace Go.Proofs.YteoceoepakfgiaaDoor
open Go.RowKit Go.Lb

end Go.Proofs.YteoceoepakfgiaaDoor
