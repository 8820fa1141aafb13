/-
  Contracts of numeral/numeralbig: Int: set, SetWords, Sign, Cmp, SetInt64, NewInt, GCD, Neg, Set, BitLen. (Printed by wip/gen/bigH.py.) Contracts of numeral/numeralbig: Rat: set, SetFrac, Num, below, Denom, Sign. (Printed by wip/gen/bigH.py.)
-/
import Derived.Test.YteoceoepakfgiaaDoorNbG
import Derived.Test.YteoceoepakfgiaaDoorBigL
import Derived.Deep.RegionWith
namespace Go.Proofs.YteoceoepakfgiaaDoor
open Go.RowKit Go.Lb

end Go.Proofs.YteoceoepakfgiaaDoor

namespace Go.Proofs.YteoceoepakfgiaaDoor
open Go.RowKit Go.Lb

end Go.Proofs.YteoceoepakfgiaaDoor
