/-
  Contracts: May, Int, Check of the reference's fractions. Contract: Check of the reference's fractions. (Printed by wip/gen/rf2check.py.)
-/
import Derived.Test.YteoceoepakfgiaaDoorRtE
import Derived.Test.YteoceoepakfgiaaDoorNbI
namespace Go.Proofs.YteoceoepakfgiaaDoor
open Go.RowKit Go.Lb

/-- May it be a number? -/
def mayB (xs : List Nat) : Bool := decide (chk xs = 0)

end Go.Proofs.YteoceoepakfgiaaDoor

namespace Go.Proofs.YteoceoepakfgiaaDoor
open Go.RowKit Go.Lb

theorem ratE_no {s : Bool} {xs ys : List Nat} (h : ratB s xs ys = false) : ratE s xs ys = 20 := by unfold ratE; rw [if_neg (by rw [h]; decide)]
theorem cmp_one {N : Nat} (h : N ≠ 1) : (cmpN N 1 == 0) = false := by
  unfold cmpN
  by_cases h1 : N < 1
  · rw [if_pos h1]; rfl
  · rw [if_neg h1, if_pos (by omega)]; rfl

theorem ratE_yes {s : Bool} {xs ys : List Nat} (h : ratB s xs ys = true) : ratE s xs ys = 0 := by unfold ratE; rw [if_pos h]

end Go.Proofs.YteoceoepakfgiaaDoor
