/-
  Contracts of numeral/numeralref05: unit, Least, Greatest, Sign, beyond. Contracts of numeral/numeralref05: Pack.
-/
import Derived.Test.YtklibjdhlmdkpaaGreatDoorQBigL
import Derived.Test.YtklibjdhlmdkpaaGreatDoorQIntL
import Derived.Deep.RegionWith
import Derived.Deep.CutBlock
import Derived.Deep.Cut
import Derived.Deep.RegionHeld3
import Derived.Deep.CutRange
import Derived.StillTailTactics
import Derived.Deep.DrawnRows
import Derived.Test.YtklibjdhlmdkpaaGreatDoorQMN18
import Derived.Test.YtklibjdhlmdkpaaGreatDoorQRdA
import Derived.Test.YtklibjdhlmdkpaaGreatDoorQRdD
import Derived.Test.YtklibjdhlmdkpaaGreatDoorQRtE
import Derived.Test.YtklibjdhlmdkpaaGreatDoorQRdB
namespace Go.Proofs.YtklibjdhlmdkpaaGreatDoor

open Go.RowKit Go.Lb

theorem pow_bounds {E F : Nat} (hE : 2 ≤ E) (hE2 : E ≤ 11) (hF : F ≤ 52) : 2 ^ F ≤ 2 ^ 52 ∧ 4 * 2 ^ F ≤ 2 ^ (E + F) ∧ 2 ^ (E + F) ≤ 2 ^ 63 := by
  refine ⟨Nat.pow_le_pow_right (by decide) hF, ?_, Nat.pow_le_pow_right (by decide) (by omega)⟩
  rw [show (4 : Nat) = 2 ^ 2 from rfl, ← Nat.pow_add]
  exact Nat.pow_le_pow_right (by decide) (by omega)

end Go.Proofs.YtklibjdhlmdkpaaGreatDoor

namespace Go.Proofs.YtklibjdhlmdkpaaGreatDoor

open Go.RowKit Go.Lb

attribute [local go_sem] Go.World.cell?_alloc_some

end Go.Proofs.YtklibjdhlmdkpaaGreatDoor

/-
  Contracts of numeral/numeralref05: Two.
-/
namespace Go.Proofs.YtklibjdhlmdkpaaGreatDoor

open Go.RowKit Go.Lb

attribute [local go_sem] Go.World.cell?_alloc_some

/-- May it be a dyadic? -/
def twoB (neg : Bool) (xs : List Nat) (x : Int) : Bool := decide (dchk neg xs x = 0)

theorem two_odd {neg : Bool} {xs : List Nat} {x : Int} (h : chk xs = 0) (hl : xs.length ≠ 0) (h1 : ¬ x > 1073741824) (h2 : ¬ x < -1073741824) : twoB neg xs x = decide (nth xs 0 % 2 = 1) := by
  unfold twoB dchk
  have hf : farB x = false := by unfold farB; simp; omega
  rw [if_neg (by simp [h]), if_neg hl, hf]
  by_cases hx : nth xs 0 % 2 = 0
  · simp [hx]
  · have : nth xs 0 % 2 = 1 := by omega
    simp [this]

end Go.Proofs.YtklibjdhlmdkpaaGreatDoor

