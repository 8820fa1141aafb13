/-
  Plain: powers of two as fractions; products with them. No program in sight. Plain: the reference's roundings of fractions, said by RndL's words. No program in sight.
-/
import Derived.Test.YtgdhleiokfaeoaaGreatDoorQRatM
import Derived.Test.YtgdhleiokfaeoaaGreatDoorQRndL
namespace Go.Lb

open Go.RowKit Go.Proofs.YtgdhleiokfaeoaaGreatDoor

/-- 2 to the power of n. -/
def p2 (n : Int) : Rat := (2 : Rat) ^ n

/-- A fraction made of two numbers reads across as they do. -/
theorem mk_cross (z : Int) {D : Nat} (hD : D ≠ 0) : (mkRat z D).num.natAbs * D = z.natAbs * (mkRat z D).den := by
  obtain ⟨h1, h2, _⟩ := mk_parts z hD
  have hg := Nat.gcd_pos_of_pos_right z.natAbs (Nat.pos_of_ne_zero hD)
  have e1 := Nat.div_mul_cancel (Nat.gcd_dvd_left z.natAbs D)
  have e2 := Nat.div_mul_cancel (Nat.gcd_dvd_right z.natAbs D)
  rw [h1, h2]
  generalize z.natAbs / Nat.gcd z.natAbs D = a at *
  generalize D / Nat.gcd z.natAbs D = b at *
  generalize Nat.gcd z.natAbs D = g at *
  rw [← e1, ← e2]
  simp only [Nat.mul_comm, Nat.mul_left_comm]

theorem mk_len (z : Int) {D : Nat} (hD : D ≠ 0) : ln (mkRat z D).num.natAbs ≤ ln z.natAbs ∧ ln (mkRat z D).den ≤ ln D := by
  obtain ⟨h1, h2, _⟩ := mk_parts z hD
  rw [h1, h2]
  exact ⟨ln_mono (Nat.div_le_self _ _), ln_mono (Nat.div_le_self _ _)⟩

end Go.Lb

namespace Go.Lb

open Go.RowKit Go.Proofs.YtgdhleiokfaeoaaGreatDoor

end Go.Lb

