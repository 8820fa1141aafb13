/-
  Plain: what the law RoundMirror compares. No program in sight.
-/
import Derived.Test.YteoceoepakfgiaaGreatDoorOrdL
import Derived.Test.YteoceoepakfgiaaGreatDoorRdE
namespace Go.Proofs.YteoceoepakfgiaaGreatDoor

open Go.RowKit Go.Lb

/-- A fraction by its worth may be asked. -/
theorem rat_limbs (q : Rat) (l1 : ln q.num.natAbs ≤ 16384) (l2 : ln q.den ≤ 16384) : ratB (decide (q.num < 0)) (limbs q.num.natAbs) (limbs q.den) = true := by
  have hz : ∀ N, ln N ≤ 16384 → chk (limbs N) = 0 := fun N h => by
    unfold chk
    rw [if_neg (by unfold ln at h; omega), if_neg]
    rintro ⟨h1, h2⟩
    exact fine_top (fine_limbs N) (by omega) h2
  refine decide_eq_true ⟨hz _ l1, hz _ l2, fun h => ?_, ?_, fun h => ?_⟩
  · have := val_limbs' q.den
    rw [List.eq_nil_of_length_eq_zero h] at this
    exact q.den_nz this.symm
  · rw [val_limbs', val_limbs']
    exact q.reduced
  · have := of_decide_eq_true h
    rw [val_limbs']
    omega

/-- round's Ratio and Scaled, of a fraction by its worth. -/
theorem sc_rat {E F m : Nat} {s : Bool} {xs ys : List Nat} (hf : formE (E : Int) (F : Int) = 0) (hr : ratB s xs ys = true) (hm : m < 5) (n : Int) (neg : Bool) : scErr (E : Int) (F : Int) s xs ys m = 0 ∧ scBits (E : Int) (F : Int) s xs ys n neg m = sgBits E F (scnN (val xs) (val ys) n) (scnD (val xs) (val ys) n) s neg m ∧ scFlags (E : Int) (F : Int) s xs ys n m = sgFlags E F (scnN (val xs) (val ys) n) (scnD (val xs) (val ys) n) s m := by
  have hE : scErr (E : Int) (F : Int) s xs ys m = 0 := by unfold scErr; rw [if_neg (by simp [hf]), if_neg (by simp [hr]), if_neg (by omega)]
  unfold scBits scFlags
  rw [if_pos hE, if_pos hE, Int.toNat_natCast, Int.toNat_natCast]
  exact ⟨hE, rfl, rfl⟩

theorem near_one (b : Nat) : nearZ 1 b = 1 ∧ nearZ (-1) b = -1 ∧ nearZ 0 b = 0 := by unfold nearZ; omega

theorem scn_one (N D : Nat) : scnN N D 1 = N * 10 ∧ scnD N D 1 = D ∧ scnN N D (-1) = N ∧ scnD N D (-1) = D * 10 ∧ scnN N D 0 = N ∧ scnD N D 0 = D := by
  obtain ⟨h1, h2, h3⟩ := near_one (blN N + blN D)
  unfold scnN scnD
  rw [h1, h2, h3]
  refine ⟨?_, ?_, ?_, ?_, ?_, ?_⟩ <;> simp

end Go.Proofs.YteoceoepakfgiaaGreatDoor

