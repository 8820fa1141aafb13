/-
  Plain: a float's worth as a fraction, in what Ratio and Dyadic answer. No program in sight.
-/
import Derived.Test.YtklibjdhlmdkpaaGreatDoorQWthM
import Derived.Test.YtklibjdhlmdkpaaGreatDoorQRdG
namespace Go.Proofs.YtklibjdhlmdkpaaGreatDoor

open Go.RowKit Go.Lb

theorem ra_up (n : Nat) (X : Int) : raN (limbs n) X = upN n X ∧ raD X = upD X := by
  unfold raN raD upN upD
  rw [val_limbs', show (max 0 X).toNat = X.toNat by omega, show (max 0 (-X)).toNat = (-X).toNat by omega]
  exact ⟨rfl, rfl⟩

theorem ratA_up {n : Nat} {X : Int} {s : Bool} (hd : dchk s (limbs n) X = 0) (l1 : ln (upN n X) ≤ 34) (l2 : ln (upD X) ≤ 34) (w : World) : RatA s (limbs n) X w = Rtn s (upN n X) (upD X) 0 w := by
  obtain ⟨e1, e2⟩ := ra_up n X
  unfold ln at l1 l2
  have hB : raB s (limbs n) X = true := by
    unfold raB
    rw [e1, e2]
    exact decide_eq_true ⟨hd, (bigE_ok (by omega)).1, (bigE_ok (by omega)).1⟩
  unfold RatA raE
  rw [hB, if_pos rfl, if_pos rfl, if_pos rfl, e1, e2, if_neg (by simp [hd])]
  rfl

theorem dy_up {E F n m : Nat} {X : Int} {s : Bool} (hf : formE (E : Int) (F : Int) = 0) (hd : dchk s (limbs n) X = 0) (hm : m < 5) (h1 : -1074 ≤ X) (h2 : X ≤ 1023) (neg : Bool) :
    dyErr (E : Int) (F : Int) s (limbs n) X m = 0 ∧ dyBits (E : Int) (F : Int) s (limbs n) X neg m = sgBits E F (upN n X) (upD X) s neg m ∧ dyFlags (E : Int) (F : Int) s (limbs n) X m = sgFlags E F (upN n X) (upD X) s m := by
  have hE : dyErr (E : Int) (F : Int) s (limbs n) X m = 0 := by
    unfold dyErr twoB
    rw [if_neg (by simp [hf]), if_neg (by simp [hd]), if_neg (by omega)]
  unfold dyBits dyFlags
  rw [if_pos hE, if_pos hE, Int.toNat_natCast, Int.toNat_natCast, val_limbs']
  unfold dyN dyD
  rw [near_in h1 h2, Nat.one_mul]
  exact ⟨hE, rfl, rfl⟩

theorem ratB_low {s : Bool} {N D : Nat} (l1 : ln N ≤ 16384) (l2 : ln D ≤ 16384) (hD : D ≠ 0) (hG : Nat.gcd N D = 1) (hs : s = true → N ≠ 0) : ratB s (limbs N) (limbs D) = true := by
  have hz : ∀ N, ln N ≤ 16384 → chk (limbs N) = 0 := fun N h => by
    unfold chk
    rw [if_neg (by unfold ln at h; omega), if_neg]
    rintro ⟨h1, h2⟩
    exact fine_top (fine_limbs N) (by omega) h2
  refine decide_eq_true ⟨hz _ l1, hz _ l2, fun h => ?_, ?_, fun h => ?_⟩
  · have := val_limbs' D
    rw [List.eq_nil_of_length_eq_zero h] at this
    exact hD this.symm
  · rw [val_limbs', val_limbs']
    exact hG
  · rw [val_limbs']
    exact hs h

end Go.Proofs.YtklibjdhlmdkpaaGreatDoor

