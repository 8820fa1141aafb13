/-
  Plain: with the sign turned and the mode mirrored a fraction rounds to the float with its sign turned. No program in sight.
-/
import Derived.Test.YteoceoepakfgiaaGreatDoorOrdL
namespace Go.Proofs.YteoceoepakfgiaaGreatDoor
open Go.RowKit Go.Lb

/-- The mirrored mode. -/
def mirM (m : Nat) : Nat := if m = 3 then 4 else if m = 4 then 3 else m

theorem md_mir {m : Nat} (hm : m < 5) (neg odd : Bool) (h : Int) : mdB (mirM m) (!neg) odd h = mdB m neg odd h := by
  have hmm : m = 0 ∨ m = 1 ∨ m = 2 ∨ m = 3 ∨ m = 4 := by omega
  unfold mdB mirM
  rcases hmm with rfl | rfl | rfl | rfl | rfl <;> simp

theorem stay_mir {m : Nat} (hm : m < 5) (neg : Bool) : stayB (!neg) (mirM m) = stayB neg m := by
  have hmm : m = 0 ∨ m = 1 ∨ m = 2 ∨ m = 3 ∨ m = 4 := by omega
  unfold stayB mirM
  rcases hmm with rfl | rfl | rfl | rfl | rfl <;> cases neg <;> simp

theorem rd_mir {m : Nat} (hm : m < 5) (N D : Nat) (neg : Bool) : rdN N D (!neg) (mirM m) = rdN N D neg m := by
  unfold rdN
  rw [md_mir hm]

theorem fl_mir {E F N D m : Nat} (hm : m < 5) (neg : Bool) : flB E F N D (!neg) (mirM m) = flB E F N D neg m ∧ flG E F N D (!neg) (mirM m) = flG E F N D neg m := by
  have h1 : sgM E F N D (!neg) (mirM m) = sgM E F N D neg m := by unfold sgM; rw [rd_mir hm]
  have h2 : sgK F N D (!neg) (mirM m) = sgK F N D neg m := by unfold sgK; rw [rd_mir hm]
  have h3 : Lb.sgB E F N D (!neg) (mirM m) = Lb.sgB E F N D neg m := by unfold Lb.sgB; rw [h1]
  have h4 : ovB E F N D (!neg) (mirM m) = ovB E F N D neg m := by unfold ovB; rw [h3]
  have h5 : tiny E F N D (!neg) (mirM m) = tiny E F N D neg m := by unfold tiny; rw [h2]
  constructor
  · unfold flB; rw [h4, h3, stay_mir hm]
  · unfold flG; rw [h4, h5]

/-- The bits with their sign turned. -/
def turnN (E F b : Nat) : Nat := if 2 ^ (E + F) ≤ b then b - 2 ^ (E + F) else b + 2 ^ (E + F)

theorem sg_mir {E F N D m : Nat} (hm : m < 5) (s : Bool) : sgBits E F N D (if N = 0 then false else !s) true (mirM m) = turnN E F (sgBits E F N D s false m) ∧ sgFlags E F N D (if N = 0 then false else !s) (mirM m) = sgFlags E F N D s m := by
  by_cases h : N = 0
  · subst h
    have hp := Nat.two_pow_pos (E + F)
    unfold sgBits sgFlags turnN
    simp only [if_true, Bool.false_eq_true, if_false]
    rw [if_neg (by omega)]
    exact ⟨by omega, trivial⟩
  · obtain ⟨h1, h2⟩ := fl_mir (E := E) (F := F) (N := N) (D := D) hm s
    have hl := fl_lt (E := E) (F := F) N D s m
    rw [if_neg h]
    unfold sgBits sgFlags turnN
    rw [if_neg h, if_neg h, if_neg h, if_neg h, h1, h2]
    refine ⟨?_, rfl⟩
    cases s
    · simp only [Bool.not_false, if_true, Bool.false_eq_true, if_false]
      rw [if_neg (by omega)]
    · simp only [Bool.not_true, if_true, Bool.false_eq_true, if_false]
      rw [if_pos (by omega)]
      omega

/-- a ^ 2^k turns the bit k. -/
theorem xor_turn {k a : Nat} (h : a < 2 * 2 ^ k) : a ^^^ 2 ^ k = if 2 ^ k ≤ a then a - 2 ^ k else a + 2 ^ k := by
  by_cases h1 : 2 ^ k ≤ a
  · rw [if_pos h1]
    obtain ⟨r, rfl⟩ : ∃ r, a = 2 ^ k + r := ⟨a - 2 ^ k, by omega⟩
    have hr : r < 2 ^ k := by omega
    rw [Nat.add_sub_cancel_left]
    have e : 2 ^ k + r = 2 ^ k ^^^ r := by
      have := Nat.two_pow_add_eq_or_of_lt hr 1
      rw [Nat.mul_one] at this
      rw [this]
      refine Nat.eq_of_testBit_eq fun i => ?_
      rw [Nat.testBit_or, Nat.testBit_xor, Nat.testBit_two_pow]
      by_cases hi : k = i
      · subst hi
        rw [Nat.testBit_lt_two_pow hr]
        simp
      · simp [hi]
    rw [e, Nat.xor_comm (2 ^ k) r, Nat.xor_assoc, Nat.xor_self, Nat.xor_zero]
  · rw [if_neg h1]
    have hr : a < 2 ^ k := by omega
    have := Nat.two_pow_add_eq_or_of_lt hr 1
    rw [Nat.mul_one] at this
    rw [Nat.add_comm, this]
    refine Nat.eq_of_testBit_eq fun i => ?_
    rw [Nat.testBit_or, Nat.testBit_xor, Nat.testBit_two_pow]
    by_cases hi : k = i
    · subst hi
      rw [Nat.testBit_lt_two_pow hr]
      simp
    · simp [hi]

end Go.Proofs.YteoceoepakfgiaaGreatDoor
