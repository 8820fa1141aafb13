/-
  Plain: what the law RoundMirror compares. No program in sight.
-/
import Derived.Test.YteoceoepakfgiaaGreatDoorMirL
import Derived.Test.YteoceoepakfgiaaGreatDoorRdE
namespace Go.Proofs.YteoceoepakfgiaaGreatDoor
open Go.RowKit Go.Lb

theorem u64_xor_nat (a b : Nat) (ha : a < 18446744073709551616) (hb : b < 18446744073709551616) : bits BinOp.xor IntKind.u64 (a : Int) (b : Int) = ((a ^^^ b : Nat) : Int) := by
  have hx : a ^^^ b < 2 ^ 64 := Nat.xor_lt_two_pow (by omega) (by omega)
  have h1 : (BitVec.ofInt 64 (a : Int)).toNat = a := by
    rw [BitVec.ofInt_natCast, BitVec.toNat_ofNat]; exact Nat.mod_eq_of_lt (by omega)
  have h2 : (BitVec.ofInt 64 (b : Int)).toNat = b := by
    rw [BitVec.ofInt_natCast, BitVec.toNat_ofNat]; exact Nat.mod_eq_of_lt (by omega)
  show IntKind.u64.wrap ((BitVec.ofInt 64 (a : Int) ^^^ BitVec.ofInt 64 (b : Int)).toNat : Int) = _
  rw [BitVec.toNat_xor, h1, h2, IntKind.wrap_u64]
  omega

/-- A fraction by its worth may be asked. -/
theorem rat_limbs (q : Rat) (l1 : ln q.num.natAbs ≤ 16384) (l2 : ln q.den ≤ 16384) : ratB (decide (q.num < 0)) (limbs q.num.natAbs) (limbs q.den) = true := by
  have hz : ∀ N, ln N ≤ 16384 → chk (limbs N) = 0 := fun N h => by
    unfold chk
    rw [if_neg (by unfold ln at h; omega), if_neg]
    rintro ⟨h1, h2⟩
    exact fine_top (fine_limbs N) (by omega) h2
  refine decide_eq_true ⟨hz _ l1, hz _ l2, fun h => ?_, ?_, fun h => ?_⟩
  · have := val_limbs' q.den
    rw [List.eq_nil_of_length_eq_zero h] at this
    exact q.den_nz this.symm
  · rw [val_limbs', val_limbs']
    exact q.reduced
  · have := of_decide_eq_true h
    rw [val_limbs']
    omega

/-- round's Ratio and Scaled, of a fraction by its worth. -/
theorem sc_rat {E F m : Nat} {s : Bool} {xs ys : List Nat} (hf : formE (E : Int) (F : Int) = 0) (hr : ratB s xs ys = true) (hm : m < 5) (n : Int) (neg : Bool) : scErr (E : Int) (F : Int) s xs ys m = 0 ∧ scBits (E : Int) (F : Int) s xs ys n neg m = sgBits E F (scnN (val xs) (val ys) n) (scnD (val xs) (val ys) n) s neg m ∧ scFlags (E : Int) (F : Int) s xs ys n m = sgFlags E F (scnN (val xs) (val ys) n) (scnD (val xs) (val ys) n) s m := by
  have hE : scErr (E : Int) (F : Int) s xs ys m = 0 := by unfold scErr; rw [if_neg (by simp [hf]), if_neg (by simp [hr]), if_neg (by omega)]
  unfold scBits scFlags
  rw [if_pos hE, if_pos hE, Int.toNat_natCast, Int.toNat_natCast]
  exact ⟨hE, rfl, rfl⟩

theorem near_one (b : Nat) : nearZ 1 b = 1 ∧ nearZ (-1) b = -1 ∧ nearZ 0 b = 0 := by unfold nearZ; omega
theorem scn_one (N D : Nat) : scnN N D 1 = N * 10 ∧ scnD N D 1 = D ∧ scnN N D (-1) = N ∧ scnD N D (-1) = D * 10 ∧ scnN N D 0 = N ∧ scnD N D 0 = D := by
  obtain ⟨h1, h2, h3⟩ := near_one (blN N + blN D)
  unfold scnN scnD
  rw [h1, h2, h3]
  refine ⟨?_, ?_, ?_, ?_, ?_, ?_⟩ <;> simp

theorem neg_parts {s : Bool} {N D : Nat} (hD : D ≠ 0) (hG : Nat.gcd N D = 1) (hs : s = true → N ≠ 0) : (-(sgQ' s N D)).num.natAbs = N ∧ (-(sgQ' s N D)).den = D ∧ decide ((-(sgQ' s N D)).num < 0) = (if N = 0 then false else !s) := by
  obtain ⟨q1, q2, q3⟩ := mk_low hD hG hs
  rw [Rat.neg_num, Rat.neg_den, Int.natAbs_neg]
  refine ⟨q1, q2, ?_⟩
  by_cases h : N = 0
  · rw [if_pos h]
    exact decide_eq_false (by omega)
  · rw [if_neg h]
    cases s
    · have := of_decide_eq_false q3
      exact decide_eq_true (by omega)
    · have := of_decide_eq_true q3
      exact decide_eq_false (by omega)

/-- What the law holds of the five answers. -/
theorem mirror_facts {E F m : Nat} {s : Bool} {N D : Nat} (hm : m < 5) (hD : D ≠ 0) (hG : Nat.gcd N D = 1) (hs : s = true → N ≠ 0) :
    (sgBits E F (-(sgQ' s N D)).num.natAbs (-(sgQ' s N D)).den (decide ((-(sgQ' s N D)).num < 0)) true (mirM m) = turnN E F (sgBits E F N D s false m) ∧ sgFlags E F (-(sgQ' s N D)).num.natAbs (-(sgQ' s N D)).den (decide ((-(sgQ' s N D)).num < 0)) (mirM m) = sgFlags E F N D s m) ∧
    (sgBits E F (tnQ (sgQ' s N D) 1).num.natAbs ((tnQ (sgQ' s N D) 1).den * 10) (decide ((tnQ (sgQ' s N D) 1).num < 0)) false m = sgBits E F N D s false m ∧ sgFlags E F (tnQ (sgQ' s N D) 1).num.natAbs ((tnQ (sgQ' s N D) 1).den * 10) (decide ((tnQ (sgQ' s N D) 1).num < 0)) m = sgFlags E F N D s m) ∧
    (sgBits E F (tnQ (sgQ' s N D) 1).num.natAbs (tnQ (sgQ' s N D) 1).den (decide ((tnQ (sgQ' s N D) 1).num < 0)) false m = sgBits E F (N * 10) D s false m ∧ sgFlags E F (tnQ (sgQ' s N D) 1).num.natAbs (tnQ (sgQ' s N D) 1).den (decide ((tnQ (sgQ' s N D) 1).num < 0)) m = sgFlags E F (N * 10) D s m) := by
  obtain ⟨q1, q2, q3⟩ := mk_low hD hG hs
  obtain ⟨n1, n2, n3⟩ := neg_parts hD hG hs
  obtain ⟨t1, t2⟩ := tn_cross (sgQ' s N D) 1
  rw [q1, q2] at t1
  rw [q3] at t2
  rw [n1, n2, n3, t2]
  have hd := (tnQ (sgQ' s N D) 1).den_nz
  generalize (tnQ (sgQ' s N D) 1).num.natAbs = N' at *
  generalize (tnQ (sgQ' s N D) 1).den = D' at *
  have e : N' * D = N * 10 * D' := by simpa using t1
  refine ⟨sg_mir hm s, ?_, ?_⟩
  · exact sgs_same (Nat.mul_ne_zero hd (by decide)) hD (by rw [e, Nat.mul_assoc, Nat.mul_comm 10]) s false m
  · exact sgs_same hd hD e s false m

end Go.Proofs.YteoceoepakfgiaaGreatDoor
