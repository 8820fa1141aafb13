/-
  Plain: what turning asks of a float's bits, and what it answers. No program in sight.
-/
import Derived.Test.YtklibjdhlmdkpaaGreatDoorQbIMI29
namespace Go.Proofs.YtklibjdhlmdkpaaGreatDoor

open Go.RowKit Go.Lb

/-- Is it no number? Is it infinite? Is one that is no number quiet? -/
def naB (e f b : Nat) : Bool := decide (exN e f b = maskN e ∧ frN f b ≠ 0)

def enB (e f b : Nat) : Bool := decide (exN e f b = maskN e ∧ frN f b = 0)

def quB (f b : Nat) : Bool := decide (frN f b / pw (f - 1) = 1)

theorem low_parts (E F b : Nat) : b % 2 ^ (E + F) = exN E F b * 2 ^ F + frN F b := by
  unfold exN frN takeN
  rw [pw_is, pw_is, pw_is, Nat.pow_zero, Nat.div_one, Nat.add_comm E F, Nat.pow_add, Nat.mod_mul, Nat.mul_comm (2 ^ F) (_ % _), Nat.add_comm]

theorem inf_mask_mul (E F : Nat) : infN E F = maskN E * 2 ^ F := by
  rw [maskN_eq, pw_is, Nat.sub_mul, Nat.one_mul, ← Nat.pow_add]
  rfl

theorem ex_le (E F b : Nat) : exN E F b ≤ maskN E := by
  have h := takeN_lt b F E
  have h2 := pw_pos E
  rw [maskN_eq]
  unfold exN
  omega

theorem frN_lt2 (F b : Nat) : frN F b < 2 ^ F := by
  have h := takeN_lt b 0 F
  rw [pw_is] at h
  exact h

theorem nan_test (E F b : Nat) : decide (infN E F < b % 2 ^ (E + F)) = naB E F b := by
  rw [low_parts, inf_mask_mul]
  have h1 := ex_le E F b
  have h2 := frN_lt2 F b
  unfold naB
  generalize exN E F b = x at *
  generalize frN F b = r at *
  generalize maskN E = m at *
  rw [decide_eq_decide]
  by_cases h : x = m
  · subst h
    constructor
    · intro _; exact ⟨rfl, by omega⟩
    · rintro ⟨_, h⟩; omega
  · have h3 : (x + 1) * 2 ^ F ≤ m * 2 ^ F := Nat.mul_le_mul_right _ (by omega)
    rw [Nat.succ_mul] at h3
    constructor
    · intro _; omega
    · rintro ⟨h, _⟩; omega

/-- To's answers: the error; of floats that may be the bits and the flags. -/
def toE (e f g h : Int) (b m : Nat) : Int := if formE e f ≠ 0 ∨ formE g h ≠ 0 then 5 else if fitsE e f b ≠ 0 then 6 else if 4 < m then 7 else 0

def toB (E F G H b m : Nat) : Nat := if naB E F b = true then nanN G H else if enB E F b = true then joinN G H (sgB E F b) (maskN G) 0 else dyBits (G : Int) (H : Int) (valS (E : Int) (F : Int) b) (limbs (valN (E : Int) (F : Int) b)) (valX (E : Int) (F : Int) b) (sgB E F b) m

def toG (E F G H b m : Nat) : Nat := if naB E F b = true then (if quB F b = true then 0 else 16) else if enB E F b = true then 0 else dyFlags (G : Int) (H : Int) (valS (E : Int) (F : Int) b) (limbs (valN (E : Int) (F : Int) b)) (valX (E : Int) (F : Int) b) m

def toBi (e f g h : Int) (b m : Nat) : Nat := if toE e f g h b m = 0 then toB e.toNat f.toNat g.toNat h.toNat b m else 0

def toGi (e f g h : Int) (b m : Nat) : Nat := if toE e f g h b m = 0 then toG e.toNat f.toNat g.toNat h.toNat b m else 0

/-- A finite float's worth, rounded, by its own fraction or as a dyadic. -/
theorem dy_worth {E F G H b m : Nat} (hE : 2 ≤ E) (h11 : E ≤ 11) (hF : F ≤ 52) (hg : formE (G : Int) (H : Int) = 0) (h : fitsE (E : Int) (F : Int) b = 0) (hb : b < pw (1 + E + F)) (hx : exN E F b ≠ maskN E) (hm : m < 5) (neg : Bool) :
    dyErr (G : Int) (H : Int) (valS (E : Int) (F : Int) b) (limbs (valN (E : Int) (F : Int) b)) (valX (E : Int) (F : Int) b) m = 0 ∧
    dyBits (G : Int) (H : Int) (valS (E : Int) (F : Int) b) (limbs (valN (E : Int) (F : Int) b)) (valX (E : Int) (F : Int) b) neg m = sgBits G H (wrQ E F b).num.natAbs (wrQ E F b).den (decide ((wrQ E F b).num < 0)) neg m ∧
    dyFlags (G : Int) (H : Int) (valS (E : Int) (F : Int) b) (limbs (valN (E : Int) (F : Int) b)) (valX (E : Int) (F : Int) b) m = sgFlags G H (wrQ E F b).num.natAbs (wrQ E F b).den (decide ((wrQ E F b).num < 0)) m ∧
    ln (wrQ E F b).num.natAbs ≤ 34 ∧ ln (wrQ E F b).den ≤ 34 ∧ (limbs (valN (E : Int) (F : Int) b)).length ≤ 34 := by
  obtain ⟨_, n, X, s, v1, v2, v3, hd, hn, hX1, hX2, hG, hs, _⟩ := worth_facts (m := m) hE h11 hF h hb hx
  obtain ⟨l1, l2⟩ := up_small hn hX1 hX2
  obtain ⟨q1, q2, q3⟩ := mk_low (upD_pos X) hG hs
  have hln : ln n ≤ 34 := ln_le (Nat.lt_of_lt_of_le hn (by decide +kernel))
  unfold wrQ
  rw [v1, v2, v3, q1, q2, q3]
  obtain ⟨d1, d2, d3⟩ := dy_up hg hd hm hX1 hX2 neg
  exact ⟨d1, d2, d3, l1, l2, hln⟩

/-- A float's worth without its sign, as the reference reckons it. -/
def wuQ (E F b : Nat) : Rat := if exN E F b = 0 then (((frN F b : Nat) : Int) : Rat) * p2 (1 - (bsN E : Int) - F) else ((((frN F b : Nat) : Int) : Rat) + p2 (F : Int)) * p2 ((exN E F b : Int) - bsN E - F)

theorem worth_five {E F b : Nat} (hE : 2 ≤ E) (h11 : E ≤ 11) (hF : F ≤ 52) (hfit : fitsE (E : Int) (F : Int) b = 0) (hx : exN E F b ≠ maskN E) :
    wrQ E F b = if sgB E F b = true then -wuQ E F b else wuQ E F b := by
  obtain ⟨_, _, hm, hv⟩ := flt_of (F := F) (b := b) hE hx
  rw [worth_rat (M := vN E F b) (l := vX E F b + F) hE h11 hF hfit hx rfl (.inl ⟨rfl, by omega⟩), show vX E F b + (F : Int) - F = vX E F b by omega, hm, hv]
  unfold wuQ sgZ
  by_cases h0 : exN E F b = 0
  · rw [if_pos h0, if_pos h0, if_pos h0]
    split
    · rw [Rat.intCast_neg, Rat.neg_mul]
    · rfl
  · rw [if_neg h0, if_neg h0, if_neg h0]
    have e : (((2 ^ F + frN F b : Nat) : Int) : Rat) = (((frN F b : Nat) : Int) : Rat) + p2 (F : Int) := by
      rw [p2_cast, ← Rat.intCast_add, Rat.intCast_inj]
      omega
    split
    · rw [Rat.intCast_neg, Rat.neg_mul, e]
    · rw [e]

theorem ln_word {x : Nat} (h : x < 18446744073709551616) : ln (((x : Nat) : Int) : Rat).num.natAbs ≤ 2 ∧ ln (((x : Nat) : Int) : Rat).den ≤ 2 := by
  rw [Rat.num_intCast, Rat.den_intCast, Int.natAbs_natCast]
  exact ⟨ln_small2 h, by rw [ln_one]; decide⟩

theorem ln_pow2 {n : Int} (h1 : -4000 ≤ n) (h2 : n ≤ 4000) : ln (p2 n).num.natAbs ≤ 200 ∧ ln (p2 n).den ≤ 200 := by
  obtain ⟨a, b⟩ := p2_parts n
  rw [a, b, Int.natAbs_natCast]
  have c := ln_two n.toNat
  have d := ln_two (-n).toNat
  omega

theorem ln_sum {x F : Nat} (h : x < 18446744073709551616) (hF : F ≤ 52) : ln ((((x : Nat) : Int) : Rat) + p2 (F : Int)).num.natAbs ≤ 4 ∧ ln ((((x : Nat) : Int) : Rat) + p2 (F : Int)).den ≤ 4 := by
  have e : (((x : Nat) : Int) : Rat) + p2 (F : Int) = (((x + 2 ^ F : Nat) : Int) : Rat) := by
    rw [p2_cast, ← Rat.intCast_add, Rat.intCast_inj]
    omega
  rw [e, Rat.num_intCast, Rat.den_intCast, Int.natAbs_natCast]
  have h1 := ln_add' x (2 ^ F)
  have h2 := ln_two F
  have h3 : ln x ≤ 2 := ln_small2 h
  have h4 := ln_one
  have h5 : ln (2 ^ F) ≤ 2 := by omega
  refine ⟨?_, by omega⟩
  have h6 : x + 2 ^ F < 4294967296 ^ 3 := by
    have : 2 ^ F ≤ 2 ^ 52 := Nat.pow_le_pow_right (by decide) hF
    have e3 : (4294967296 : Nat) ^ 3 = 79228162514264337593543950336 := by decide
    omega
  have := ln_le h6
  omega

theorem class_nan {e f b : Nat} (hxm : exN e f b = maskN e) (he : 2 ≤ e) (hf0 : frN f b ≠ 0) : classN e (exN e f b) (frN f b) = 5 := by
  have h : maskN e ≠ 0 := by
    have := pw_le he
    rw [show pw 2 = 4 by unfold pw; rfl] at this
    rw [maskN_eq]
    omega
  unfold classN
  rw [hxm, if_neg h, if_pos rfl, if_neg hf0]

theorem class_inf {e f b : Nat} (hxm : exN e f b = maskN e) (he : 2 ≤ e) (hf0 : frN f b = 0) : classN e (exN e f b) (frN f b) = 4 := by
  have h : maskN e ≠ 0 := by
    have := pw_le he
    rw [show pw 2 = 4 by unfold pw; rfl] at this
    rw [maskN_eq]
    omega
  unfold classN
  rw [hxm, if_neg h, if_pos rfl, if_pos hf0]

theorem class_finite {e f b : Nat} (hxm : exN e f b ≠ maskN e) : classN e (exN e f b) (frN f b) ≠ 5 ∧ classN e (exN e f b) (frN f b) ≠ 4 := by
  unfold classN
  rw [if_neg hxm]
  repeat' split
  all_goals exact ⟨by decide, by decide⟩

/-- Quiet, as the program reckons it. -/
theorem quiet_turn {f b : Nat} (hf : 1 ≤ f) (hf2 : f ≤ 52) (hb : b < 18446744073709551616) :
    (bits .and .u64 (b : Int) (maskN f : Int) != bits .and .u64 (bits .and .u64 (b : Int) (maskN f : Int)) (maskN (f - 1) : Int)) = quB f b := by
  have h1 := and_mask (b := b) (sz := f) (by omega) hb
  have hlt : b % pw f < pw f := Nat.mod_lt _ (pw_pos f)
  have hp : pw f = 2 * pw (f - 1) := by
    obtain ⟨k, rfl⟩ : ∃ k, f = k + 1 := ⟨f - 1, by omega⟩
    rw [pw_succ]
    rfl
  have hle := pw_le (show f ≤ 52 from hf2)
  rw [show pw 52 = 4503599627370496 by unfold pw; rfl] at hle
  rw [h1, and_mask (by omega) (by omega)]
  have hfr : frN f b = b % pw f := by unfold frN takeN; rw [pw_zero, Nat.div_one]
  unfold quB
  rw [hfr]
  have hpos := pw_pos (f - 1)
  generalize b % pw f = r at *
  generalize pw (f - 1) = P at *
  by_cases hr : r < P
  · rw [Nat.mod_eq_of_lt hr, Nat.div_eq_of_lt hr]
    simp
  · have hd : r / P = 1 := Nat.div_eq_of_lt_le (by omega) (by omega)
    have hmod : r % P = r - P := by rw [Nat.mod_eq_sub_mod (by omega), Nat.mod_eq_of_lt (by omega)]
    rw [hd, hmod]
    simp
    omega

end Go.Proofs.YtklibjdhlmdkpaaGreatDoor

/-
  Contract of numeral/numeralref05: Dyadic. (Printed by wip/gen/dyadic5.py.)
-/
namespace Go.Proofs.YtklibjdhlmdkpaaGreatDoor

open Go.RowKit Go.Lb

attribute [local go_sem] Go.World.cell?_alloc_some

theorem form_yes {e f : Int} (hf : formE e f = 0) : formB e f = true := by
  unfold formE at hf
  cases hh : formB e f
  · rw [if_neg (by rw [hh]; decide)] at hf; exact absurd hf (by decide)
  · rfl

theorem form_not {e f : Int} (hf : formE e f = 5) : formB e f = false := by
  unfold formE at hf
  cases hh : formB e f
  · rfl
  · rw [if_pos hh] at hf; exact absurd hf (by decide)

end Go.Proofs.YtklibjdhlmdkpaaGreatDoor

