/-
  Plain: what turning asks of a float's bits, and what it answers. No program in sight.
-/
import Derived.Test.YtklibjdhlmdkpaaGreatDoorQTurBase
namespace Go.Proofs.YtklibjdhlmdkpaaGreatDoor

open Go.RowKit Go.Lb

/-- Is it no number? Is it infinite? Is one that is no number quiet? -/
def naB (e f b : Nat) : Bool := decide (exN e f b = maskN e ∧ frN f b ≠ 0)

def enB (e f b : Nat) : Bool := decide (exN e f b = maskN e ∧ frN f b = 0)

def quB (f b : Nat) : Bool := decide (frN f b / pw (f - 1) = 1)

/-- To's answers: the error; of floats that may be the bits and the flags. -/
def toE (e f g h : Int) (b m : Nat) : Int := if formE e f ≠ 0 ∨ formE g h ≠ 0 then 5 else if fitsE e f b ≠ 0 then 6 else if 4 < m then 7 else 0

def toB (E F G H b m : Nat) : Nat := if naB E F b = true then nanN G H else if enB E F b = true then joinN G H (sgB E F b) (maskN G) 0 else dyBits (G : Int) (H : Int) (valS (E : Int) (F : Int) b) (limbs (valN (E : Int) (F : Int) b)) (valX (E : Int) (F : Int) b) (sgB E F b) m

def toG (E F G H b m : Nat) : Nat := if naB E F b = true then (if quB F b = true then 0 else 16) else if enB E F b = true then 0 else dyFlags (G : Int) (H : Int) (valS (E : Int) (F : Int) b) (limbs (valN (E : Int) (F : Int) b)) (valX (E : Int) (F : Int) b) m

def toBi (e f g h : Int) (b m : Nat) : Nat := if toE e f g h b m = 0 then toB e.toNat f.toNat g.toNat h.toNat b m else 0

def toGi (e f g h : Int) (b m : Nat) : Nat := if toE e f g h b m = 0 then toG e.toNat f.toNat g.toNat h.toNat b m else 0

/-- A finite float's worth, rounded, by its own fraction or as a dyadic. -/
theorem dy_worth {E F G H b m : Nat} (hE : 2 ≤ E) (h11 : E ≤ 11) (hF : F ≤ 52) (hg : formE (G : Int) (H : Int) = 0) (h : fitsE (E : Int) (F : Int) b = 0) (hb : b < pw (1 + E + F)) (hx : exN E F b ≠ maskN E) (hm : m < 5) (neg : Bool) :
    dyErr (G : Int) (H : Int) (valS (E : Int) (F : Int) b) (limbs (valN (E : Int) (F : Int) b)) (valX (E : Int) (F : Int) b) m = 0 ∧
    dyBits (G : Int) (H : Int) (valS (E : Int) (F : Int) b) (limbs (valN (E : Int) (F : Int) b)) (valX (E : Int) (F : Int) b) neg m = sgBits G H (wrQ E F b).num.natAbs (wrQ E F b).den (decide ((wrQ E F b).num < 0)) neg m ∧
    dyFlags (G : Int) (H : Int) (valS (E : Int) (F : Int) b) (limbs (valN (E : Int) (F : Int) b)) (valX (E : Int) (F : Int) b) m = sgFlags G H (wrQ E F b).num.natAbs (wrQ E F b).den (decide ((wrQ E F b).num < 0)) m ∧
    ln (wrQ E F b).num.natAbs ≤ 34 ∧ ln (wrQ E F b).den ≤ 34 ∧ (limbs (valN (E : Int) (F : Int) b)).length ≤ 34 := by
  obtain ⟨_, n, X, s, v1, v2, v3, hd, hn, hX1, hX2, hG, hs, _⟩ := worth_facts (m := m) hE h11 hF h hb hx
  obtain ⟨l1, l2⟩ := up_small hn hX1 hX2
  obtain ⟨q1, q2, q3⟩ := mk_low (upD_pos X) hG hs
  have hln : ln n ≤ 34 := ln_le (Nat.lt_of_lt_of_le hn (by decide +kernel))
  unfold wrQ
  rw [v1, v2, v3, q1, q2, q3]
  obtain ⟨d1, d2, d3⟩ := dy_up hg hd hm hX1 hX2 neg
  exact ⟨d1, d2, d3, l1, l2, hln⟩

theorem class_nan {e f b : Nat} (hxm : exN e f b = maskN e) (he : 2 ≤ e) (hf0 : frN f b ≠ 0) : classN e (exN e f b) (frN f b) = 5 := by
  have h : maskN e ≠ 0 := by
    have := pw_le he
    rw [show pw 2 = 4 by unfold pw; rfl] at this
    rw [maskN_eq]
    omega
  unfold classN
  rw [hxm, if_neg h, if_pos rfl, if_neg hf0]

theorem class_inf {e f b : Nat} (hxm : exN e f b = maskN e) (he : 2 ≤ e) (hf0 : frN f b = 0) : classN e (exN e f b) (frN f b) = 4 := by
  have h : maskN e ≠ 0 := by
    have := pw_le he
    rw [show pw 2 = 4 by unfold pw; rfl] at this
    rw [maskN_eq]
    omega
  unfold classN
  rw [hxm, if_neg h, if_pos rfl, if_pos hf0]

theorem class_finite {e f b : Nat} (hxm : exN e f b ≠ maskN e) : classN e (exN e f b) (frN f b) ≠ 5 ∧ classN e (exN e f b) (frN f b) ≠ 4 := by
  unfold classN
  rw [if_neg hxm]
  repeat' split
  all_goals exact ⟨by decide, by decide⟩

/-- Quiet, as the program reckons it. -/
theorem quiet_turn {f b : Nat} (hf : 1 ≤ f) (hf2 : f ≤ 52) (hb : b < 18446744073709551616) :
    (bits .and .u64 (b : Int) (maskN f : Int) != bits .and .u64 (bits .and .u64 (b : Int) (maskN f : Int)) (maskN (f - 1) : Int)) = quB f b := by
  have h1 := and_mask (b := b) (sz := f) (by omega) hb
  have hlt : b % pw f < pw f := Nat.mod_lt _ (pw_pos f)
  have hp : pw f = 2 * pw (f - 1) := by
    obtain ⟨k, rfl⟩ : ∃ k, f = k + 1 := ⟨f - 1, by omega⟩
    rw [pw_succ]
    rfl
  have hle := pw_le (show f ≤ 52 from hf2)
  rw [show pw 52 = 4503599627370496 by unfold pw; rfl] at hle
  rw [h1, and_mask (by omega) (by omega)]
  have hfr : frN f b = b % pw f := by unfold frN takeN; rw [pw_zero, Nat.div_one]
  unfold quB
  rw [hfr]
  have hpos := pw_pos (f - 1)
  generalize b % pw f = r at *
  generalize pw (f - 1) = P at *
  by_cases hr : r < P
  · rw [Nat.mod_eq_of_lt hr, Nat.div_eq_of_lt hr]
    simp
  · have hd : r / P = 1 := Nat.div_eq_of_lt_le (by omega) (by omega)
    have hmod : r % P = r - P := by rw [Nat.mod_eq_sub_mod (by omega), Nat.mod_eq_of_lt (by omega)]
    rw [hd, hmod]
    simp
    omega

end Go.Proofs.YtklibjdhlmdkpaaGreatDoor

