/-
  Plain: rounding does not change where both are multiplied (fl_same); a number far beyond all floats, or far below them, rounds alike whatever its power (sg_near). No program in sight. Plain: a fraction in its lowest terms, out of its sign and two numbers (mk_low); a fraction times a power of ten, across (tn_cross). No program in sight.
-/
import Derived.Test.YtgdhleiokfaeoaaGreatDoorQRndN
import Derived.Test.YtgdhleiokfaeoaaGreatDoorQRdD
namespace Go.Proofs.YtgdhleiokfaeoaaGreatDoor

open Go.RowKit Go.Lb

theorem sgM_same {E F N D N' D' : Nat} (hN : N ≠ 0) (hD : D ≠ 0) (hN' : N' ≠ 0) (hD' : D' ≠ 0) (h : N * D' = N' * D) (neg : Bool) (m : Nat) : sgM E F N D neg m = sgM E F N' D' neg m := by
  unfold sgM lwE
  rw [lgE_same hN hD hN' hD' h]
  exact rd_same (scD_pos (Nat.pos_of_ne_zero hD) _) (scD_pos (Nat.pos_of_ne_zero hD') _) (sc_cross h _) neg m

theorem sgX_same {E F N D N' D' : Nat} (hN : N ≠ 0) (hD : D ≠ 0) (hN' : N' ≠ 0) (hD' : D' ≠ 0) (h : N * D' = N' * D) : sgX E F N D = sgX E F N' D' := by
  unfold sgX lwE
  rw [lgE_same hN hD hN' hD' h]
  exact ex_same (scD_pos (Nat.pos_of_ne_zero hD) _) (scD_pos (Nat.pos_of_ne_zero hD') _) (sc_cross h _)

theorem sgK_same {F N D N' D' : Nat} (hN : N ≠ 0) (hD : D ≠ 0) (hN' : N' ≠ 0) (hD' : D' ≠ 0) (h : N * D' = N' * D) (neg : Bool) (m : Nat) : sgK F N D neg m = sgK F N' D' neg m := by
  unfold sgK
  rw [lgE_same hN hD hN' hD' h]
  exact rd_same (scD_pos (Nat.pos_of_ne_zero hD) _) (scD_pos (Nat.pos_of_ne_zero hD') _) (sc_cross h _) neg m

theorem fl_same {E F N D N' D' : Nat} (hN : N ≠ 0) (hD : D ≠ 0) (hN' : N' ≠ 0) (hD' : D' ≠ 0) (h : N * D' = N' * D) (neg : Bool) (m : Nat) : flB E F N D neg m = flB E F N' D' neg m ∧ flG E F N D neg m = flG E F N' D' neg m := by
  have h1 := sgM_same (E := E) (F := F) hN hD hN' hD' h neg m
  have h2 := sgX_same (E := E) (F := F) hN hD hN' hD' h
  have h3 := sgK_same (F := F) hN hD hN' hD' h neg m
  have h4 := lgE_same hN hD hN' hD' h
  have h5 : lwE E N D = lwE E N' D' := by unfold lwE; rw [h4]
  have h6 : Lb.sgB E F N D neg m = Lb.sgB E F N' D' neg m := by unfold Lb.sgB; rw [h1, h5]
  have h7 : ovB E F N D neg m = ovB E F N' D' neg m := by unfold ovB; rw [h6, h5]
  have h8 : tiny E F N D neg m = tiny E F N' D' neg m := by unfold tiny; rw [h4, h3]
  constructor
  · unfold flB; rw [h7, h6]
  · unfold flG; rw [h7, h2, h8]

theorem sgs_same {E F N D N' D' : Nat} (hD : D ≠ 0) (hD' : D' ≠ 0) (h : N * D' = N' * D) (s neg : Bool) (m : Nat) : sgBits E F N D s neg m = sgBits E F N' D' s neg m ∧ sgFlags E F N D s m = sgFlags E F N' D' s m := by
  by_cases hN : N = 0
  · have hN' : N' = 0 := by
      rw [hN, Nat.zero_mul] at h
      rcases Nat.mul_eq_zero.1 h.symm with h1 | h1
      · exact h1
      · exact absurd h1 hD
    rw [hN, hN']
    exact ⟨rfl, rfl⟩
  · have hN' : N' ≠ 0 := by
      intro hh
      rw [hh, Nat.zero_mul] at h
      rcases Nat.mul_eq_zero.1 h with h1 | h1
      · exact hN h1
      · exact hD' h1
    obtain ⟨h1, h2⟩ := fl_same (E := E) (F := F) hN hD hN' hD' h s m
    unfold sgBits sgFlags
    rw [if_neg hN, if_neg hN', if_neg hN, if_neg hN', h1, h2]
    exact ⟨rfl, rfl⟩

end Go.Proofs.YtgdhleiokfaeoaaGreatDoor

namespace Go.Proofs.YtgdhleiokfaeoaaGreatDoor

open Go.RowKit Go.Lb

/-- A fraction of a sign and two numbers. -/
def sgQ' (s : Bool) (N D : Nat) : Rat := mkRat (if s = true then -(N : Int) else (N : Int)) D

theorem mk_low {s : Bool} {N D : Nat} (hD : D ≠ 0) (hG : Nat.gcd N D = 1) (hs : s = true → N ≠ 0) : (sgQ' s N D).num.natAbs = N ∧ (sgQ' s N D).den = D ∧ decide ((sgQ' s N D).num < 0) = s := by
  have hz : (if s = true then -(N : Int) else (N : Int)).natAbs = N := by cases s <;> simp
  obtain ⟨e1, e2, e3⟩ := mk_parts (if s = true then -(N : Int) else (N : Int)) hD
  rw [hz, hG, Nat.div_one] at e1 e2
  refine ⟨e1, e2, Eq.trans e3 ?_⟩
  cases s
  · exact decide_eq_false (by simp)
  · have := hs rfl
    exact decide_eq_true (by simp; omega)

/-- Ten to the power of k. -/
def tenQ (k : Nat) : Rat := (((10 ^ k : Nat) : Int) : Rat)

/-- A fraction times 10 to the power of n. -/
def tnQ (x : Rat) (n : Int) : Rat := if n < 0 then x / tenQ n.natAbs else x * tenQ n.natAbs

theorem tenQ_parts (k : Nat) : (tenQ k).num = ((10 ^ k : Nat) : Int) ∧ (tenQ k).den = 1 := by
  unfold tenQ
  exact ⟨Rat.num_intCast _, Rat.den_intCast _⟩

theorem tenQ_ne (k : Nat) : tenQ k ≠ 0 := fun h => by
  have h1 := (tenQ_parts k).1
  rw [h] at h1
  have h2 : (10 : Nat) ^ k ≠ 0 := Nat.ne_of_gt (Nat.pow_pos (by decide))
  have : ((0 : Rat)).num = 0 := rfl
  omega

theorem nzB_mul (x : Int) {k : Nat} (hk : k ≠ 0) : nzB (decide (x < 0)) (x.natAbs * k) = decide (x < 0) := by
  unfold nzB
  by_cases h : x < 0
  · rw [decide_eq_true h, Bool.true_and]
    exact decide_eq_true (Nat.mul_ne_zero (by omega) hk)
  · rw [decide_eq_false h, Bool.false_and]

theorem tn_mk (x : Rat) (n : Int) : tnQ x n = mkRat (sgv (decide (x.num < 0)) (x.num.natAbs * 10 ^ n.toNat)) (x.den * 10 ^ (-n).toNat) := by
  obtain ⟨p1, p2⟩ := tenQ_parts n.natAbs
  have hnn : decide ((tenQ n.natAbs).num < 0) = false := decide_eq_false (by rw [p1]; exact Int.not_lt.2 (Int.natCast_nonneg _))
  unfold tnQ
  by_cases h : n < 0
  · rw [if_pos h, ← quo_mk _ _ (tenQ_ne _), hnn, p1, p2, Int.natAbs_natCast, Bool.bne_false, show n.toNat = 0 by omega, show (-n).toNat = n.natAbs by omega, Nat.pow_zero]
  · rw [if_neg h, ← mul_mk, hnn, p1, p2, Int.natAbs_natCast, Bool.bne_false, show (-n).toNat = 0 by omega, show n.toNat = n.natAbs by omega, Nat.pow_zero]

theorem tn_cross (x : Rat) (n : Int) : (tnQ x n).num.natAbs * (x.den * 10 ^ (-n).toNat) = x.num.natAbs * 10 ^ n.toNat * (tnQ x n).den ∧ decide ((tnQ x n).num < 0) = decide (x.num < 0) := by
  have hp : ∀ k, (10 : Nat) ^ k ≠ 0 := fun k => Nat.ne_of_gt (Nat.pow_pos (by decide))
  have hD : x.den * 10 ^ (-n).toNat ≠ 0 := Nat.mul_ne_zero x.den_nz (hp _)
  have h1 := mk_cross (sgv (decide (x.num < 0)) (x.num.natAbs * 10 ^ n.toNat)) hD
  obtain ⟨a1, a2⟩ := sgv_abs (decide (x.num < 0)) (x.num.natAbs * 10 ^ n.toNat)
  have h2 := (mk_parts (sgv (decide (x.num < 0)) (x.num.natAbs * 10 ^ n.toNat)) hD).2.2
  rw [a1] at h1
  rw [tn_mk]
  refine ⟨h1, ?_⟩
  rw [h2, a2, nzB_mul _ (hp _)]

theorem tn_len (x : Rat) (n : Int) : ln (tnQ x n).num.natAbs ≤ ln x.num.natAbs + (n.natAbs + 1) ∧ ln (tnQ x n).den ≤ ln x.den + (n.natAbs + 1) := by
  have hp : ∀ k, (10 : Nat) ^ k ≠ 0 := fun k => Nat.ne_of_gt (Nat.pow_pos (by decide))
  have hD : x.den * 10 ^ (-n).toNat ≠ 0 := Nat.mul_ne_zero x.den_nz (hp _)
  have hl : ∀ k, ln (10 ^ k) ≤ k + 1 := fun k => by
    have := ln_pow 10 k
    have h10 : ln 10 ≤ 1 := ln_small (by decide)
    have := Nat.mul_le_mul_left k h10
    omega
  obtain ⟨h1, h2⟩ := mk_len (sgv (decide (x.num < 0)) (x.num.natAbs * 10 ^ n.toNat)) hD
  rw [(sgv_abs _ _).1] at h1
  rw [tn_mk]
  have m1 := ln_mul x.num.natAbs (10 ^ n.toNat)
  have m2 := ln_mul x.den (10 ^ (-n).toNat)
  have k1 := hl n.toNat
  have k2 := hl (-n).toNat
  omega

end Go.Proofs.YtgdhleiokfaeoaaGreatDoor

