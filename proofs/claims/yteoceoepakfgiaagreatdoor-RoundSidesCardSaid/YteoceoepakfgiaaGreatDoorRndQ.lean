/-
  Plain: rounding does not change where both are multiplied (fl_same); a number far beyond all floats, or far below them, rounds alike whatever its power (sg_near). No program in sight. Plain: a fraction in its lowest terms, out of its sign and two numbers (mk_low); a fraction times a power of ten, across (tn_cross). No program in sight.
-/
import Derived.Test.YteoceoepakfgiaaGreatDoorRndN
import Derived.Test.YteoceoepakfgiaaGreatDoorRdD
namespace Go.Proofs.YteoceoepakfgiaaGreatDoor
open Go.RowKit Go.Lb

theorem sgM_same {E F N D N' D' : Nat} (hN : N ≠ 0) (hD : D ≠ 0) (hN' : N' ≠ 0) (hD' : D' ≠ 0) (h : N * D' = N' * D) (neg : Bool) (m : Nat) : sgM E F N D neg m = sgM E F N' D' neg m := by
  unfold sgM lwE
  rw [lgE_same hN hD hN' hD' h]
  exact rd_same (scD_pos (Nat.pos_of_ne_zero hD) _) (scD_pos (Nat.pos_of_ne_zero hD') _) (sc_cross h _) neg m

theorem sgX_same {E F N D N' D' : Nat} (hN : N ≠ 0) (hD : D ≠ 0) (hN' : N' ≠ 0) (hD' : D' ≠ 0) (h : N * D' = N' * D) : sgX E F N D = sgX E F N' D' := by
  unfold sgX lwE
  rw [lgE_same hN hD hN' hD' h]
  exact ex_same (scD_pos (Nat.pos_of_ne_zero hD) _) (scD_pos (Nat.pos_of_ne_zero hD') _) (sc_cross h _)

theorem sgK_same {F N D N' D' : Nat} (hN : N ≠ 0) (hD : D ≠ 0) (hN' : N' ≠ 0) (hD' : D' ≠ 0) (h : N * D' = N' * D) (neg : Bool) (m : Nat) : sgK F N D neg m = sgK F N' D' neg m := by
  unfold sgK
  rw [lgE_same hN hD hN' hD' h]
  exact rd_same (scD_pos (Nat.pos_of_ne_zero hD) _) (scD_pos (Nat.pos_of_ne_zero hD') _) (sc_cross h _) neg m

theorem fl_same {E F N D N' D' : Nat} (hN : N ≠ 0) (hD : D ≠ 0) (hN' : N' ≠ 0) (hD' : D' ≠ 0) (h : N * D' = N' * D) (neg : Bool) (m : Nat) : flB E F N D neg m = flB E F N' D' neg m ∧ flG E F N D neg m = flG E F N' D' neg m := by
  have h1 := sgM_same (E := E) (F := F) hN hD hN' hD' h neg m
  have h2 := sgX_same (E := E) (F := F) hN hD hN' hD' h
  have h3 := sgK_same (F := F) hN hD hN' hD' h neg m
  have h4 := lgE_same hN hD hN' hD' h
  have h5 : lwE E N D = lwE E N' D' := by unfold lwE; rw [h4]
  have h6 : Lb.sgB E F N D neg m = Lb.sgB E F N' D' neg m := by unfold Lb.sgB; rw [h1, h5]
  have h7 : ovB E F N D neg m = ovB E F N' D' neg m := by unfold ovB; rw [h6, h5]
  have h8 : tiny E F N D neg m = tiny E F N' D' neg m := by unfold tiny; rw [h4, h3]
  constructor
  · unfold flB; rw [h7, h6]
  · unfold flG; rw [h7, h2, h8]

theorem sgs_same {E F N D N' D' : Nat} (hD : D ≠ 0) (hD' : D' ≠ 0) (h : N * D' = N' * D) (s neg : Bool) (m : Nat) : sgBits E F N D s neg m = sgBits E F N' D' s neg m ∧ sgFlags E F N D s m = sgFlags E F N' D' s m := by
  by_cases hN : N = 0
  · have hN' : N' = 0 := by
      rw [hN, Nat.zero_mul] at h
      rcases Nat.mul_eq_zero.1 h.symm with h1 | h1
      · exact h1
      · exact absurd h1 hD
    rw [hN, hN']
    exact ⟨rfl, rfl⟩
  · have hN' : N' ≠ 0 := by
      intro hh
      rw [hh, Nat.zero_mul] at h
      rcases Nat.mul_eq_zero.1 h with h1 | h1
      · exact hN h1
      · exact hD' h1
    obtain ⟨h1, h2⟩ := fl_same (E := E) (F := F) hN hD hN' hD' h s m
    unfold sgBits sgFlags
    rw [if_neg hN, if_neg hN', if_neg hN, if_neg hN', h1, h2]
    exact ⟨rfl, rfl⟩

theorem lg_near (N D : Nat) : (blN N : Int) - blN D - 1 ≤ lgE N D ∧ lgE N D ≤ (blN N : Int) - blN D := by
  unfold lgE
  split <;> omega

theorem bs_leQ {E : Nat} (h1 : 2 ≤ E) (h2 : E ≤ 11) : 1 ≤ bsN E ∧ bsN E ≤ 1023 := by
  unfold bsN
  have h3 : 2 ^ 1 ≤ 2 ^ (E - 1) := Nat.pow_le_pow_right (by decide) (by omega)
  have h4 : 2 ^ (E - 1) ≤ 2 ^ 10 := Nat.pow_le_pow_right (by decide) (by omega)
  omega

theorem fl_up {E F N D : Nat} (h2 : 2 ≤ E) (h11 : E ≤ 11) (h : 1024 ≤ lgE N D) (neg : Bool) (m : Nat) : flB E F N D neg m = (if stayB neg m = true then infN E F - 1 else infN E F) ∧ flG E F N D neg m = 3 := by
  obtain ⟨_, hb⟩ := bs_leQ h2 h11
  have ho : ovB E F N D neg m = true := decide_eq_true (.inl (by unfold lwE; omega))
  unfold flB flG
  rw [if_pos ho, if_pos ho]
  exact ⟨rfl, rfl⟩

theorem rd_far {A B : Nat} (hA : A ≠ 0) (h : 2 * A < B) (neg : Bool) (m : Nat) : rdN A B neg m = (if mdB m neg false (-1) = true then 1 else 0) ∧ exB A B = false := by
  have e1 : A % B = A := Nat.mod_eq_of_lt (by omega)
  have e2 : A / B = 0 := Nat.div_eq_of_lt (by omega)
  have e3 : cmpN (2 * A) B = -1 := by unfold cmpN; rw [if_pos h]
  unfold rdN exB
  rw [e1, if_neg hA, e2, e3, Nat.zero_add]
  exact ⟨rfl, decide_eq_false hA⟩

theorem sc_far {N D : Nat} (hN : N ≠ 0) (hD : D ≠ 0) {k : Int} (h : lgE N D + k ≤ -2) : scN N k ≠ 0 ∧ 2 * scN N k < scD D k := by
  obtain ⟨d, hd⟩ : ∃ d : Nat, -lgE N D = k + (d + 2 : Nat) := ⟨(-lgE N D - k - 2).toNat, by omega⟩
  have hs := sc_step N D k (d + 2)
  rw [← hd] at hs
  have hp := scD_pos (Nat.pos_of_ne_zero hD) k
  have hp2 := scD_pos (Nat.pos_of_ne_zero hD) (-lgE N D)
  have hl := (lg_spec hN hD).2
  refine ⟨Nat.ne_of_gt (scN_pos (Nat.pos_of_ne_zero hN) k), ?_⟩
  generalize scN N k = A at hs ⊢
  generalize scD D k = B at hs hp ⊢
  generalize scD D (-lgE N D) = G at hs hp2 hl
  have h1 : A * 2 ^ (d + 2) * G < 2 * B * G := by
    rw [← hs, Nat.mul_comm _ B, Nat.mul_comm (2 * B), Nat.mul_comm 2 B, ← Nat.mul_assoc, Nat.mul_comm G B, Nat.mul_assoc, Nat.mul_comm G 2]
    exact Nat.mul_lt_mul_of_pos_left hl hp
  have h2 := Nat.lt_of_mul_lt_mul_right h1
  have h3 := Nat.two_pow_pos d
  have h4 : A * 4 ≤ A * 2 ^ (d + 2) := Nat.mul_le_mul_left A (by rw [Nat.pow_add]; omega)
  omega

theorem fl_dn {E F N D : Nat} (h2 : 2 ≤ E) (h11 : E ≤ 11) (h1 : 1 ≤ F) (h52 : F ≤ 52) (hN : N ≠ 0) (hD : D ≠ 0) (h : lgE N D ≤ -1150) (neg : Bool) (m : Nat) : flB E F N D neg m = (if mdB m neg false (-1) = true then 1 else 0) ∧ flG E F N D neg m = 5 := by
  obtain ⟨hb1, hb2⟩ := bs_leQ h2 h11
  have hw : lwE E N D = 1 - (bsN E : Int) := by unfold lwE; omega
  obtain ⟨c1, c2⟩ := sc_far hN hD (k := (F : Int) - lwE E N D) (by omega)
  obtain ⟨r1, r2⟩ := rd_far c1 c2 neg m
  have hM : sgM E F N D neg m = (if mdB m neg false (-1) = true then 1 else 0) := r1
  have hX : sgX E F N D = false := r2
  have hB : Lb.sgB E F N D neg m = (if mdB m neg false (-1) = true then 1 else 0) := by
    unfold Lb.sgB
    rw [hM, hw, show (1 - (bsN E : Int) + bsN E - 1).toNat = 0 by omega, Nat.zero_mul, Nat.add_zero]
  have hi : 2 ≤ infN E F := by
    unfold infN
    have h3 : 2 ^ (2 + F) ≤ 2 ^ (E + F) := Nat.pow_le_pow_right (by decide) (by omega)
    have h4 : 2 ^ 1 ≤ 2 ^ F := Nat.pow_le_pow_right (by decide) h1
    rw [Nat.pow_add] at h3
    omega
  have ho : ¬ ovB E F N D neg m = true := by
    unfold ovB
    rw [decide_eq_true_iff, hB, hw]
    split <;> omega
  have ht : tiny E F N D neg m = true := decide_eq_true ⟨by omega, .inl (by omega)⟩
  unfold flB flG
  rw [if_neg ho, if_neg ho, hB, hX, if_pos ht]
  exact ⟨rfl, rfl⟩

theorem bl_ge {M k : Nat} (h : 2 ^ k ≤ M) : k + 1 ≤ blN M := by
  have hM : M ≠ 0 := fun hh => by have := Nat.two_pow_pos k; omega
  have := bl_iff hM k
  omega

theorem bl_pow {M t : Nat} (hM : M ≠ 0) (ht : 2 ≤ t) (k : Nat) : k + 1 ≤ blN (M * t ^ k) := by
  refine bl_ge (Nat.le_trans (Nat.pow_le_pow_left ht k) ?_)
  exact Nat.le_mul_of_pos_left _ (Nat.pos_of_ne_zero hM)

/-- A power brought near rounds alike, however near. -/
theorem sg_near {t E F N D b : Nat} (ht : 2 ≤ t) (h2 : 2 ≤ E) (h11 : E ≤ 11) (h1 : 1 ≤ F) (h52 : F ≤ 52) (hD : D ≠ 0) (hb : blN N + blN D ≤ b + 1) {z z' : Int} (hz : z = z' ∨ ((b : Int) + 1200 ≤ z ∧ (b : Int) + 1200 ≤ z') ∨ (z ≤ -(b : Int) - 1200 ∧ z' ≤ -(b : Int) - 1200)) (s neg : Bool) (m : Nat) :
    sgBits E F (N * t ^ z.toNat) (D * t ^ (-z).toNat) s neg m = sgBits E F (N * t ^ z'.toNat) (D * t ^ (-z').toNat) s neg m ∧ sgFlags E F (N * t ^ z.toNat) (D * t ^ (-z).toNat) s m = sgFlags E F (N * t ^ z'.toNat) (D * t ^ (-z').toNat) s m := by
  have hp : ∀ k, t ^ k ≠ 0 := fun k => Nat.ne_of_gt (Nat.pow_pos (by omega))
  by_cases hN : N = 0
  · subst hN
    rw [Nat.zero_mul, Nat.zero_mul]
    exact ⟨rfl, rfl⟩
  rcases hz with rfl | ⟨z1, z2⟩ | ⟨z1, z2⟩
  · exact ⟨rfl, rfl⟩
  · have key : ∀ k : Nat, b + 1200 ≤ k → 1024 ≤ lgE (N * t ^ k) (D * t ^ 0) := fun k hk => by
      have l1 := bl_pow hN ht k
      have l2 := (lg_near (N * t ^ k) (D * t ^ 0)).1
      rw [Nat.pow_zero, Nat.mul_one] at l2 ⊢
      have := (bl_spec hN).1
      omega
    have e1 : (-z).toNat = 0 := by omega
    have e2 : (-z').toNat = 0 := by omega
    rw [e1, e2]
    obtain ⟨a1, a2⟩ := fl_up (F := F) h2 h11 (key z.toNat (by omega)) s m
    obtain ⟨b1, b2⟩ := fl_up (F := F) h2 h11 (key z'.toNat (by omega)) s m
    have n1 : N * t ^ z.toNat ≠ 0 := Nat.mul_ne_zero hN (hp _)
    have n2 : N * t ^ z'.toNat ≠ 0 := Nat.mul_ne_zero hN (hp _)
    unfold sgBits sgFlags
    rw [if_neg n1, if_neg n2, if_neg n1, if_neg n2, a1, a2, b1, b2]
    exact ⟨rfl, rfl⟩
  · have key : ∀ k : Nat, b + 1200 ≤ k → lgE (N * t ^ 0) (D * t ^ k) ≤ -1150 := fun k hk => by
      have l1 := bl_pow hD ht k
      have l2 := (lg_near (N * t ^ 0) (D * t ^ k)).2
      rw [Nat.pow_zero, Nat.mul_one] at l2 ⊢
      have := (bl_spec hD).1
      omega
    have e1 : z.toNat = 0 := by omega
    have e2 : z'.toNat = 0 := by omega
    rw [e1, e2]
    have n0 : N * t ^ 0 ≠ 0 := by rw [Nat.pow_zero, Nat.mul_one]; exact hN
    obtain ⟨a1, a2⟩ := fl_dn h2 h11 h1 h52 n0 (Nat.mul_ne_zero hD (hp _)) (key (-z).toNat (by omega)) s m
    obtain ⟨b1, b2⟩ := fl_dn h2 h11 h1 h52 n0 (Nat.mul_ne_zero hD (hp _)) (key (-z').toNat (by omega)) s m
    unfold sgBits sgFlags
    rw [if_neg n0, if_neg n0, a1, a2, b1, b2]
    exact ⟨rfl, rfl⟩

end Go.Proofs.YteoceoepakfgiaaGreatDoor

namespace Go.Proofs.YteoceoepakfgiaaGreatDoor
open Go.RowKit Go.Lb

/-- A fraction of a sign and two numbers. -/
def sgQ' (s : Bool) (N D : Nat) : Rat := mkRat (if s = true then -(N : Int) else (N : Int)) D

theorem mk_low {s : Bool} {N D : Nat} (hD : D ≠ 0) (hG : Nat.gcd N D = 1) (hs : s = true → N ≠ 0) : (sgQ' s N D).num.natAbs = N ∧ (sgQ' s N D).den = D ∧ decide ((sgQ' s N D).num < 0) = s := by
  have hz : (if s = true then -(N : Int) else (N : Int)).natAbs = N := by cases s <;> simp
  obtain ⟨e1, e2, e3⟩ := mk_parts (if s = true then -(N : Int) else (N : Int)) hD
  rw [hz, hG, Nat.div_one] at e1 e2
  refine ⟨e1, e2, Eq.trans e3 ?_⟩
  cases s
  · exact decide_eq_false (by simp)
  · have := hs rfl
    exact decide_eq_true (by simp; omega)

/-- Ten to the power of k. -/
def tenQ (k : Nat) : Rat := (((10 ^ k : Nat) : Int) : Rat)
/-- A fraction times 10 to the power of n. -/
def tnQ (x : Rat) (n : Int) : Rat := if n < 0 then x / tenQ n.natAbs else x * tenQ n.natAbs

theorem tenQ_parts (k : Nat) : (tenQ k).num = ((10 ^ k : Nat) : Int) ∧ (tenQ k).den = 1 := by
  unfold tenQ
  exact ⟨Rat.num_intCast _, Rat.den_intCast _⟩

theorem tenQ_ne (k : Nat) : tenQ k ≠ 0 := fun h => by
  have h1 := (tenQ_parts k).1
  rw [h] at h1
  have h2 : (10 : Nat) ^ k ≠ 0 := Nat.ne_of_gt (Nat.pow_pos (by decide))
  have : ((0 : Rat)).num = 0 := rfl
  omega

theorem nzB_mul (x : Int) {k : Nat} (hk : k ≠ 0) : nzB (decide (x < 0)) (x.natAbs * k) = decide (x < 0) := by
  unfold nzB
  by_cases h : x < 0
  · rw [decide_eq_true h, Bool.true_and]
    exact decide_eq_true (Nat.mul_ne_zero (by omega) hk)
  · rw [decide_eq_false h, Bool.false_and]

theorem tn_mk (x : Rat) (n : Int) : tnQ x n = mkRat (sgv (decide (x.num < 0)) (x.num.natAbs * 10 ^ n.toNat)) (x.den * 10 ^ (-n).toNat) := by
  obtain ⟨p1, p2⟩ := tenQ_parts n.natAbs
  have hnn : decide ((tenQ n.natAbs).num < 0) = false := decide_eq_false (by rw [p1]; exact Int.not_lt.2 (Int.natCast_nonneg _))
  unfold tnQ
  by_cases h : n < 0
  · rw [if_pos h, ← quo_mk _ _ (tenQ_ne _), hnn, p1, p2, Int.natAbs_natCast, Bool.bne_false, show n.toNat = 0 by omega, show (-n).toNat = n.natAbs by omega, Nat.pow_zero]
  · rw [if_neg h, ← mul_mk, hnn, p1, p2, Int.natAbs_natCast, Bool.bne_false, show (-n).toNat = 0 by omega, show n.toNat = n.natAbs by omega, Nat.pow_zero]

theorem tn_cross (x : Rat) (n : Int) : (tnQ x n).num.natAbs * (x.den * 10 ^ (-n).toNat) = x.num.natAbs * 10 ^ n.toNat * (tnQ x n).den ∧ decide ((tnQ x n).num < 0) = decide (x.num < 0) := by
  have hp : ∀ k, (10 : Nat) ^ k ≠ 0 := fun k => Nat.ne_of_gt (Nat.pow_pos (by decide))
  have hD : x.den * 10 ^ (-n).toNat ≠ 0 := Nat.mul_ne_zero x.den_nz (hp _)
  have h1 := mk_cross (sgv (decide (x.num < 0)) (x.num.natAbs * 10 ^ n.toNat)) hD
  obtain ⟨a1, a2⟩ := sgv_abs (decide (x.num < 0)) (x.num.natAbs * 10 ^ n.toNat)
  have h2 := (mk_parts (sgv (decide (x.num < 0)) (x.num.natAbs * 10 ^ n.toNat)) hD).2.2
  rw [a1] at h1
  rw [tn_mk]
  refine ⟨h1, ?_⟩
  rw [h2, a2, nzB_mul _ (hp _)]

theorem tn_len (x : Rat) (n : Int) : ln (tnQ x n).num.natAbs ≤ ln x.num.natAbs + (n.natAbs + 1) ∧ ln (tnQ x n).den ≤ ln x.den + (n.natAbs + 1) := by
  have hp : ∀ k, (10 : Nat) ^ k ≠ 0 := fun k => Nat.ne_of_gt (Nat.pow_pos (by decide))
  have hD : x.den * 10 ^ (-n).toNat ≠ 0 := Nat.mul_ne_zero x.den_nz (hp _)
  have hl : ∀ k, ln (10 ^ k) ≤ k + 1 := fun k => by
    have := ln_pow 10 k
    have h10 : ln 10 ≤ 1 := ln_small (by decide)
    have := Nat.mul_le_mul_left k h10
    omega
  obtain ⟨h1, h2⟩ := mk_len (sgv (decide (x.num < 0)) (x.num.natAbs * 10 ^ n.toNat)) hD
  rw [(sgv_abs _ _).1] at h1
  rw [tn_mk]
  have m1 := ln_mul x.num.natAbs (10 ^ n.toNat)
  have m2 := ln_mul x.den (10 ^ (-n).toNat)
  have k1 := hl n.toNat
  have k2 := hl (-n).toNat
  omega

end Go.Proofs.YteoceoepakfgiaaGreatDoor
