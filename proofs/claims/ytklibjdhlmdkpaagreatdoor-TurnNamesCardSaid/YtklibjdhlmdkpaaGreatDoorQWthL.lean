/-
  Plain: a float's worth rounds to that float, by every mode, without a flag. No program in sight.
-/
import Derived.Test.YtklibjdhlmdkpaaGreatDoorQMN18
import Derived.Test.YtklibjdhlmdkpaaGreatDoorQRdD
namespace Go.Proofs.YtklibjdhlmdkpaaGreatDoor

open Go.RowKit Go.Lb

/-- M times 2 to the power of X, as a fraction. -/
def upN (M : Nat) (X : Int) : Nat := M * 2 ^ X.toNat

def upD (X : Int) : Nat := 2 ^ (-X).toNat

theorem upD_pos (X : Int) : upD X ≠ 0 := Nat.ne_of_gt (Nat.two_pow_pos _)

theorem upN_ne {M : Nat} (h : M ≠ 0) (X : Int) : upN M X ≠ 0 := Nat.mul_ne_zero h (Nat.ne_of_gt (Nat.two_pow_pos _))

theorem up_sc (M : Nat) (X : Int) (F j : Nat) (g : Int) (hg : g = X + F + j) : ∃ K, 0 < K ∧ scN (upN M X) (-g) = M * K ∧ scD (upD X) (-g) = 2 ^ (F + j) * K := by
  refine ⟨2 ^ (X.toNat + (-g).toNat), Nat.two_pow_pos _, ?_, ?_⟩
  · unfold scN upN
    rw [Nat.mul_assoc, ← Nat.pow_add]
  · unfold scD upD
    rw [← Nat.pow_add, ← Nat.pow_add]
    congr 1
    omega

theorem lg_up {M F : Nat} {X : Int} (h1 : 2 ^ F ≤ M) (h2 : M < 2 ^ (F + 1)) : lgE (upN M X) (upD X) = X + F := by
  have hp := Nat.two_pow_pos F
  have hM : M ≠ 0 := by omega
  refine lg_uniq (upD_pos X) (lg_spec (upN_ne hM X) (upD_pos X)) ?_
  obtain ⟨K, hK, e1, e2⟩ := up_sc M X F 0 (X + F) (by omega)
  unfold LgP
  rw [e1, e2, Nat.add_zero]
  refine ⟨Nat.mul_le_mul_right _ h1, ?_⟩
  rw [← Nat.mul_assoc]
  refine Nat.mul_lt_mul_of_pos_right ?_ hK
  rw [Nat.pow_succ] at h2
  omega

theorem lg_up_low {M F : Nat} {X : Int} (h0 : M ≠ 0) (h1 : M < 2 ^ F) : lgE (upN M X) (upD X) < X + F := by
  by_cases h : lgE (upN M X) (upD X) < X + F
  · exact h
  · exfalso
    obtain ⟨a, _⟩ := lg_spec (upN_ne h0 X) (upD_pos X)
    obtain ⟨K, hK, e1, e2⟩ := up_sc M X F (lgE (upN M X) (upD X) - (X + F)).toNat (lgE (upN M X) (upD X)) (by omega)
    rw [e1, e2] at a
    have := Nat.le_of_mul_le_mul_right a hK
    have h3 : 2 ^ F ≤ 2 ^ (F + (lgE (upN M X) (upD X) - (X + F)).toNat) := Nat.pow_le_pow_right (by decide) (by omega)
    omega

/-- A float's fields: e and r the exponent and the fraction, M and X its worth. -/
structure Flt (E F e r M : Nat) (X : Int) : Prop where
  hr : r < 2 ^ F
  he : e < 2 * bsN E + 1
  hm : M = if e = 0 then r else 2 ^ F + r
  hx : X = if e = 0 then 1 - (bsN E : Int) - F else (e : Int) - bsN E - F

theorem Flt.lw {E F e r M : Nat} {X : Int} (h : Flt E F e r M X) (h0 : M ≠ 0) : lwE E (upN M X) (upD X) = X + F := by
  have hr := h.hr
  have hm := h.hm
  have hx := h.hx
  unfold lwE
  by_cases he : e = 0
  · rw [if_pos he] at hm hx
    have := lg_up_low (X := X) h0 (by omega : M < 2 ^ F)
    omega
  · rw [if_neg he] at hm hx
    have := lg_up (F := F) (M := M) (X := X) (by omega) (by rw [Nat.pow_succ]; omega)
    omega

theorem Flt.sc {E F e r M : Nat} {X : Int} (h : Flt E F e r M X) (h0 : M ≠ 0) : ∃ K, 0 < K ∧ scN (upN M X) (F - lwE E (upN M X) (upD X)) = M * K ∧ scD (upD X) (F - lwE E (upN M X) (upD X)) = K := by
  rw [h.lw h0, show (F : Int) - (X + F) = -X by omega]
  refine ⟨2 ^ (X.toNat + (-X).toNat), Nat.two_pow_pos _, ?_, ?_⟩
  · unfold scN upN
    rw [Nat.mul_assoc, ← Nat.pow_add]
  · unfold scD upD
    rw [← Nat.pow_add]
    congr 1
    omega

theorem rd_whole (M : Nat) {K : Nat} (hK : 0 < K) (neg : Bool) (m : Nat) : rdN (M * K) K neg m = M ∧ exB (M * K) K = true := by
  constructor
  · unfold rdN
    rw [if_pos (Nat.mul_mod_left M K), Nat.mul_div_cancel _ hK]
  · unfold exB
    exact decide_eq_true (Nat.mul_mod_left M K)

theorem inf_eq {E : Nat} (hE : 2 ≤ E) (F : Nat) : infN E F = (2 * bsN E + 1) * 2 ^ F := by
  unfold infN bsN
  have h1 : 2 ^ E = 2 * 2 ^ (E - 1) := by
    rw [show 2 * 2 ^ (E - 1) = 2 ^ (E - 1) * 2 by omega, ← Nat.pow_succ]
    congr 1
    omega
  have := Nat.two_pow_pos (E - 1)
  rw [Nat.pow_add, h1, show 2 * (2 ^ (E - 1) - 1) + 1 = 2 * 2 ^ (E - 1) - 1 by omega, Nat.sub_mul, Nat.one_mul]

theorem Flt.bits {E F e r M : Nat} {X : Int} (h : Flt E F e r M X) (hE : 2 ≤ E) (h0 : M ≠ 0) (neg : Bool) (m : Nat) :
    flB E F (upN M X) (upD X) neg m = e * 2 ^ F + r ∧ flG E F (upN M X) (upD X) neg m = 0 := by
  obtain ⟨K, hK, k1, k2⟩ := h.sc h0
  obtain ⟨q1, q2⟩ := rd_whole M hK neg m
  have hlw := h.lw h0
  have hr := h.hr
  have hm := h.hm
  have hx := h.hx
  have he := h.he
  have hM : sgM E F (upN M X) (upD X) neg m = M := by unfold sgM; rw [k1, k2, q1]
  have hX : sgX E F (upN M X) (upD X) = true := by unfold sgX; rw [k1, k2, q2]
  have hB : Lb.sgB E F (upN M X) (upD X) neg m = e * 2 ^ F + r := by
    unfold Lb.sgB
    rw [hM, hlw]
    by_cases h1 : e = 0
    · rw [if_pos h1] at hm hx
      have : (X + F + bsN E - 1).toNat = 0 := by omega
      rw [this, hm, h1]
      omega
    · rw [if_neg h1] at hm hx
      obtain ⟨d, rfl⟩ : ∃ d, e = d + 1 := ⟨e - 1, by omega⟩
      have : (X + F + bsN E - 1).toNat = d := by omega
      rw [this, hm, Nat.add_mul, Nat.one_mul]
      omega
  have hI : e * 2 ^ F + r < infN E F := by
    rw [inf_eq hE]
    have h2 : (e + 1) * 2 ^ F ≤ (2 * bsN E + 1) * 2 ^ F := Nat.mul_le_mul_right _ (by omega)
    rw [Nat.add_mul, Nat.one_mul] at h2
    omega
  have hO : ovB E F (upN M X) (upD X) neg m = false := by
    unfold ovB
    rw [hlw, hB]
    refine decide_eq_false ?_
    rintro (h | h)
    · by_cases h1 : e = 0
      · rw [if_pos h1] at hx
        have : bsN E ≠ 0 := by
          unfold bsN
          have : 2 ^ 1 ≤ 2 ^ (E - 1) := Nat.pow_le_pow_right (by decide) (by omega)
          omega
        omega
      · rw [if_neg h1] at hx
        omega
    · omega
  unfold flB flG
  rw [hO, hB, hX]
  exact ⟨rfl, rfl⟩

/-- Rounded: whatever fraction is of that worth. -/
theorem Flt.round {E F e r M N D : Nat} {X : Int} (h : Flt E F e r M X) (hE : 2 ≤ E) (hD : D ≠ 0) (hx : N * upD X = upN M X * D) (s neg : Bool) (m : Nat) (hz : M = 0 → neg = s) :
    sgBits E F N D (if M = 0 then false else s) neg m = e * 2 ^ F + r + (if s = true then 2 ^ (E + F) else 0) ∧ sgFlags E F N D (if M = 0 then false else s) m = 0 := by
  have hs := sgs_same (E := E) (F := F) hD (upD_pos X) hx (if M = 0 then false else s) neg m
  rw [hs.1, hs.2]
  by_cases h0 : M = 0
  · have hN : upN M X = 0 := by unfold upN; rw [h0, Nat.zero_mul]
    have hm := h.hm
    have he : e = 0 ∧ r = 0 := by
      by_cases h1 : e = 0
      · rw [if_pos h1] at hm; omega
      · rw [if_neg h1] at hm
        have := Nat.two_pow_pos F
        omega
    unfold sgBits sgFlags
    rw [if_pos hN, if_pos hN, he.1, he.2, hz h0]
    exact ⟨by omega, rfl⟩
  · have hN := upN_ne h0 X
    rw [if_neg h0]
    obtain ⟨b1, b2⟩ := h.bits hE h0 s m
    unfold sgBits sgFlags
    rw [if_neg hN, if_neg hN, b1, b2]
    refine ⟨?_, rfl⟩
    cases s <;> simp

end Go.Proofs.YtklibjdhlmdkpaaGreatDoor

