/-
  Plain: rounding keeps the order (fl_mono). No program in sight.
-/
import Derived.Test.YteoceoepakfgiaaGreatDoorRndQ
namespace Go.Proofs.YteoceoepakfgiaaGreatDoor
open Go.RowKit Go.Lb

theorem md_mono (m : Nat) (neg odd : Bool) {h h' : Int} (hh : h ≤ h') (hb : mdB m neg odd h = true) : mdB m neg odd h' = true := by
  unfold mdB at hb ⊢
  by_cases m0 : m = 0
  · rw [if_pos m0] at hb ⊢
    refine decide_eq_true ?_
    rcases of_decide_eq_true hb with a | ⟨a, b⟩
    · exact .inl (by omega)
    · by_cases h0 : h' = 0
      · exact .inr ⟨h0, b⟩
      · exact .inl (by omega)
  · rw [if_neg m0] at hb ⊢
    by_cases m1 : m = 1
    · rw [if_pos m1] at hb ⊢
      have := of_decide_eq_true hb
      exact decide_eq_true (by omega)
    · rw [if_neg m1] at hb ⊢
      exact hb

theorem cmpN_cases (a b : Nat) : cmpN a b = -1 ∨ cmpN a b = 0 ∨ cmpN a b = 1 := by
  unfold cmpN
  split
  · exact .inl rfl
  · split
    · exact .inr (.inr rfl)
    · exact .inr (.inl rfl)

theorem cmpN_mono {a b a' b' : Nat} (hb : 0 < b) (hb' : 0 < b') (h : a * b' ≤ a' * b) : cmpN a b ≤ cmpN a' b' := by
  have k1 : b ≤ a → b' ≤ a' := fun hh => by
    have e1 := Nat.mul_le_mul_right b' hh
    have e2 : b' * b ≤ a' * b := by rw [Nat.mul_comm b' b]; omega
    exact Nat.le_of_mul_le_mul_right e2 hb
  have k2 : b < a → b' < a' := fun hh => by
    have e1 := Nat.mul_lt_mul_of_pos_right hh hb'
    have e2 : b' * b < a' * b := by rw [Nat.mul_comm b' b]; omega
    exact Nat.lt_of_mul_lt_mul_right e2
  unfold cmpN
  split
  · split
    · omega
    · split <;> omega
  · split
    · split
      · have := k2 (by omega); omega
      · split
        · omega
        · have := k2 (by omega); omega
    · split
      · have := k1 (by omega); omega
      · split <;> omega

theorem div_mono {A B A' B' : Nat} (hB : 0 < B) (hB' : 0 < B') (h : A * B' ≤ A' * B) : A / B ≤ A' / B' := by
  rw [Nat.le_div_iff_mul_le hB']
  have h1 := Nat.div_mul_le_self A B
  have h2 : A / B * B' * B ≤ A' * B := by
    calc A / B * B' * B = A / B * B * B' := by rw [Nat.mul_right_comm]
      _ ≤ A * B' := Nat.mul_le_mul_right _ h1
      _ ≤ A' * B := h
  exact Nat.le_of_mul_le_mul_right h2 hB

theorem rd_mono {A B A' B' : Nat} (hB : 0 < B) (hB' : 0 < B') (h : A * B' ≤ A' * B) (neg : Bool) (m : Nat) : rdN A B neg m ≤ rdN A' B' neg m := by
  have hd := div_mono hB hB' h
  rcases Nat.lt_or_eq_of_le hd with hlt | heq
  · exact Nat.le_trans (rd_le A B neg m) (Nat.le_trans hlt (rd_ge A' B' neg m))
  · have hr : A % B * B' ≤ A' % B' * B := by
      have e1 := Nat.div_add_mod A B
      have e2 := Nat.div_add_mod A' B'
      have e3 : B * (A / B) * B' + A % B * B' = A * B' := by rw [← Nat.add_mul, e1]
      have e4 : B' * (A' / B') * B + A' % B' * B = A' * B := by rw [← Nat.add_mul, e2]
      have e5 : B * (A / B) * B' = B' * (A' / B') * B := by rw [heq]; simp only [Nat.mul_comm, Nat.mul_left_comm]
      omega
    unfold rdN
    by_cases h0 : A % B = 0
    · rw [if_pos h0]
      split
      · omega
      · omega
    · have h0' : A' % B' ≠ 0 := fun hz => by
        rw [hz, Nat.zero_mul] at hr
        rcases Nat.mul_eq_zero.1 (Nat.le_zero.1 hr) with h1 | h1
        · exact h0 h1
        · omega
      rw [if_neg h0, if_neg h0', heq]
      have hc : cmpN (2 * (A % B)) B ≤ cmpN (2 * (A' % B')) B' := cmpN_mono hB hB' (by rw [Nat.mul_assoc, Nat.mul_assoc]; omega)
      by_cases hm : mdB m neg (decide (A' / B' % 2 = 1)) (cmpN (2 * (A % B)) B) = true
      · rw [if_pos hm, if_pos (md_mono m neg _ hc hm)]
        exact Nat.le_refl _
      · rw [if_neg hm]
        omega

theorem sc_mono {N D N' D' : Nat} (h : N * D' ≤ N' * D) (k : Int) : scN N k * scD D' k ≤ scN N' k * scD D k := by
  unfold scN scD
  have e1 := Nat.mul_mul_mul_comm N (2 ^ k.toNat) D' (2 ^ (-k).toNat)
  have e2 := Nat.mul_mul_mul_comm N' (2 ^ k.toNat) D (2 ^ (-k).toNat)
  rw [e1, e2]
  exact Nat.mul_le_mul_right _ h

theorem lg_mono {N D N' D' : Nat} (hN : N ≠ 0) (hD : D ≠ 0) (hN' : N' ≠ 0) (hD' : D' ≠ 0) (h : N * D' ≤ N' * D) : lgE N D ≤ lgE N' D' := by
  rcases Int.lt_or_le (lgE N' D') (lgE N D) with hl | hl
  · exfalso
    have h1 := (lg_spec hN hD).1
    have h2 := sc_low hD' (lg_spec hN' hD') hl 0
    rw [show ((0 : Nat) : Int) - lgE N D = -lgE N D by omega, Nat.pow_zero, Nat.one_mul] at h2
    have h3 := sc_mono h (-lgE N D)
    have p1 := scD_pos (Nat.pos_of_ne_zero hD) (-lgE N D)
    have p2 := scD_pos (Nat.pos_of_ne_zero hD') (-lgE N D)
    have h4 := Nat.mul_le_mul_right (scD D' (-lgE N D)) h1
    have h5 := Nat.mul_lt_mul_of_pos_right h2 p1
    rw [Nat.mul_comm (scD D (-lgE N D))] at h4
    omega
  · exact hl

theorem sgB_mono {E F N D N' D' : Nat} (hN : N ≠ 0) (hD : D ≠ 0) (hN' : N' ≠ 0) (hD' : D' ≠ 0) (h : N * D' ≤ N' * D) (neg : Bool) (m : Nat) : Lb.sgB E F N D neg m ≤ Lb.sgB E F N' D' neg m ∧ lwE E N D ≤ lwE E N' D' := by
  have hl := lg_mono hN hD hN' hD' h
  have hw : lwE E N D ≤ lwE E N' D' := by unfold lwE; omega
  refine ⟨?_, hw⟩
  have hg := lw_ge E N D
  rcases Int.lt_or_eq_of_le hw with hlt | heq
  · have e : lwE E N' D' = lgE N' D' := by
      rcases lw_cases E N' D' with e | ⟨_, e⟩
      · exact e
      · omega
    have a1 := sg_le (E := E) (F := F) hN hD neg m
    have a2 := sg_ge (F := F) hN' hD' neg m e
    unfold Lb.sgB
    obtain ⟨t, ht⟩ : ∃ t : Nat, (t : Int) = lwE E N D + bsN E - 1 := ⟨(lwE E N D + bsN E - 1).toNat, by omega⟩
    obtain ⟨u, hu⟩ : ∃ u : Nat, lwE E N' D' + bsN E - 1 = ((t + 1 + u : Nat) : Int) := ⟨(lwE E N' D' - lwE E N D - 1).toNat, by omega⟩
    rw [← ht, hu, Int.toNat_natCast, Int.toNat_natCast, Nat.add_mul, Nat.add_mul, Nat.one_mul]
    rw [Nat.pow_succ] at a1
    omega
  · unfold Lb.sgB sgM
    rw [← heq]
    exact Nat.add_le_add_right (rd_mono (scD_pos (Nat.pos_of_ne_zero hD) _) (scD_pos (Nat.pos_of_ne_zero hD') _) (sc_mono h _) neg m) _

theorem fl_mono {E F N D N' D' : Nat} (hN : N ≠ 0) (hD : D ≠ 0) (hN' : N' ≠ 0) (hD' : D' ≠ 0) (h : N * D' ≤ N' * D) (neg : Bool) (m : Nat) : flB E F N D neg m ≤ flB E F N' D' neg m := by
  obtain ⟨h1, h2⟩ := sgB_mono (E := E) (F := F) hN hD hN' hD' h neg m
  by_cases o : ovB E F N D neg m = true
  · have o' : ovB E F N' D' neg m = true := by
      unfold ovB at o ⊢
      have := of_decide_eq_true o
      exact decide_eq_true (by omega)
    unfold flB
    rw [if_pos o, if_pos o']
    exact Nat.le_refl _
  · by_cases o' : ovB E F N' D' neg m = true
    · unfold flB
      rw [if_neg o, if_pos o']
      unfold ovB at o
      rw [decide_eq_true_iff] at o
      split <;> omega
    · unfold flB
      rw [if_neg o, if_neg o']
      exact h1

/-- A float's bits as a number that rises with its worth. -/
def keyZ (E F b : Nat) : Int := if 2 ^ (E + F) ≤ b then -((b - 2 ^ (E + F) : Nat) : Int) else (b : Int)

theorem fl_lt {E F : Nat} (N D : Nat) (neg : Bool) (m : Nat) : flB E F N D neg m < 2 ^ (E + F) := by
  have h1 := flB_le E F N D neg m
  have h2 : 0 < 2 ^ F := Nat.two_pow_pos F
  have h3 : 2 ^ F ≤ 2 ^ (E + F) := Nat.pow_le_pow_right (by decide) (by omega)
  unfold infN at h1
  omega

/-- The key of a rounded fraction (nought without a sign). -/
theorem key_sg (E F N D : Nat) (s : Bool) (m : Nat) : keyZ E F (sgBits E F N D s false m) = if N = 0 then 0 else if s = true then -(flB E F N D s m : Int) else (flB E F N D s m : Int) := by
  have hl := fl_lt (E := E) (F := F) N D s m
  have hp := Nat.two_pow_pos (E + F)
  unfold keyZ sgBits
  by_cases h : N = 0
  · rw [if_pos h, if_pos h]
    simp only [Bool.false_eq_true, if_false]
    rw [if_neg (by omega)]
    rfl
  · rw [if_neg h, if_neg h]
    cases s
    · simp only [Bool.false_eq_true, if_false]
      rw [if_neg (by omega)]
    · simp only [if_true]
      rw [if_pos (by omega), Nat.add_sub_cancel]

/-- A fraction of a sign, above nought or with none, against another one. -/
def ordZ (s : Bool) (N D : Nat) (t : Bool) (N' D' : Nat) : Int := (if s = true then -((N * D' : Nat) : Int) else ((N * D' : Nat) : Int)) - (if t = true then -((N' * D : Nat) : Int) else ((N' * D : Nat) : Int))

theorem key_mono {E F N D N' D' : Nat} {s t : Bool} (hD : D ≠ 0) (hD' : D' ≠ 0) (m : Nat) (hs : s = true → N ≠ 0) (ht : t = true → N' ≠ 0) (h : ordZ s N D t N' D' ≤ 0) : keyZ E F (sgBits E F N D s false m) ≤ keyZ E F (sgBits E F N' D' t false m) := by
  rw [key_sg, key_sg]
  unfold ordZ at h
  cases s
  · cases t
    · simp only [Bool.false_eq_true, if_false] at h ⊢
      by_cases hN : N = 0
      · rw [if_pos hN]
        split <;> omega
      · have hN' : N' ≠ 0 := fun hz => by
          rw [hz, Nat.zero_mul] at h
          have := Nat.mul_ne_zero hN hD'
          omega
        rw [if_neg hN, if_neg hN']
        exact Int.ofNat_le.2 (fl_mono hN hD hN' hD' (by omega) false m)
    · simp only [Bool.false_eq_true, if_false, if_true] at h
      have h1 := Nat.mul_ne_zero (ht rfl) hD
      omega
  · cases t
    · simp only [Bool.false_eq_true, if_false, if_true] at h ⊢
      rw [if_neg (hs rfl)]
      split <;> omega
    · simp only [if_true] at h ⊢
      rw [if_neg (hs rfl), if_neg (ht rfl)]
      have := fl_mono (E := E) (F := F) (ht rfl) hD' (hs rfl) hD (by omega) true m
      omega

end Go.Proofs.YteoceoepakfgiaaGreatDoor
