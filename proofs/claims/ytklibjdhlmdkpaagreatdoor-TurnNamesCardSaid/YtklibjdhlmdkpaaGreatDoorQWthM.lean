/-
  Plain: what Value answers of a float, as a fraction, rounds to that float. No program in sight.
-/
import Derived.Test.YtklibjdhlmdkpaaGreatDoorQWthL
import Derived.Test.YtklibjdhlmdkpaaGreatDoorQVals
import Derived.Test.YtklibjdhlmdkpaaGreatDoorQRtI
import Derived.Test.YtklibjdhlmdkpaaGreatDoorQRdF
namespace Go.Proofs.YtklibjdhlmdkpaaGreatDoor

open Go.RowKit Go.Lb

theorem pw_is (k : Nat) : pw k = 2 ^ k := by unfold pw; rfl

theorem bias_is (E : Nat) : biasN E = bsN E := by unfold biasN bsN; rfl

theorem flt_of {E F b : Nat} (hE : 2 ≤ E) (hx : exN E F b ≠ maskN E) : Flt E F (exN E F b) (frN F b) (vN E F b) (vX E F b) := by
  have h1 : exN E F b < 2 ^ E := by rw [← pw_is]; exact exN_lt E F b
  have h2 : frN F b < 2 ^ F := by rw [← pw_is]; unfold frN; exact takeN_lt b 0 F
  have h3 : 2 ^ E = 2 * 2 ^ (E - 1) := by
    rw [show 2 * 2 ^ (E - 1) = 2 ^ (E - 1) * 2 by omega, ← Nat.pow_succ]
    congr 1
    omega
  have h4 := Nat.two_pow_pos (E - 1)
  refine ⟨h2, ?_, by unfold vN; rw [pw_is], by unfold vX; rw [bias_is]⟩
  unfold maskN at hx
  unfold bsN
  omega

theorem bits_parts {E F b : Nat} (hb : b < pw (1 + E + F)) : exN E F b * 2 ^ F + frN F b + (if sgB E F b = true then 2 ^ (E + F) else 0) = b ∧ sgB E F b = decide (2 ^ (E + F) ≤ b) := by
  have hP : 0 < 2 ^ F := Nat.two_pow_pos F
  have hQ : 0 < 2 ^ E := Nat.two_pow_pos E
  have e1 : frN F b = b % 2 ^ F := by unfold frN takeN; rw [pw_zero, Nat.div_one, pw_is]
  have e2 : exN E F b = b / 2 ^ F % 2 ^ E := by unfold exN takeN; rw [pw_is, pw_is]
  have e3 : takeN b (F + E) 1 = b / 2 ^ F / 2 ^ E % 2 := by
    unfold takeN
    rw [pw_add, Nat.div_div_eq_div_mul, pw_is, pw_is, pw_is, Nat.pow_one]
  have hs : sgB E F b = decide (b / 2 ^ F / 2 ^ E % 2 ≠ 0) := by unfold sgB; rw [e3]
  have hPQ : 2 ^ (E + F) = 2 ^ F * 2 ^ E := by rw [Nat.add_comm, Nat.pow_add]
  have hb2 : b < 2 ^ F * 2 ^ E * 2 := by
    rw [pw_is] at hb
    rw [show 1 + E + F = F + E + 1 by omega, Nat.pow_succ, Nat.pow_add] at hb
    exact hb
  have hq : b / 2 ^ F / 2 ^ E < 2 := by
    rw [Nat.div_div_eq_div_mul]
    exact Nat.div_lt_of_lt_mul hb2
  have hge : 2 ^ F * 2 ^ E ≤ b ↔ 1 ≤ b / 2 ^ F / 2 ^ E := by
    rw [Nat.div_div_eq_div_mul, Nat.le_div_iff_mul_le (Nat.mul_pos hP hQ), Nat.one_mul]
  have d1 := Nat.div_add_mod b (2 ^ F)
  have d2 := Nat.div_add_mod (b / 2 ^ F) (2 ^ E)
  rw [e1, e2, hs, hPQ]
  have hm : b / 2 ^ F % 2 ^ E * 2 ^ F + 2 ^ F * 2 ^ E * (b / 2 ^ F / 2 ^ E) = 2 ^ F * (b / 2 ^ F) := by
    conv => rhs; rw [← d2]
    rw [Nat.mul_add, Nat.mul_comm (b / 2 ^ F % 2 ^ E), Nat.mul_assoc, Nat.add_comm]
  generalize b / 2 ^ F / 2 ^ E = q at *
  have hq2 : q = 0 ∨ q = 1 := by omega
  rcases hq2 with rfl | rfl
  · have h5 : ¬ 2 ^ F * 2 ^ E ≤ b := fun h => by have := hge.1 h; omega
    constructor
    · simp
      omega
    · rw [decide_eq_false h5]
      rfl
  · have h5 : 2 ^ F * 2 ^ E ≤ b := hge.2 (Nat.le_refl _)
    constructor
    · simp
      omega
    · rw [decide_eq_true h5]
      rfl

theorem chk_small {N : Nat} (h : N < 4294967296 ^ 400) : chk (limbs N) = 0 := by
  have hl : (limbs N).length ≤ 400 := ln_le h
  unfold chk
  rw [if_neg (by omega), if_neg]
  rintro ⟨h1, h2⟩
  exact fine_top (fine_limbs N) (by omega) h2

theorem val_facts {E F b : Nat} (hE : 2 ≤ E) (h11 : E ≤ 11) (hF : F ≤ 52) (h : fitsE (E : Int) (F : Int) b = 0) (hx : exN E F b ≠ maskN E) :
    valE (E : Int) (F : Int) b = 0 ∧ ((vN E F b = 0 ∧ valN (E : Int) (F : Int) b = 0 ∧ valX (E : Int) (F : Int) b = 0 ∧ valS (E : Int) (F : Int) b = false) ∨
      (vN E F b ≠ 0 ∧ ∃ t n : Nat, vN E F b = 2 ^ t * n ∧ n % 2 = 1 ∧ valN (E : Int) (F : Int) b = n ∧ valX (E : Int) (F : Int) b = vX E F b + (t : Int) ∧ valS (E : Int) (F : Int) b = sgB E F b ∧ t ≤ F ∧ n < 2 ^ 53 ∧ -1074 ≤ vX E F b ∧ vX E F b + F ≤ 1023)) := by
  obtain ⟨v1, v2, v3, v4⟩ := val_yes h hx
  have hf := flt_of hE hx
  have f1 := hf.hr
  have f2 := hf.he
  have f3 := hf.hm
  have f4 := hf.hx
  have hbs : bsN E ≤ 1023 := by
    unfold bsN
    have : 2 ^ (E - 1) ≤ 2 ^ 10 := Nat.pow_le_pow_right (by decide) (by omega)
    omega
  have hM : vN E F b < 2 ^ (F + 1) := by rw [Nat.pow_succ]; split at f3 <;> omega
  have hM53 : 2 ^ (F + 1) ≤ 2 ^ 53 := Nat.pow_le_pow_right (by decide) (by omega)
  have hX1 : -1074 ≤ vX E F b := by split at f4 <;> omega
  have hX2 : vX E F b + F ≤ 1023 := by split at f4 <;> omega
  have hc : chk (limbs (vN E F b)) = 0 := chk_small (Nat.lt_of_lt_of_le hM (Nat.le_trans hM53 (by decide +kernel)))
  rw [v1, v2, v3, v4]
  by_cases h0 : vN E F b = 0
  · obtain ⟨m1, m2⟩ := mk_zero (x := vX E F b) hc (by rw [val_limbs']; exact h0)
    obtain ⟨m3, m4, m5⟩ := mk_no (sgB E F b) m1
    exact ⟨m2, .inl ⟨h0, m3, m4, m5⟩⟩
  · obtain ⟨k, hk⟩ := tz_spec h0
    have ht : tz (vN E F b) ≤ F := by
      have h5 := two_pow_tz_le h0
      have h6 : 2 ^ tz (vN E F b) < 2 ^ (F + 1) := Nat.lt_of_le_of_lt h5 hM
      have := (Nat.pow_lt_pow_iff_right (by decide : 1 < 2)).1 h6
      omega
    have hB : mkB (limbs (vN E F b)) (vX E F b) = true := by
      unfold mkB
      rw [val_limbs']
      exact decide_eq_true ⟨hc, h0, by omega, by omega, by omega, by omega⟩
    obtain ⟨m1, m2, m3, m4⟩ := mk_yes (sgB E F b) hB
    rw [val_limbs'] at m1 m2
    have hd : vN E F b / 2 ^ tz (vN E F b) = 2 * k + 1 := by
      conv => lhs; arg 1; rw [hk]
      exact Nat.mul_div_cancel_left _ (Nat.two_pow_pos _)
    have hn : 2 * k + 1 < 2 ^ 53 := by
      rw [← hd]
      exact Nat.lt_of_le_of_lt (Nat.div_le_self _ _) (Nat.lt_of_lt_of_le hM hM53)
    exact ⟨m4, .inr ⟨h0, tz (vN E F b), 2 * k + 1, hk, by omega, by rw [m1, hd], m2, m3, ht, hn, hX1, hX2⟩⟩

theorem up_shift (n t : Nat) (X : Int) : upN n (X + t) * upD X = upN (2 ^ t * n) X * upD (X + t) := by
  unfold upN upD
  rw [Nat.mul_assoc, ← Nat.pow_add, Nat.mul_comm (2 ^ t) n, Nat.mul_assoc, Nat.mul_assoc, ← Nat.pow_add, ← Nat.pow_add]
  congr 2
  omega

theorem near_in {X : Int} {b : Nat} (h1 : -1074 ≤ X) (h2 : X ≤ 1023) : nearZ X b = X := by unfold nearZ; omega

theorem odd_low {n : Nat} (h : n % 2 = 1) : nth (limbs n) 0 % 2 = 1 ∧ (limbs n).length ≠ 0 := by
  rw [limbs_pos (by omega)]
  refine ⟨?_, by simp⟩
  show n % 4294967296 % 2 = 1
  omega

theorem up_small {n : Nat} {X : Int} (hn : n < 2 ^ 53) (h1 : -1074 ≤ X) (h2 : X ≤ 1023) : ln (upN n X) ≤ 34 ∧ ln (upD X) ≤ 34 := by
  obtain ⟨k, hk⟩ : ∃ k, k = 1035 := ⟨_, rfl⟩
  obtain ⟨j, hj⟩ : ∃ j, j = 34 := ⟨_, rfl⟩
  have e : (4294967296 : Nat) ^ j = 2 ^ (53 + k) := (pow32 j).trans (congrArg (fun q => 2 ^ q) (by omega))
  rw [← hj]
  constructor
  · refine ln_le ?_
    rw [e, Nat.pow_add]
    unfold upN
    exact Nat.mul_lt_mul_of_lt_of_le hn (Nat.pow_le_pow_right (by decide) (by omega)) (Nat.two_pow_pos _)
  · refine ln_le ?_
    rw [e]
    unfold upD
    exact Nat.pow_lt_pow_right (by decide) (by omega)

/-- All that the law RoundWorth needs of a finite float. -/
theorem worth_facts {E F b m : Nat} (hE : 2 ≤ E) (h11 : E ≤ 11) (hF : F ≤ 52) (h : fitsE (E : Int) (F : Int) b = 0) (hb : b < pw (1 + E + F)) (hx : exN E F b ≠ maskN E) :
    valE (E : Int) (F : Int) b = 0 ∧ ∃ (n : Nat) (X : Int) (s : Bool), valN (E : Int) (F : Int) b = n ∧ valX (E : Int) (F : Int) b = X ∧ valS (E : Int) (F : Int) b = s ∧
      dchk s (limbs n) X = 0 ∧ n < 2 ^ 53 ∧ -1074 ≤ X ∧ X ≤ 1023 ∧ Nat.gcd (upN n X) (upD X) = 1 ∧ (s = true → upN n X ≠ 0) ∧
      ∀ N D, D ≠ 0 → N * upD X = upN n X * D → sgBits E F N D s (decide (2 ^ (E + F) ≤ b)) m = b ∧ sgFlags E F N D s m = 0 := by
  have hf := flt_of hE hx
  obtain ⟨p1, p2⟩ := bits_parts hb
  obtain ⟨v0, hv⟩ := val_facts hE h11 hF h hx
  refine ⟨v0, ?_⟩
  rcases hv with ⟨h0, v1, v2, v3⟩ | ⟨h0, t, n, ht, hn, v1, v2, v3, htF, hn53, hX1, hX2⟩
  · refine ⟨0, 0, false, v1, v2, v3, by decide, by decide, by decide, by decide, by decide, (fun h => by cases h), fun N D hD hc => ?_⟩
    have hN : N = 0 := by
      have : upN 0 0 = 0 := rfl
      rw [this, Nat.zero_mul] at hc
      rcases Nat.mul_eq_zero.1 hc with h | h
      · exact h
      · exact absurd h (upD_pos 0)
    have := hf.round hE (N := N) hD (by rw [hN]; unfold upN; rw [h0]; omega) (sgB E F b) (decide (2 ^ (E + F) ≤ b)) m (fun _ => p2.symm)
    rw [if_pos h0, p1] at this
    exact this
  · have hne : n ≠ 0 := by omega
    obtain ⟨o1, o2⟩ := odd_low hn
    refine ⟨n, vX E F b + t, sgB E F b, v1, v2, v3, ?_, hn53, by omega, by omega, ?_, fun _ => upN_ne hne _, fun N D hD hc => ?_⟩
    · unfold dchk
      rw [if_neg (by rw [chk_small (Nat.lt_of_lt_of_le hn53 (by decide +kernel))]; simp), if_neg o2, if_neg]
      rintro (h | h)
      · omega
      · have := of_decide_eq_true h
        omega
    · by_cases hp : 0 ≤ vX E F b + t
      · have : upD (vX E F b + t) = 1 := by unfold upD; rw [show (-(vX E F b + (t : Int))).toNat = 0 by omega, Nat.pow_zero]
        rw [this, Nat.gcd_one_right]
      · have e1 : upN n (vX E F b + t) = n := by unfold upN; rw [show (vX E F b + (t : Int)).toNat = 0 by omega, Nat.pow_zero, Nat.mul_one]
        have e2 : tz n = 0 := tz_unique (m := n / 2) (by rw [Nat.pow_zero]; omega)
        rw [e1]
        unfold upD
        rw [gcd_pow hne, e2, Nat.zero_min, Nat.pow_zero]
    · have hs := up_shift n t (vX E F b)
      rw [← ht] at hs
      have hcr : N * upD (vX E F b) = upN (vN E F b) (vX E F b) * D := by
        refine Nat.eq_of_mul_eq_mul_right (Nat.pos_of_ne_zero (upD_pos (vX E F b + t))) ?_
        calc N * upD (vX E F b) * upD (vX E F b + t) = N * upD (vX E F b + t) * upD (vX E F b) := Nat.mul_right_comm _ _ _
          _ = upN n (vX E F b + t) * D * upD (vX E F b) := by rw [hc]
          _ = upN n (vX E F b + t) * upD (vX E F b) * D := Nat.mul_right_comm _ _ _
          _ = upN (vN E F b) (vX E F b) * upD (vX E F b + t) * D := by rw [hs]
          _ = upN (vN E F b) (vX E F b) * D * upD (vX E F b + t) := Nat.mul_right_comm _ _ _
      have := hf.round hE hD hcr (sgB E F b) (decide (2 ^ (E + F) ≤ b)) m (fun h => absurd h h0)
      rw [if_neg h0, p1] at this
      exact this

end Go.Proofs.YtklibjdhlmdkpaaGreatDoor

