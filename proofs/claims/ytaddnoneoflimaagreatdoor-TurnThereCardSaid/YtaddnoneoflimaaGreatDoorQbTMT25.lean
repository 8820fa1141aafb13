/-
  Plain: what Value answers of a float, as a fraction, rounds to that float. No program in sight.
-/
import Derived.Test.YtaddnoneoflimaaGreatDoorQbTMT24
import Derived.Test.YtaddnoneoflimaaGreatDoorQbTVals
import Derived.Test.YtaddnoneoflimaaGreatDoorQbTMT21
namespace Go.Proofs.YtaddnoneoflimaaGreatDoor

open Go.RowKit Go.Lb

theorem pw_is (k : Nat) : pw k = 2 ^ k := by unfold pw; rfl

theorem bias_is (E : Nat) : biasN E = bsN E := by unfold biasN bsN; rfl

theorem flt_of {E F b : Nat} (hE : 2 ≤ E) (hx : exN E F b ≠ maskN E) : Flt E F (exN E F b) (frN F b) (vN E F b) (vX E F b) := by
  have h1 : exN E F b < 2 ^ E := by rw [← pw_is]; exact exN_lt E F b
  have h2 : frN F b < 2 ^ F := by rw [← pw_is]; unfold frN; exact takeN_lt b 0 F
  have h3 : 2 ^ E = 2 * 2 ^ (E - 1) := by
    rw [show 2 * 2 ^ (E - 1) = 2 ^ (E - 1) * 2 by omega, ← Nat.pow_succ]
    congr 1
    omega
  have h4 := Nat.two_pow_pos (E - 1)
  refine ⟨h2, ?_, by unfold vN; rw [pw_is], by unfold vX; rw [bias_is]⟩
  unfold maskN at hx
  unfold bsN
  omega

theorem bits_parts {E F b : Nat} (hb : b < pw (1 + E + F)) : exN E F b * 2 ^ F + frN F b + (if sgB E F b = true then 2 ^ (E + F) else 0) = b ∧ sgB E F b = decide (2 ^ (E + F) ≤ b) := by
  have hP : 0 < 2 ^ F := Nat.two_pow_pos F
  have hQ : 0 < 2 ^ E := Nat.two_pow_pos E
  have e1 : frN F b = b % 2 ^ F := by unfold frN takeN; rw [pw_zero, Nat.div_one, pw_is]
  have e2 : exN E F b = b / 2 ^ F % 2 ^ E := by unfold exN takeN; rw [pw_is, pw_is]
  have e3 : takeN b (F + E) 1 = b / 2 ^ F / 2 ^ E % 2 := by
    unfold takeN
    rw [pw_add, Nat.div_div_eq_div_mul, pw_is, pw_is, pw_is, Nat.pow_one]
  have hs : sgB E F b = decide (b / 2 ^ F / 2 ^ E % 2 ≠ 0) := by unfold sgB; rw [e3]
  have hPQ : 2 ^ (E + F) = 2 ^ F * 2 ^ E := by rw [Nat.add_comm, Nat.pow_add]
  have hb2 : b < 2 ^ F * 2 ^ E * 2 := by
    rw [pw_is] at hb
    rw [show 1 + E + F = F + E + 1 by omega, Nat.pow_succ, Nat.pow_add] at hb
    exact hb
  have hq : b / 2 ^ F / 2 ^ E < 2 := by
    rw [Nat.div_div_eq_div_mul]
    exact Nat.div_lt_of_lt_mul hb2
  have hge : 2 ^ F * 2 ^ E ≤ b ↔ 1 ≤ b / 2 ^ F / 2 ^ E := by
    rw [Nat.div_div_eq_div_mul, Nat.le_div_iff_mul_le (Nat.mul_pos hP hQ), Nat.one_mul]
  have d1 := Nat.div_add_mod b (2 ^ F)
  have d2 := Nat.div_add_mod (b / 2 ^ F) (2 ^ E)
  rw [e1, e2, hs, hPQ]
  have hm : b / 2 ^ F % 2 ^ E * 2 ^ F + 2 ^ F * 2 ^ E * (b / 2 ^ F / 2 ^ E) = 2 ^ F * (b / 2 ^ F) := by
    conv => rhs; rw [← d2]
    rw [Nat.mul_add, Nat.mul_comm (b / 2 ^ F % 2 ^ E), Nat.mul_assoc, Nat.add_comm]
  generalize b / 2 ^ F / 2 ^ E = q at *
  have hq2 : q = 0 ∨ q = 1 := by omega
  rcases hq2 with rfl | rfl
  · have h5 : ¬ 2 ^ F * 2 ^ E ≤ b := fun h => by have := hge.1 h; omega
    constructor
    · simp
      omega
    · rw [decide_eq_false h5]
      rfl
  · have h5 : 2 ^ F * 2 ^ E ≤ b := hge.2 (Nat.le_refl _)
    constructor
    · simp
      omega
    · rw [decide_eq_true h5]
      rfl

theorem chk_small {N : Nat} (h : N < 4294967296 ^ 400) : chk (limbs N) = 0 := by
  have hl : (limbs N).length ≤ 400 := ln_le h
  unfold chk
  rw [if_neg (by omega), if_neg]
  rintro ⟨h1, h2⟩
  exact fine_top (fine_limbs N) (by omega) h2

theorem val_facts {E F b : Nat} (hE : 2 ≤ E) (h11 : E ≤ 11) (hF : F ≤ 52) (h : fitsE (E : Int) (F : Int) b = 0) (hx : exN E F b ≠ maskN E) :
    valE (E : Int) (F : Int) b = 0 ∧ ((vN E F b = 0 ∧ valN (E : Int) (F : Int) b = 0 ∧ valX (E : Int) (F : Int) b = 0 ∧ valS (E : Int) (F : Int) b = false) ∨
      (vN E F b ≠ 0 ∧ ∃ t n : Nat, vN E F b = 2 ^ t * n ∧ n % 2 = 1 ∧ valN (E : Int) (F : Int) b = n ∧ valX (E : Int) (F : Int) b = vX E F b + (t : Int) ∧ valS (E : Int) (F : Int) b = sgB E F b ∧ t ≤ F ∧ n < 2 ^ 53 ∧ -1074 ≤ vX E F b ∧ vX E F b + F ≤ 1023)) := by
  obtain ⟨v1, v2, v3, v4⟩ := val_yes h hx
  have hf := flt_of hE hx
  have f1 := hf.hr
  have f2 := hf.he
  have f3 := hf.hm
  have f4 := hf.hx
  have hbs : bsN E ≤ 1023 := by
    unfold bsN
    have : 2 ^ (E - 1) ≤ 2 ^ 10 := Nat.pow_le_pow_right (by decide) (by omega)
    omega
  have hM : vN E F b < 2 ^ (F + 1) := by rw [Nat.pow_succ]; split at f3 <;> omega
  have hM53 : 2 ^ (F + 1) ≤ 2 ^ 53 := Nat.pow_le_pow_right (by decide) (by omega)
  have hX1 : -1074 ≤ vX E F b := by split at f4 <;> omega
  have hX2 : vX E F b + F ≤ 1023 := by split at f4 <;> omega
  have hc : chk (limbs (vN E F b)) = 0 := chk_small (Nat.lt_of_lt_of_le hM (Nat.le_trans hM53 (by decide +kernel)))
  rw [v1, v2, v3, v4]
  by_cases h0 : vN E F b = 0
  · obtain ⟨m1, m2⟩ := mk_zero (x := vX E F b) hc (by rw [val_limbs']; exact h0)
    obtain ⟨m3, m4, m5⟩ := mk_no (sgB E F b) m1
    exact ⟨m2, .inl ⟨h0, m3, m4, m5⟩⟩
  · obtain ⟨k, hk⟩ := tz_spec h0
    have ht : tz (vN E F b) ≤ F := by
      have h5 := two_pow_tz_le h0
      have h6 : 2 ^ tz (vN E F b) < 2 ^ (F + 1) := Nat.lt_of_le_of_lt h5 hM
      have := (Nat.pow_lt_pow_iff_right (by decide : 1 < 2)).1 h6
      omega
    have hB : mkB (limbs (vN E F b)) (vX E F b) = true := by
      unfold mkB
      rw [val_limbs']
      exact decide_eq_true ⟨hc, h0, by omega, by omega, by omega, by omega⟩
    obtain ⟨m1, m2, m3, m4⟩ := mk_yes (sgB E F b) hB
    rw [val_limbs'] at m1 m2
    have hd : vN E F b / 2 ^ tz (vN E F b) = 2 * k + 1 := by
      conv => lhs; arg 1; rw [hk]
      exact Nat.mul_div_cancel_left _ (Nat.two_pow_pos _)
    have hn : 2 * k + 1 < 2 ^ 53 := by
      rw [← hd]
      exact Nat.lt_of_le_of_lt (Nat.div_le_self _ _) (Nat.lt_of_lt_of_le hM hM53)
    exact ⟨m4, .inr ⟨h0, tz (vN E F b), 2 * k + 1, hk, by omega, by rw [m1, hd], m2, m3, ht, hn, hX1, hX2⟩⟩

theorem up_shift (n t : Nat) (X : Int) : upN n (X + t) * upD X = upN (2 ^ t * n) X * upD (X + t) := by
  unfold upN upD
  rw [Nat.mul_assoc, ← Nat.pow_add, Nat.mul_comm (2 ^ t) n, Nat.mul_assoc, Nat.mul_assoc, ← Nat.pow_add, ← Nat.pow_add]
  congr 2
  omega

theorem near_in {X : Int} {b : Nat} (h1 : -1074 ≤ X) (h2 : X ≤ 1023) : nearZ X b = X := by unfold nearZ; omega

theorem odd_low {n : Nat} (h : n % 2 = 1) : nth (limbs n) 0 % 2 = 1 ∧ (limbs n).length ≠ 0 := by
  rw [limbs_pos (by omega)]
  refine ⟨?_, by simp⟩
  show n % 4294967296 % 2 = 1
  omega

theorem up_small {n : Nat} {X : Int} (hn : n < 2 ^ 53) (h1 : -1074 ≤ X) (h2 : X ≤ 1023) : ln (upN n X) ≤ 34 ∧ ln (upD X) ≤ 34 := by
  obtain ⟨k, hk⟩ : ∃ k, k = 1035 := ⟨_, rfl⟩
  obtain ⟨j, hj⟩ : ∃ j, j = 34 := ⟨_, rfl⟩
  have e : (4294967296 : Nat) ^ j = 2 ^ (53 + k) := (pow32 j).trans (congrArg (fun q => 2 ^ q) (by omega))
  rw [← hj]
  constructor
  · refine ln_le ?_
    rw [e, Nat.pow_add]
    unfold upN
    exact Nat.mul_lt_mul_of_lt_of_le hn (Nat.pow_le_pow_right (by decide) (by omega)) (Nat.two_pow_pos _)
  · refine ln_le ?_
    rw [e]
    unfold upD
    exact Nat.pow_lt_pow_right (by decide) (by omega)

/-- All that the law RoundWorth needs of a finite float. -/
theorem worth_facts {E F b m : Nat} (hE : 2 ≤ E) (h11 : E ≤ 11) (hF : F ≤ 52) (h : fitsE (E : Int) (F : Int) b = 0) (hb : b < pw (1 + E + F)) (hx : exN E F b ≠ maskN E) :
    valE (E : Int) (F : Int) b = 0 ∧ ∃ (n : Nat) (X : Int) (s : Bool), valN (E : Int) (F : Int) b = n ∧ valX (E : Int) (F : Int) b = X ∧ valS (E : Int) (F : Int) b = s ∧
      dchk s (limbs n) X = 0 ∧ n < 2 ^ 53 ∧ -1074 ≤ X ∧ X ≤ 1023 ∧ Nat.gcd (upN n X) (upD X) = 1 ∧ (s = true → upN n X ≠ 0) ∧
      ∀ N D, D ≠ 0 → N * upD X = upN n X * D → sgBits E F N D s (decide (2 ^ (E + F) ≤ b)) m = b ∧ sgFlags E F N D s m = 0 := by
  have hf := flt_of hE hx
  obtain ⟨p1, p2⟩ := bits_parts hb
  obtain ⟨v0, hv⟩ := val_facts hE h11 hF h hx
  refine ⟨v0, ?_⟩
  rcases hv with ⟨h0, v1, v2, v3⟩ | ⟨h0, t, n, ht, hn, v1, v2, v3, htF, hn53, hX1, hX2⟩
  · refine ⟨0, 0, false, v1, v2, v3, by decide, by decide, by decide, by decide, by decide, (fun h => by cases h), fun N D hD hc => ?_⟩
    have hN : N = 0 := by
      have : upN 0 0 = 0 := rfl
      rw [this, Nat.zero_mul] at hc
      rcases Nat.mul_eq_zero.1 hc with h | h
      · exact h
      · exact absurd h (upD_pos 0)
    have := hf.round hE (N := N) hD (by rw [hN]; unfold upN; rw [h0]; omega) (sgB E F b) (decide (2 ^ (E + F) ≤ b)) m (fun _ => p2.symm)
    rw [if_pos h0, p1] at this
    exact this
  · have hne : n ≠ 0 := by omega
    obtain ⟨o1, o2⟩ := odd_low hn
    refine ⟨n, vX E F b + t, sgB E F b, v1, v2, v3, ?_, hn53, by omega, by omega, ?_, fun _ => upN_ne hne _, fun N D hD hc => ?_⟩
    · unfold dchk
      rw [if_neg (by rw [chk_small (Nat.lt_of_lt_of_le hn53 (by decide +kernel))]; simp), if_neg o2, if_neg]
      rintro (h | h)
      · omega
      · have := of_decide_eq_true h
        omega
    · by_cases hp : 0 ≤ vX E F b + t
      · have : upD (vX E F b + t) = 1 := by unfold upD; rw [show (-(vX E F b + (t : Int))).toNat = 0 by omega, Nat.pow_zero]
        rw [this, Nat.gcd_one_right]
      · have e1 : upN n (vX E F b + t) = n := by unfold upN; rw [show (vX E F b + (t : Int)).toNat = 0 by omega, Nat.pow_zero, Nat.mul_one]
        have e2 : tz n = 0 := tz_unique (m := n / 2) (by rw [Nat.pow_zero]; omega)
        rw [e1]
        unfold upD
        rw [gcd_pow hne, e2, Nat.zero_min, Nat.pow_zero]
    · have hs := up_shift n t (vX E F b)
      rw [← ht] at hs
      have hcr : N * upD (vX E F b) = upN (vN E F b) (vX E F b) * D := by
        refine Nat.eq_of_mul_eq_mul_right (Nat.pos_of_ne_zero (upD_pos (vX E F b + t))) ?_
        calc N * upD (vX E F b) * upD (vX E F b + t) = N * upD (vX E F b + t) * upD (vX E F b) := Nat.mul_right_comm _ _ _
          _ = upN n (vX E F b + t) * D * upD (vX E F b) := by rw [hc]
          _ = upN n (vX E F b + t) * upD (vX E F b) * D := Nat.mul_right_comm _ _ _
          _ = upN (vN E F b) (vX E F b) * upD (vX E F b + t) * D := by rw [hs]
          _ = upN (vN E F b) (vX E F b) * D * upD (vX E F b + t) := Nat.mul_right_comm _ _ _
      have := hf.round hE hD hcr (sgB E F b) (decide (2 ^ (E + F) ≤ b)) m (fun h => absurd h h0)
      rw [if_neg h0, p1] at this
      exact this

end Go.Proofs.YtaddnoneoflimaaGreatDoor

/-
  Plain: the floats by Down and Up lie one on each side of a fraction, with none between; which of the two the others take. No program in sight.
-/
namespace Go.Proofs.YtaddnoneoflimaaGreatDoor

open Go.RowKit Go.Lb

/-- Within the form's reach a number is rounded to its whole number of units. -/
theorem fl_within {E F N D : Nat} {s : Bool} (hE : 2 ≤ E) (hN : N ≠ 0) (hD : D ≠ 0) (hl : lwE E N D ≤ bsN E) :
    scN N (F - lwE E N D) / scD D (F - lwE E N D) + (lwE E N D + bsN E - 1).toNat * 2 ^ F < infN E F ∧
    ∀ m, m < 5 → flB E F N D s m = Lb.sgB E F N D s m ∧ Lb.sgB E F N D s m ≤ infN E F ∧ sgM E F N D s m ≤ 2 ^ (F + 1) ∧
      (2 ^ F ≤ sgM E F N D s m ∨ lwE E N D = 1 - (bsN E : Int)) ∧
      ((Lb.sgX E F N D = true ∧ flG E F N D s m = 0) ∨ (Lb.sgX E F N D = false ∧ (flG E F N D s m = 1 ∨ flG E F N D s m = 3 ∨ flG E F N D s m = 5))) := by
  have hp := scD_pos (Nat.pos_of_ne_zero hD) ((F : Int) - lwE E N D)
  have hq : scN N (F - lwE E N D) / scD D (F - lwE E N D) < 2 ^ (F + 1) := by
    rw [Nat.div_lt_iff_lt_mul hp]
    rcases lw_cases E N D with h | ⟨h, _⟩
    · rw [h]
      exact (sc_norm hD (lg_spec hN hD) F).2
    · refine Nat.lt_of_lt_of_le (sc_low hD (lg_spec hN hD) h F) (Nat.mul_le_mul_right _ (Nat.pow_le_pow_right (by decide) (by omega)))
  have hinf := inf_eq hE F
  have hge := lw_ge E N D
  have hbs : 1 ≤ bsN E := by
    unfold bsN
    have : 2 ^ 1 ≤ 2 ^ (E - 1) := Nat.pow_le_pow_right (by decide) (by omega)
    omega
  have hm0 : (lwE E N D + bsN E - 1).toNat * 2 ^ F + 2 ^ (F + 1) ≤ infN E F := by
    rw [hinf, Nat.pow_succ, Nat.mul_comm (2 ^ F) 2, ← Nat.add_mul]
    exact Nat.mul_le_mul_right _ (by omega)
  refine ⟨by omega, fun m hm => ?_⟩
  have hM := sg_le (E := E) (F := F) hN hD s m
  have hB : Lb.sgB E F N D s m = sgM E F N D s m + (lwE E N D + bsN E - 1).toNat * 2 ^ F := rfl
  have hlow : 2 ^ F ≤ sgM E F N D s m ∨ lwE E N D = 1 - (bsN E : Int) := by
    rcases lw_cases E N D with h | ⟨_, h⟩
    · exact .inl (sg_ge hN hD s m h)
    · exact .inr h
  have hX : Lb.sgX E F N D = true → sgM E F N D s m = scN N (F - lwE E N D) / scD D (F - lwE E N D) := fun h => by
    have h0 : scN N (F - lwE E N D) % scD D (F - lwE E N D) = 0 := of_decide_eq_true h
    unfold sgM rdN
    rw [if_pos h0]
  have hst : stayB s m = true → sgM E F N D s m = scN N (F - lwE E N D) / scD D (F - lwE E N D) := fun h => by
    obtain ⟨h2, h3, h4⟩ := sides_rd (scN N (F - lwE E N D)) (scD D (F - lwE E N D)) s
    have h5 : m = 2 ∨ m = 3 ∧ s = true ∨ m = 4 ∧ s = false := of_decide_eq_true h
    unfold sgM
    rcases h5 with rfl | ⟨rfl, h6⟩ | ⟨rfl, h6⟩
    · exact h2
    · rw [h3, if_pos h6]; rfl
    · rw [h4, if_neg (by rw [h6]; decide)]; rfl
  refine ⟨?_, by omega, hM, hlow, ?_⟩
  · unfold flB
    by_cases ho : ovB E F N D s m = true
    · have h1 : (bsN E : Int) < lwE E N D ∨ infN E F ≤ Lb.sgB E F N D s m := of_decide_eq_true ho
      rw [if_pos ho]
      by_cases h2 : stayB s m = true
      · have := hst h2
        omega
      · rw [if_neg h2]
        omega
    · rw [if_neg ho]
  · unfold flG
    by_cases hx : Lb.sgX E F N D = true
    · left
      have h2 := hX hx
      refine ⟨hx, ?_⟩
      rw [if_neg, if_pos hx]
      intro ho
      have h1 : (bsN E : Int) < lwE E N D ∨ infN E F ≤ Lb.sgB E F N D s m := of_decide_eq_true ho
      omega
    · right
      refine ⟨by simpa using hx, ?_⟩
      rw [if_neg hx]
      split
      · simp
      · split <;> simp

theorem fl_beyond {E F N D m : Nat} {s : Bool} (hl : (bsN E : Int) < lwE E N D) : flB E F N D s m = (if stayB s m = true then infN E F - 1 else infN E F) ∧ flG E F N D s m = 3 := by
  have ho : ovB E F N D s m = true := decide_eq_true (.inl hl)
  unfold flB flG
  rw [if_pos ho, if_pos ho]
  exact ⟨rfl, rfl⟩

/-- The fields of a float, by its number and its lowest place. -/
theorem unit_bits {E F M c b : Nat} {l : Int} {s : Bool} (hE : 2 ≤ E) (hl : 1 - (bsN E : Int) ≤ l) (hM : M ≤ 2 ^ (F + 1)) (hn : 2 ^ F ≤ M ∨ l = 1 - (bsN E : Int)) (hc : c = M + (l + bsN E - 1).toNat * 2 ^ F) (hi : c < infN E F) (hb : b = if s = true then c + 2 ^ (E + F) else c) :
    b < pw (1 + E + F) ∧ exN E F b ≠ maskN E ∧ sgB E F b = s ∧ (vN E F b = M ∧ vX E F b = l - F ∨ M = 2 * vN E F b ∧ vX E F b = l - F + 1) := by
  have hinf := inf_eq hE F
  have hF := Nat.two_pow_pos F
  have hlt : infN E F < 2 ^ (E + F) := by
    unfold infN
    have : 2 ^ F ≤ 2 ^ (E + F) := Nat.pow_le_pow_right (by decide) (by omega)
    omega
  have hpw : pw (1 + E + F) = 2 * 2 ^ (E + F) := by rw [pw_is, show 1 + E + F = E + F + 1 by omega, Nat.pow_succ]; omega
  have hbl : b < pw (1 + E + F) := by rw [hpw, hb]; split <;> omega
  obtain ⟨p1, p2⟩ := bits_parts hbl
  have hsg : sgB E F b = s := by
    rw [p2]
    cases s
    · simp only [Bool.false_eq_true, if_false] at hb
      exact decide_eq_false (by omega)
    · simp only [if_true] at hb
      exact decide_eq_true (by omega)
  rw [hsg] at p1
  have p3 : exN E F b * 2 ^ F + frN F b = c := by
    cases s
    · simp only [Bool.false_eq_true, if_false] at hb p1
      omega
    · simp only [if_true] at hb p1
      omega
  have hr : frN F b < 2 ^ F := by rw [← pw_is]; unfold frN; exact takeN_lt b 0 F
  have he : exN E F b < 2 * bsN E + 1 := by
    refine Nat.lt_of_mul_lt_mul_right (a := 2 ^ F) ?_
    rw [← hinf]
    omega
  have hmask : maskN E = 2 * bsN E + 1 := by
    unfold maskN bsN
    have h1 : 2 ^ E = 2 * 2 ^ (E - 1) := by
      rw [show 2 * 2 ^ (E - 1) = 2 ^ (E - 1) * 2 by omega, ← Nat.pow_succ]
      congr 1
      omega
    have := Nat.two_pow_pos (E - 1)
    omega
  have hu : ∀ q r, q * 2 ^ F + r = c → r < 2 ^ F → exN E F b = q ∧ frN F b = r := fun q r h1 h2 => by
    have e1 : c / 2 ^ F = q := by rw [← h1, Nat.mul_comm, Nat.mul_add_div hF, Nat.div_eq_of_lt h2, Nat.add_zero]
    have e2 : c / 2 ^ F = exN E F b := by rw [← p3, Nat.mul_comm, Nat.mul_add_div hF, Nat.div_eq_of_lt hr, Nat.add_zero]
    have e3 : exN E F b = q := by rw [← e2, e1]
    refine ⟨e3, ?_⟩
    rw [e3] at p3
    omega
  refine ⟨hbl, by omega, hsg, ?_⟩
  obtain ⟨k, hk⟩ : ∃ k : Nat, l = 1 - (bsN E : Int) + k := ⟨(l + bsN E - 1).toNat, by omega⟩
  have hk2 : (l + bsN E - 1).toNat = k := by omega
  rw [hk2] at hc
  unfold vN vX
  rw [bias_is, pw_is]
  rw [Nat.pow_succ] at hM
  by_cases h1 : M < 2 ^ F
  · have hk0 : k = 0 := by omega
    subst hk0
    obtain ⟨u1, u2⟩ := hu 0 M (by omega) h1
    rw [u1, u2, if_pos rfl, if_pos rfl]
    exact .inl ⟨rfl, by omega⟩
  · by_cases h2 : M < 2 * 2 ^ F
    · obtain ⟨u1, u2⟩ := hu (k + 1) (M - 2 ^ F) (by rw [Nat.add_mul, Nat.one_mul]; omega) (by omega)
      rw [u1, u2, if_neg (by omega), if_neg (by omega)]
      exact .inl ⟨by omega, by omega⟩
    · obtain ⟨u1, u2⟩ := hu (k + 2) 0 (by rw [Nat.add_mul]; omega) hF
      rw [u1, u2, if_neg (by omega), if_neg (by omega)]
      exact .inr ⟨by omega, by omega⟩

theorem inf_mask {E F b : Nat} {s : Bool} (hE : 2 ≤ E) (hb : b = if s = true then infN E F + 2 ^ (E + F) else infN E F) : exN E F b = maskN E := by
  have hinf := inf_eq hE F
  have hF := Nat.two_pow_pos F
  have hlt : infN E F < 2 ^ (E + F) := by
    unfold infN
    have : 2 ^ F ≤ 2 ^ (E + F) := Nat.pow_le_pow_right (by decide) (by omega)
    omega
  have hpw : pw (1 + E + F) = 2 * 2 ^ (E + F) := by rw [pw_is, show 1 + E + F = E + F + 1 by omega, Nat.pow_succ]; omega
  have hbl : b < pw (1 + E + F) := by rw [hpw, hb]; split <;> omega
  obtain ⟨p1, p2⟩ := bits_parts hbl
  have hsg : sgB E F b = s := by
    rw [p2]
    cases s
    · simp only [Bool.false_eq_true, if_false] at hb
      exact decide_eq_false (by omega)
    · simp only [if_true] at hb
      exact decide_eq_true (by omega)
  rw [hsg] at p1
  have p3 : exN E F b * 2 ^ F + frN F b = (2 * bsN E + 1) * 2 ^ F := by
    rw [← hinf]
    cases s
    · simp only [Bool.false_eq_true, if_false] at hb p1
      omega
    · simp only [if_true] at hb p1
      omega
  have hr : frN F b < 2 ^ F := by rw [← pw_is]; unfold frN; exact takeN_lt b 0 F
  have hmask : maskN E = 2 * bsN E + 1 := by
    unfold maskN bsN
    have h1 : 2 ^ E = 2 * 2 ^ (E - 1) := by
      rw [show 2 * 2 ^ (E - 1) = 2 ^ (E - 1) * 2 by omega, ← Nat.pow_succ]
      congr 1
      omega
    have := Nat.two_pow_pos (E - 1)
    omega
  have e1 : (exN E F b * 2 ^ F + frN F b) / 2 ^ F = exN E F b := by rw [Nat.mul_comm, Nat.mul_add_div hF, Nat.div_eq_of_lt hr, Nat.add_zero]
  rw [p3, Nat.mul_div_cancel _ hF] at e1
  omega

/-- What a float is worth. -/
def wrQ (E F b : Nat) : Rat := sgQ' (valS (E : Int) (F : Int) b) (upN (valN (E : Int) (F : Int) b) (valX (E : Int) (F : Int) b)) (upD (valX (E : Int) (F : Int) b))

theorem sgQ_up (s : Bool) (n : Nat) (X : Int) : sgQ' s (upN n X) (upD X) = ((sgZ s n : Int) : Rat) * p2 X := by
  rw [mul_p2, Rat.num_intCast]
  unfold sgQ' upN upD scD
  rw [Rat.den_intCast, Nat.one_mul]
  congr 1
  unfold sgZ
  cases s
  · simp
  · simp [Int.neg_mul]

theorem worth_rat {E F M b : Nat} {l : Int} {s : Bool} (hE : 2 ≤ E) (h11 : E ≤ 11) (hF : F ≤ 52) (hfit : fitsE (E : Int) (F : Int) b = 0) (hx : exN E F b ≠ maskN E) (hsg : sgB E F b = s) (hv : vN E F b = M ∧ vX E F b = l - F ∨ M = 2 * vN E F b ∧ vX E F b = l - F + 1) :
    wrQ E F b = ((sgZ s M : Int) : Rat) * p2 (l - F) := by
  have two : p2 1 = ((2 : Int) : Rat) := p2_cast 1
  have key : ((sgZ s (vN E F b) : Int) : Rat) * p2 (vX E F b) = ((sgZ s M : Int) : Rat) * p2 (l - F) := by
    rcases hv with ⟨h1, h2⟩ | ⟨h1, h2⟩
    · rw [h1, h2]
    · rw [h2, p2_add, two, h1, Rat.mul_comm (p2 _), ← Rat.mul_assoc, ← Rat.intCast_mul]
      congr 2
      unfold sgZ
      split <;> omega
  rw [← key]
  obtain ⟨_, hv⟩ := val_facts hE h11 hF hfit hx
  unfold wrQ
  rw [sgQ_up]
  rcases hv with ⟨h0, v1, v2, v3⟩ | ⟨h0, t, n, ht, hn, v1, v2, v3, _⟩
  · rw [v1, h0]
    have e0 : ∀ s, sgZ s 0 = 0 := fun s => by cases s <;> rfl
    rw [e0, e0, Rat.intCast_zero, Rat.zero_mul, Rat.zero_mul]
  · rw [v1, v2, v3, hsg, p2_add, p2_cast, ht, Rat.mul_comm (p2 _), ← Rat.mul_assoc, ← Rat.intCast_mul]
    congr 2
    unfold sgZ
    split
    · rw [Nat.mul_comm, Int.neg_mul]; push_cast; rfl
    · rw [Nat.mul_comm]; push_cast; rfl

theorem fits_bits {E F b : Nat} (hf : formE (E : Int) (F : Int) = 0) (hb : b < pw (1 + E + F)) : fitsE (E : Int) (F : Int) b = 0 := by
  unfold fitsE
  rw [if_neg (by simp [hf]), if_pos (by simpa using hb)]

theorem rat_right_comm (a b c e : Rat) : a * b * c * e = a * c * (b * e) := by
  rw [Rat.mul_assoc a b c, Rat.mul_comm b c, ← Rat.mul_assoc a c b, Rat.mul_assoc]

/-- A fraction by whole numbers of units. -/
theorem frac_unit {N D : Nat} {s : Bool} (hD : D ≠ 0) (hG : Nat.gcd N D = 1) (k : Int) : sgQ' s N D * ((scD D k : Nat) : Rat) = ((sgZ s (scN N k) : Int) : Rat) * p2 (-k) := by
  have hB : scD D k ≠ 0 := Nat.ne_of_gt (scD_pos (Nat.pos_of_ne_zero hD) k)
  obtain ⟨q1, q2⟩ := sgQ_num (s := s) hD hG
  have h := mul_p2 (sgQ' s N D) k
  rw [q1, q2, Rat.mkRat_eq_div] at h
  have hb : ((scD D k : Nat) : Rat) ≠ 0 := Rat.ne_of_gt (Rat.natCast_pos.2 (Nat.pos_of_ne_zero hB))
  have h2 : sgQ' s N D * p2 k * ((scD D k : Nat) : Rat) = ((sgZ s N * ((2 ^ k.toNat : Nat) : Int) : Int) : Rat) := by
    rw [h, Rat.div_mul_cancel hb]
  have e : sgZ s (scN N k) = sgZ s N * ((2 ^ k.toNat : Nat) : Int) := by
    unfold sgZ scN
    cases s
    · simp
    · simp [Int.neg_mul]
  rw [e, ← h2, rat_right_comm, Rat.mul_assoc, p2_back, Rat.mul_one]

theorem beyond_lt {E F N D : Nat} (hE : 2 ≤ E) (hN : N ≠ 0) (hD : D ≠ 0) (hl : (bsN E : Int) < lwE E N D) : 2 ^ (F + 1) * scD D (F - bsN E) ≤ scN N (F - bsN E) := by
  have hbs : 1 ≤ bsN E := by
    unfold bsN
    have : 2 ^ 1 ≤ 2 ^ (E - 1) := Nat.pow_le_pow_right (by decide) (by omega)
    omega
  have he : lwE E N D = lgE N D := by
    rcases lw_cases E N D with h | ⟨_, h⟩
    · exact h
    · omega
  obtain ⟨h1, _⟩ := lg_spec hN hD
  rw [← he] at h1
  obtain ⟨j, hj⟩ : ∃ j : Nat, (F : Int) - bsN E = -lwE E N D + (j : Int) := ⟨(F - bsN E + lwE E N D).toNat, by omega⟩
  have hs := sc_step N D (-lwE E N D) j
  rw [← hj] at hs
  have hp := scD_pos (Nat.pos_of_ne_zero hD) (-lwE E N D)
  have h2 : 2 ^ (F + 1) ≤ 2 ^ j := Nat.pow_le_pow_right (by decide) (by omega)
  refine Nat.le_of_mul_le_mul_right ?_ hp
  rw [hs, Nat.mul_right_comm]
  refine Nat.mul_le_mul_right _ ?_
  rw [Nat.mul_comm]
  exact Nat.mul_le_mul h1 h2

theorem key_parts {E F c b : Nat} {s : Bool} (hc : c < 2 ^ (E + F)) (hb : b = if s = true then c + 2 ^ (E + F) else c) : keyZ E F b = sgZ s c := by
  unfold keyZ sgZ
  cases s
  · simp only [Bool.false_eq_true, if_false] at hb ⊢
    rw [if_neg (by omega), hb]
  · simp only [if_true] at hb ⊢
    rw [if_pos (by omega), hb, Nat.add_sub_cancel]

/-- All that the law RoundSides needs of a fraction in lowest terms. -/
theorem sides_facts {E F N D : Nat} {s : Bool} (hf : formE (E : Int) (F : Int) = 0) (hD : D ≠ 0) (hG : Nat.gcd N D = 1) (hs : s = true → N ≠ 0) (b g : Nat → Nat) (hb : ∀ m, b m = sgBits E F N D s s m) (hg : ∀ m, g m = sgFlags E F N D s m) :
    (∀ m, m < 5 → b m < pw (1 + E + F)) ∧ b 2 = (if s = true then b 3 else b 4) ∧ (∀ m, m < 5 → b m = b 4 ∨ b m = b 3) ∧
    ((∀ m, m < 5 → g m = 0) ∧ b 3 = b 4 ∧ exN E F (b 4) ≠ maskN E ∧ wrQ E F (b 4) = sgQ' s N D ∨
     (∀ m, m < 5 → g m = 1 ∨ g m = 3 ∨ g m = 5) ∧ keyZ E F (b 3) = keyZ E F (b 4) + 1 ∧ (exN E F (b 4) ≠ maskN E ∨ exN E F (b 3) ≠ maskN E) ∧
      (exN E F (b 4) ≠ maskN E → wrQ E F (b 4) < sgQ' s N D) ∧ (exN E F (b 3) ≠ maskN E → sgQ' s N D < wrQ E F (b 3)) ∧
      (exN E F (b 4) ≠ maskN E → exN E F (b 3) ≠ maskN E → ∀ c, c = cmpQ (sgQ' s N D - wrQ E F (b 4)) (wrQ E F (b 3) - sgQ' s N D) →
        b 0 = (if 0 < c ∨ c = 0 ∧ b 4 % 2 = 1 then b 3 else b 4) ∧ b 1 = (if 0 < c ∨ c = 0 ∧ s = false then b 3 else b 4))) := by
  obtain ⟨e1, e2, e3, e4⟩ := formE_ok hf
  have hE : 2 ≤ E := by omega
  have hbs : 1 ≤ bsN E := by
    unfold bsN
    have : 2 ^ 1 ≤ 2 ^ (E - 1) := Nat.pow_le_pow_right (by decide) (by omega)
    omega
  have hinf := inf_eq hE F
  have hFp := Nat.two_pow_pos F
  have hlt : infN E F < 2 ^ (E + F) := by
    unfold infN
    have : 2 ^ F ≤ 2 ^ (E + F) := Nat.pow_le_pow_right (by decide) (by omega)
    omega
  by_cases hN : N = 0
  · subst hN
    have hs0 : s = false := by cases s <;> simp_all
    subst hs0
    have hD1 : D = 1 := by rwa [Nat.gcd_zero_left] at hG
    subst hD1
    have b0 : ∀ m, b m = 0 := fun m => by rw [hb]; unfold sgBits; rw [if_pos rfl, if_neg (by decide)]
    have g0 : ∀ m, g m = 0 := fun m => by rw [hg]; unfold sgFlags; rw [if_pos rfl]
    obtain ⟨u1, u2, u3, u4⟩ := unit_bits (M := 0) (c := 0) (b := 0) (l := 1 - (bsN E : Int)) (s := false) (F := F) hE (Int.le_refl _) (Nat.zero_le _) (.inr rfl) (by rw [show (1 - (bsN E : Int) + bsN E - 1).toNat = 0 by omega, Nat.zero_mul]) (by rw [hinf]; exact Nat.mul_pos (by omega) hFp) rfl
    have hw := worth_rat hE (by omega) (by omega) (fits_bits hf u1) u2 u3 u4
    simp only [b0, g0]
    refine ⟨fun _ _ => u1, by simp, fun _ _ => .inl trivial, .inl ⟨fun _ _ => trivial, trivial, u2, ?_⟩⟩
    rw [hw]
    have : sgZ false 0 = 0 := rfl
    rw [this, Rat.intCast_zero, Rat.zero_mul]
    unfold sgQ'
    exact (Rat.zero_mkRat 1).symm
  · have hbm : ∀ m, b m = if s = true then flB E F N D s m + 2 ^ (E + F) else flB E F N D s m := fun m => by rw [hb]; unfold sgBits; rw [if_neg hN]
    have hgm : ∀ m, g m = flG E F N D s m := fun m => by rw [hg]; unfold sgFlags; rw [if_neg hN]
    have hpw : pw (1 + E + F) = 2 * 2 ^ (E + F) := by rw [pw_is, show 1 + E + F = E + F + 1 by omega, Nat.pow_succ]; omega
    have hbl : ∀ m, b m < pw (1 + E + F) := fun m => by
      have := fl_lt (E := E) (F := F) N D s m
      rw [hbm, hpw]
      split <;> omega
    by_cases hl : (bsN E : Int) < lwE E N D
    · have hB := scD_pos (Nat.pos_of_ne_zero hD) ((F : Int) - bsN E)
      have hlt2 := beyond_lt (F := F) hE hN hD hl
      have hx := frac_unit (s := s) hD hG ((F : Int) - bsN E)
      rw [show -((F : Int) - bsN E) = bsN E - F by omega] at hx
      have hP := Nat.two_pow_pos (F + 1)
      have hMA : (2 ^ (F + 1) - 1) * scD D ((F : Int) - bsN E) < scN N ((F : Int) - bsN E) := by
        refine Nat.lt_of_lt_of_le ?_ hlt2
        exact Nat.mul_lt_mul_of_pos_right (by omega) hB
      have hc : infN E F - 1 = 2 ^ (F + 1) - 1 + ((bsN E : Int) + bsN E - 1).toNat * 2 ^ F := by
        have h1 : infN E F = 2 ^ (F + 1) + ((bsN E : Int) + bsN E - 1).toNat * 2 ^ F := by
          rw [hinf, Nat.pow_succ, Nat.mul_comm (2 ^ F) 2, ← Nat.add_mul]
          congr 1
          omega
        omega
      have hmM : 2 ^ F ≤ 2 ^ (F + 1) - 1 := by rw [Nat.pow_succ]; omega
      have hip : 0 < infN E F := by rw [hinf]; exact Nat.mul_pos (by omega) hFp
      have hst : ∀ m, stayB s m = decide (m = 2 ∨ m = 3 ∧ s = true ∨ m = 4 ∧ s = false) := fun m => rfl
      have hfl : ∀ m, b m = (if s = true then (if stayB s m = true then infN E F - 1 else infN E F) + 2 ^ (E + F) else (if stayB s m = true then infN E F - 1 else infN E F)) := fun m => by rw [hbm, (fl_beyond hl).1]
      have hgl : ∀ m, g m = 3 := fun m => by rw [hgm, (fl_beyond hl).2]
      have hu := fun bb h => unit_bits (M := 2 ^ (F + 1) - 1) (c := infN E F - 1) (b := bb) (l := (bsN E : Int)) (s := s) (F := F) hE (by omega) (by omega) (.inl hmM) hc (by omega) h
      have hZM : ((sgZ s (2 ^ (F + 1) - 1) : Int)) * (scD D ((F : Int) - bsN E) : Nat) = sgZ s ((2 ^ (F + 1) - 1) * scD D ((F : Int) - bsN E)) := by
        unfold sgZ
        cases s <;> simp [Int.neg_mul]
      have hle := unit_le hB (p2_pos _) hx (sgZ s (2 ^ (F + 1) - 1))
      rw [hZM] at hle
      generalize scN N ((F : Int) - bsN E) = A at *
      generalize (2 ^ (F + 1) - 1) * scD D ((F : Int) - bsN E) = MB at *
      cases s
      · have i4 : b 4 = infN E F - 1 := by rw [hfl]; simp [hst]
        have i3 : b 3 = infN E F := by rw [hfl]; simp [hst]
        obtain ⟨u1, u2, u3, u4⟩ := hu (b 4) (by rw [i4]; rfl)
        have hm3 : exN E F (b 3) = maskN E := inf_mask (s := false) hE (by rw [i3]; rfl)
        have hw := worth_rat hE (by omega) (by omega) (fits_bits hf u1) u2 u3 u4
        refine ⟨fun m _ => hbl m, ?_, fun m _ => ?_, .inr ⟨fun m _ => .inr (.inl (hgl m)), ?_, .inl u2, fun _ => ?_, fun h => absurd hm3 h, fun _ h => absurd hm3 h⟩⟩
        · rw [if_neg (by decide), i4, hfl]
          simp [hst]
        · rw [i3, i4, hfl, if_neg (by decide)]
          split
          · exact .inl rfl
          · exact .inr rfl
        · rw [key_parts (s := false) (c := infN E F) hlt (by rw [i3]; rfl), key_parts (s := false) (c := infN E F - 1) (by omega) (by rw [i4]; rfl)]
          unfold sgZ
          simp only [Bool.false_eq_true, if_false]
          omega
        · rw [hw]
          refine Rat.not_le.1 fun h => ?_
          have := hle.2.1 h
          unfold sgZ at this
          simp only [Bool.false_eq_true, if_false] at this
          omega
      · have i4 : b 4 = infN E F + 2 ^ (E + F) := by rw [hfl]; simp [hst]
        have i3 : b 3 = infN E F - 1 + 2 ^ (E + F) := by rw [hfl]; simp [hst]
        obtain ⟨u1, u2, u3, u4⟩ := hu (b 3) (by rw [i3]; rfl)
        have hm4 : exN E F (b 4) = maskN E := inf_mask (s := true) hE (by rw [i4]; rfl)
        have hw := worth_rat hE (by omega) (by omega) (fits_bits hf u1) u2 u3 u4
        refine ⟨fun m _ => hbl m, ?_, fun m _ => ?_, .inr ⟨fun m _ => .inr (.inl (hgl m)), ?_, .inr u2, fun h => absurd hm4 h, fun _ => ?_, fun h => absurd hm4 h⟩⟩
        · rw [if_pos rfl, i3, hfl]
          simp [hst]
        · rw [i3, i4, hfl, if_pos rfl]
          split
          · exact .inr rfl
          · exact .inl rfl
        · rw [key_parts (s := true) (c := infN E F - 1) (by omega) (by rw [i3]; rfl), key_parts (s := true) (c := infN E F) hlt (by rw [i4]; rfl)]
          unfold sgZ
          simp only [if_true]
          omega
        · rw [hw]
          refine Rat.not_le.1 fun h => ?_
          have := hle.1.1 h
          unfold sgZ at this
          simp only [if_true] at this
          omega
    · obtain ⟨hk, hw⟩ := fl_within (F := F) (s := s) hE hN hD (by omega)
      have hB := scD_pos (Nat.pos_of_ne_zero hD) ((F : Int) - lwE E N D)
      have hx := frac_unit (s := s) hD hG ((F : Int) - lwE E N D)
      rw [show -((F : Int) - lwE E N D) = lwE E N D - F by omega] at hx
      have hge := lw_ge E N D
      obtain ⟨r2, r3, r4⟩ := sides_rd (scN N (F - lwE E N D)) (scD D (F - lwE E N D)) s
      obtain ⟨t1, t2, t3, t4⟩ := sides_take (N := scN N (F - lwE E N D)) hB s
      have hc : ∀ m, m < 5 → b m = if s = true then rdN (scN N (F - lwE E N D)) (scD D (F - lwE E N D)) s m + (lwE E N D + bsN E - 1).toNat * 2 ^ F + 2 ^ (E + F) else rdN (scN N (F - lwE E N D)) (scD D (F - lwE E N D)) s m + (lwE E N D + bsN E - 1).toNat * 2 ^ F := fun m hm => by
        rw [hbm, (hw m hm).1]
        rfl
      have hci : ∀ m, m < 5 → rdN (scN N (F - lwE E N D)) (scD D (F - lwE E N D)) s m + (lwE E N D + bsN E - 1).toNat * 2 ^ F ≤ infN E F := fun m hm => (hw m hm).2.1
      have hfin : ∀ m, m < 5 → rdN (scN N (F - lwE E N D)) (scD D (F - lwE E N D)) s m + (lwE E N D + bsN E - 1).toNat * 2 ^ F < infN E F → exN E F (b m) ≠ maskN E ∧ wrQ E F (b m) = ((sgZ s (rdN (scN N (F - lwE E N D)) (scD D (F - lwE E N D)) s m) : Int) : Rat) * p2 (lwE E N D - F) := fun m hm hi => by
        obtain ⟨u1, u2, u3, u4⟩ := unit_bits hE hge (hw m hm).2.2.1 (hw m hm).2.2.2.1 rfl hi (hc m hm)
        exact ⟨u2, worth_rat hE (by omega) (by omega) (fits_bits hf u1) u2 u3 u4⟩
      have hif : ∀ m, m < 5 → exN E F (b m) ≠ maskN E → rdN (scN N (F - lwE E N D)) (scD D (F - lwE E N D)) s m + (lwE E N D + bsN E - 1).toNat * 2 ^ F < infN E F := fun m hm hne => by
        have h1 := hci m hm
        by_cases h2 : rdN (scN N (F - lwE E N D)) (scD D (F - lwE E N D)) s m + (lwE E N D + bsN E - 1).toNat * 2 ^ F = infN E F
        · refine absurd (inf_mask (s := s) hE ?_) hne
          rw [hc m hm, h2]
        · omega
      have hg2 := fun m hm => (hw m hm).2.2.2.2
      have hXd : Lb.sgX E F N D = decide (scN N (F - lwE E N D) % scD D (F - lwE E N D) = 0) := rfl
      have htwo := fun m hm => sides_two (m := m) (N := scN N (F - lwE E N D)) (D := scD D (F - lwE E N D)) s hm
      have hle := fun W => unit_le hB (p2_pos _) hx W
      have hcm := fun W V => gaps_cmp hB (p2_pos (lwE E N D - F)) hx W V
      have hdl : dlN (scN N (F - lwE E N D)) (scD D (F - lwE E N D)) = if scN N (F - lwE E N D) % scD D (F - lwE E N D) = 0 then 0 else 1 := rfl
      have hpar : b 4 % 2 = rdN (scN N (F - lwE E N D)) (scD D (F - lwE E N D)) s 4 % 2 := by
        obtain ⟨f, rfl⟩ : ∃ f, F = f + 1 := ⟨F - 1, by omega⟩
        rw [hc 4 (by decide), show E + (f + 1) = E + f + 1 by omega, Nat.pow_succ, Nat.pow_succ, ← Nat.mul_assoc]
        split <;> omega
      clear hw hbm hx
      generalize scN N (F - lwE E N D) = A at *
      generalize scD D (F - lwE E N D) = B at *
      generalize p2 (lwE E N D - F) = u at *
      generalize (lwE E N D + bsN E - 1).toNat * 2 ^ F = T at *
      refine ⟨fun m _ => hbl m, ?_, fun m hm => ?_, ?_⟩
      · rw [hc 2 (by decide), hc 3 (by decide), hc 4 (by decide), r2, r3, r4]
        cases s <;> simp
      · rw [hc m hm, hc 3 (by decide), hc 4 (by decide)]
        rcases htwo m hm with h | h <;> rw [h]
        · exact .inl rfl
        · exact .inr rfl
      · by_cases h0 : A % B = 0
        · left
          rw [if_pos h0] at hdl
          rw [hdl] at r3 r4 t3
          have h34 : rdN A B s 3 = rdN A B s 4 := by rw [r3, r4]
          have h4 : rdN A B s 4 + T < infN E F := by rw [r4]; simpa using hk
          obtain ⟨w1, w2⟩ := hfin 4 (by decide) h4
          refine ⟨fun m hm => ?_, ?_, w1, ?_⟩
          · rw [hgm]
            rcases hg2 m hm with ⟨_, h⟩ | ⟨h, _⟩
            · exact h
            · rw [hXd, decide_eq_true h0] at h
              cases h
          · rw [hc 3 (by decide), hc 4 (by decide), h34]
          · rw [w2]
            rw [h34] at t2
            exact Rat.le_antisymm ((hle _).1.2 t1) ((hle _).2.2 t2)
        · right
          rw [if_neg h0] at hdl
          rw [hdl] at r3 r4 t3
          have hgv : ∀ m, m < 5 → g m = 1 ∨ g m = 3 ∨ g m = 5 := fun m hm => by
            rw [hgm]
            rcases hg2 m hm with ⟨h, _⟩ | ⟨_, h⟩
            · rw [hXd, decide_eq_false h0] at h
              cases h
            · exact h
          have hne : ∀ W : Int, sgZ s A ≠ W * B := fun W h => by
            have h1 : ((A : Int)) % (B : Int) = 0 := by
              unfold sgZ at h
              cases s
              · simp only [Bool.false_eq_true, if_false] at h
                rw [h]
                exact Int.mul_emod_left _ _
              · simp only [if_true] at h
                have : (A : Int) = (-W) * B := by rw [Int.neg_mul, ← h, Int.neg_neg]
                rw [this]
                exact Int.mul_emod_left _ _
            omega
          have c34 : ∀ m, m < 5 → rdN A B s m + T < 2 ^ (E + F) := fun m hm => by have := hci m hm; omega
          refine ⟨hgv, ?_, ?_, fun h => ?_, fun h => ?_, fun h h' c hcc => ?_⟩
          · rw [key_parts (c34 3 (by decide)) (hc 3 (by decide)), key_parts (c34 4 (by decide)) (hc 4 (by decide)), r3, r4]
            unfold sgZ
            cases s <;> simp <;> omega
          · cases s
            · exact .inl (hfin 4 (by decide) (by rw [r4]; simpa using hk)).1
            · exact .inr (hfin 3 (by decide) (by rw [r3]; simpa using hk)).1
          · rw [(hfin 4 (by decide) (hif 4 (by decide) h)).2]
            refine Rat.not_le.1 fun hh => ?_
            have h1 := (hle _).2.1 hh
            exact hne _ (Int.le_antisymm h1 t1)
          · rw [(hfin 3 (by decide) (hif 3 (by decide) h)).2]
            refine Rat.not_le.1 fun hh => ?_
            have h1 := (hle _).1.1 hh
            exact hne _ (Int.le_antisymm t2 h1)
          · rw [(hfin 4 (by decide) (hif 4 (by decide) h)).2, (hfin 3 (by decide) (hif 3 (by decide) h')).2, hcm] at hcc
            obtain ⟨z1, z2⟩ := t4 c hcc
            rw [hdl] at z1
            rw [hpar, hc 0 (by decide), hc 1 (by decide), hc 3 (by decide), hc 4 (by decide), z1, z2]
            constructor
            · by_cases hq : 0 < c ∨ c = 0 ∧ rdN A B s 4 % 2 = 1
              · simp only [and_true, if_pos hq]
              · simp only [and_true, if_neg hq]
            · by_cases hq : 0 < c ∨ c = 0 ∧ s = false
              · simp only [if_pos hq]
              · simp only [if_neg hq]

end Go.Proofs.YtaddnoneoflimaaGreatDoor

