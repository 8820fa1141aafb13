/-
  Plain: what the reference's Round (layer 7) computes is RndL's rounding; the float of the number rounded. No program in sight.
-/
import Derived.Test.YtkifhlgmbckekaaGreatDoorQMS9
import Derived.Test.YtkifhlgmbckekaaGreatDoorQMS0
namespace Go.Proofs.YtkifhlgmbckekaaGreatDoor

open Go.RowKit Go.Lb

theorem mkA_twice {s : Bool} {M : Nat} {x : Int} (h0 : M ≠ 0) (hl : (limbs (2 * M)).length ≤ 100) (hx1 : -100000 ≤ x) (hx2 : x ≤ 100000) : mkA s (2 * M) x = mkA s M (x + 1) := by
  obtain ⟨t, ht⟩ := tz_spec h0
  have hp := Nat.two_pow_pos (tz M)
  have h2 : 2 * M = 2 ^ (tz M + 1) * (2 * t + 1) := by
    conv => lhs; rw [ht]
    rw [Nat.pow_succ, Nat.mul_comm (2 ^ tz M) 2, Nat.mul_assoc]
  have htz : tz (2 * M) = tz M + 1 := tz_unique h2
  have hlM : (limbs M).length ≤ 100 := Nat.le_trans (limbs_length_le (Nat.lt_of_le_of_lt (by omega) (lt_of_limbs_length (Nat.le_refl (limbs (2 * M)).length)))) hl
  have hc : ∀ {N : Nat}, (limbs N).length ≤ 100 → chk (limbs N) = 0 := fun {N} h => by
    unfold chk
    rw [if_neg (by omega), if_neg]
    rintro ⟨h1, h2⟩
    exact fine_top (fine_limbs N) (by omega) h2
  have hte : tz M ≤ 3200 := by
    have h3 := two_pow_tz_le h0
    have h4 := lt_of_limbs_length hlM
    rw [pow32] at h4
    have := (Nat.pow_lt_pow_iff_right (by decide : 1 < 2)).1 (Nat.lt_of_le_of_lt h3 h4)
    omega
  have b1 : mkB (limbs (2 * M)) x = true := by
    unfold mkB
    rw [val_limbs', htz]
    exact decide_eq_true ⟨hc hl, by omega, by omega, by omega, by omega, by omega⟩
  have b2 : mkB (limbs M) (x + 1) = true := by
    unfold mkB
    rw [val_limbs']
    exact decide_eq_true ⟨hc hlM, h0, by omega, by omega, by omega, by omega⟩
  have d1 : 2 * M / 2 ^ (tz M + 1) = M / 2 ^ tz M := by
    rw [Nat.pow_succ, Nat.mul_comm (2 ^ tz M) 2]
    exact Nat.mul_div_mul_left _ _ (by decide)
  obtain ⟨m1, m2, m3, m4⟩ := mk_yes s b1
  obtain ⟨o1, o2, o3, o4⟩ := mk_yes s b2
  rw [val_limbs', htz] at m1 m2
  rw [val_limbs'] at o1 o2
  unfold mkA
  rw [m1, m2, m3, m4, o1, o2, o3, o4, d1]
  congr 1
  omega

theorem len_small {q F j : Nat} (hF : F ≤ 52) (hj : 2 ≤ j) (h : q ≤ 2 ^ (F + 1)) : (limbs q).length ≤ j := by
  refine limbs_length_le (Nat.lt_of_le_of_lt h ?_)
  rw [pow32]
  exact Nat.pow_lt_pow_right (by decide) (by omega)

/-- The float of what was rounded. -/
theorem bits7 {E F N D m : Nat} {neg : Bool} (hf : formE (E : Int) (F : Int) = 0) (hN : N ≠ 0) (hD : D ≠ 0) (ho : ovB E F N D neg m = false) (hq : sgM E F N D neg m ≠ 0) (hl1 : -30000 ≤ lwE E N D - F) (hl2 : lwE E N D - F ≤ 30000) :
    bitsV (E : Int) (F : Int) (mkS neg (limbs (sgM E F N D neg m)) (lwE E N D - F)) (limbs (mkN (limbs (sgM E F N D neg m)) (lwE E N D - F))) (mkX (limbs (sgM E F N D neg m)) (lwE E N D - F)) = (if neg = true then flB E F N D neg m + 2 ^ (E + F) else flB E F N D neg m) := by
  obtain ⟨e1, e2, e3, e4⟩ := formE_ok hf
  have hE : 2 ≤ E := by omega
  have hfl : flB E F N D neg m = Lb.sgB E F N D neg m := by unfold flB; rw [if_neg (by rw [ho]; decide)]
  have hlt : Lb.sgB E F N D neg m < infN E F := by
    have h1 := of_decide_eq_false ho
    omega
  have hlow : 2 ^ F ≤ sgM E F N D neg m ∨ lwE E N D = 1 - (bsN E : Int) := by
    rcases lw_cases E N D with h | ⟨_, h⟩
    · exact .inl (sg_ge hN hD neg m h)
    · exact .inr h
  obtain ⟨u1, u2, u3, u4⟩ := unit_bits (b := if neg = true then Lb.sgB E F N D neg m + 2 ^ (E + F) else Lb.sgB E F N D neg m) hE (lw_ge E N D) (sg_le hN hD neg m) hlow rfl hlt rfl
  have hMl : (limbs (sgM E F N D neg m)).length ≤ 50 := len_small (by omega) (by decide) (sg_le hN hD neg m)
  have hval : mkA neg (sgM E F N D neg m) (lwE E N D - F) = valD (E : Int) (F : Int) (if neg = true then Lb.sgB E F N D neg m + 2 ^ (E + F) else Lb.sgB E F N D neg m) := by
    rw [valD_mk (fits_bits hf u1) u2, u3]
    rcases u4 with ⟨h1, h2⟩ | ⟨h1, h2⟩
    · rw [h1, h2]
    · rw [h2]
      rw [h1] at hMl hq ⊢
      exact mkA_twice (by omega) (by omega) (by omega) (by omega)
  obtain ⟨_, _, b3⟩ := bits_value hf u1 u2 _ hval
  have hv0 : vN E F (if neg = true then Lb.sgB E F N D neg m + 2 ^ (E + F) else Lb.sgB E F N D neg m) ≠ 0 := by
    rcases u4 with ⟨h1, h2⟩ | ⟨h1, h2⟩ <;> omega
  rw [if_neg hv0] at b3
  rw [hfl]
  exact b3

/-- What the reference's Round computes on the way. -/
theorem round7_facts {E F N m : Nat} (X : Int) (neg : Bool) (hE : 2 ≤ E) (hN : N ≠ 0) (hm : m < 5) :
    X + blN N - 1 - F = lgE (upN N X) (upD X) - F ∧ max (lgE (upN N X) (upD X) - F) (1 - (bsN E : Int) - F) = lwE E (upN N X) (upD X) - F ∧
    r7N N (lwE E (upN N X) (upD X) - F - X) false neg m = sgM E F (upN N X) (upD X) neg m ∧ ctL N (lwE E (upN N X) (upD X) - F - X) false = !Lb.sgX E F (upN N X) (upD X) ∧
    r7N N (lgE (upN N X) (upD X) - F - X) false neg m = sgK F (upN N X) (upD X) neg m ∧
    ovB E F (upN N X) (upD X) neg m = decide ((bsN E : Int) + 1 < (blN (sgM E F (upN N X) (upD X) neg m) : Int) + (lwE E (upN N X) (upD X) - F)) ∧
    tiny E F (upN N X) (upD X) neg m = decide ((blN (sgK F (upN N X) (upD X) neg m) : Int) + (lgE (upN N X) (upD X) - F) ≤ 1 - (bsN E : Int)) := by
  have hU := upN_ne hN X
  have hD := upD_pos X
  have h1 := r7_up N X (F - lwE E (upN N X) (upD X)) neg hm
  have h2 := r7_up N X (F - lgE (upN N X) (upD X)) neg hm
  rw [show -((F : Int) - lwE E (upN N X) (upD X)) - X = lwE E (upN N X) (upD X) - F - X by omega] at h1
  rw [show -((F : Int) - lgE (upN N X) (upD X)) - X = lgE (upN N X) (upD X) - F - X by omega] at h2
  refine ⟨by rw [lg_of_up hN], ?_, h1.1, h1.2, h2.1, ov_len hE hU hD, tiny_len hU hD⟩
  unfold lwE
  omega

end Go.Proofs.YtkifhlgmbckekaaGreatDoor

