/-
  Plain: a dyadic as a fraction and back, a fraction that is a dyadic and back. No program in sight.
-/
import Derived.Test.YteoceoepakfgiaaDoorRtI
namespace Go.Proofs.YteoceoepakfgiaaDoor
open Go.RowKit Go.Lb

theorem bk_ratB {s : Bool} {N D : Nat} (l1 : (limbs N).length ≤ 16384) (l2 : (limbs D).length ≤ 16384) (hD : D ≠ 0) (hG : Nat.gcd N D = 1) (hs : s = true → N ≠ 0) : ratB s (limbs N) (limbs D) = true := by
  refine decide_eq_true ⟨chk_limbs l1, chk_limbs l2, fun h => ?_, ?_, fun h => ?_⟩
  · have := val_limbs' D
    rw [List.eq_nil_of_length_eq_zero h] at this
    exact hD this.symm
  · rw [val_limbs', val_limbs']
    exact hG
  · rw [val_limbs']
    exact hs h

theorem tz_two (k : Nat) : tz (2 ^ k) = k := tz_unique (m := 0) (by rw [Nat.mul_zero, Nat.zero_add, Nat.mul_one])

theorem sz_two (k : Nat) : szN (limbs (2 ^ k)) = k + 1 := by
  have hf := fine_limbs (2 ^ k)
  have hn : (limbs (2 ^ k)).length ≠ 0 := fun hh => absurd ((val_zero hf).2 hh) (by rw [val_limbs']; exact Nat.ne_of_gt (Nat.two_pow_pos k))
  obtain ⟨h1, h2, h3⟩ := sz_fine hf hn
  rw [val_limbs'] at h2 h3
  have h4 := (Nat.pow_le_pow_iff_right (by decide : 1 < 2)).1 h2
  have h5 := (Nat.pow_lt_pow_iff_right (by decide : 1 < 2)).1 h3
  omega

/-- What a dyadic that may be is: nought, or an odd number and a power of two. -/
theorem dchk_parts {s : Bool} {xs : List Nat} {x : Int} (hok : Ok xs) (h : dchk s xs x = 0) : Fine xs ∧ ((val xs = 0 ∧ s = false ∧ x = 0) ∨ (val xs % 2 = 1 ∧ -1073741824 ≤ x ∧ x ≤ 1073741824)) := by
  unfold dchk at h
  by_cases hc : chk xs = 0
  · rw [if_neg (fun h1 => h1 hc)] at h
    have hf := fine_of_chk hok hc
    refine ⟨hf, ?_⟩
    by_cases hl : xs.length = 0
    · rw [if_pos hl] at h
      have hp : ¬ (s = true ∨ x ≠ 0) := fun h1 => by rw [if_pos h1] at h; exact absurd h (by decide)
      refine .inl ⟨(val_zero hf).2 hl, ?_, ?_⟩
      · cases s
        · rfl
        · exact absurd (.inl rfl) hp
      · by_cases hx : x = 0
        · exact hx
        · exact absurd (.inr hx) hp
    · rw [if_neg hl] at h
      have hp : ¬ (nth xs 0 % 2 = 0 ∨ farB x = true) := fun h1 => by rw [if_pos h1] at h; exact absurd h (by decide)
      have h2 : ¬ farB x = true := fun h1 => hp (.inr h1)
      have h3 : ¬ (x < -1073741824 ∨ 1073741824 < x) := fun h1 => h2 (decide_eq_true h1)
      refine .inr ⟨?_, by omega, by omega⟩
      have h4 : ¬ nth xs 0 % 2 = 0 := fun h1 => hp (.inl h1)
      match xs, hl with
      | y :: r, _ =>
        have h5 : nth (y :: r) 0 = y := rfl
        rw [h5] at h4
        have h6 : val (y :: r) = y + 4294967296 * val r := rfl
        omega
  · rw [if_pos hc] at h
    exact absurd h hc

theorem odd_tz0 {n : Nat} (h : n % 2 = 1) : tz n = 0 := tz_unique (m := n / 2) (by rw [Nat.pow_zero]; omega)

/-- A dyadic as a fraction, and back. -/
theorem back_dy {s : Bool} {xs : List Nat} {x : Int} (hok : Ok xs) (hd : dchk s xs x = 0) (b1 : bigE (raN xs x) = 0) (b2 : bigE (raD x) = 0) :
    ofI s (limbs (raN xs x)) (limbs (raD x)) = true ∧ ofD s (limbs (raN xs x)) (limbs (raD x)) = ⟨s, val xs, x, 0⟩ := by
  obtain ⟨hf, hp⟩ := dchk_parts hok hd
  have l1 : (limbs (raN xs x)).length ≤ 16384 := by
    unfold bigE at b1
    by_cases h : (limbs (raN xs x)).length ≤ 16384
    · exact h
    · rw [if_neg h] at b1; exact absurd b1 (by decide)
  have l2 : (limbs (raD x)).length ≤ 16384 := by
    unfold bigE at b2
    by_cases h : (limbs (raD x)).length ≤ 16384
    · exact h
    · rw [if_neg h] at b2; exact absurd b2 (by decide)
  have hD : raD x = 2 ^ (max 0 (-x)).toNat := rfl
  have hD0 : raD x ≠ 0 := Nat.ne_of_gt (Nat.two_pow_pos _)
  have hN : raN xs x = val xs * 2 ^ (max 0 x).toNat := rfl
  have hG : Nat.gcd (raN xs x) (raD x) = 1 := by
    rcases hp with ⟨h0, _, hx⟩ | ⟨ho, _, _⟩
    · rw [hD, hx]
      exact Nat.gcd_one_right _
    · by_cases hx : 0 ≤ x
      · rw [hD, show (max 0 (-x)).toNat = 0 by omega, Nat.pow_zero, Nat.gcd_one_right]
      · rw [hD, hN, show (max 0 x).toNat = 0 by omega, Nat.pow_zero, Nat.mul_one, gcd_pow (by omega), odd_tz0 ho, Nat.zero_min, Nat.pow_zero]
  have hs : s = true → raN xs x ≠ 0 := fun h => by
    rcases hp with ⟨_, hs, _⟩ | ⟨ho, _, _⟩
    · rw [hs] at h; cases h
    · rw [hN]
      exact Nat.mul_ne_zero (by omega) (Nat.ne_of_gt (Nat.two_pow_pos _))
  have hI : ofI s (limbs (raN xs x)) (limbs (raD x)) = true := by
    unfold ofI
    rw [bk_ratB l1 l2 hD0 hG hs, val_limbs', hD, tz_two, sz_two]
    simp
  refine ⟨hI, ?_⟩
  unfold ofD
  rw [if_pos hI]
  have hz : (1 : Int) - (szN (limbs (raD x)) : Int) = -((max 0 (-x)).toNat : Int) := by rw [hD, sz_two]; omega
  rw [hz]
  rcases hp with ⟨h0, hs0, hx⟩ | ⟨ho, hx1, hx2⟩
  · have hN0 : raN xs x = 0 := by rw [hN, h0, Nat.zero_mul]
    obtain ⟨m1, _⟩ := mk_zero (x := -((max 0 (-x)).toNat : Int)) (chk_limbs l1) (by rw [val_limbs']; exact hN0)
    obtain ⟨m3, m4, m5⟩ := mk_no s m1
    rw [m3, m4, m5, h0, hs0, hx]
  · have ht : tz (raN xs x) = (max 0 x).toNat := tz_unique (m := val xs / 2) (by rw [hN, Nat.mul_comm]; congr 1; omega)
    have hB : mkB (limbs (raN xs x)) (-((max 0 (-x)).toNat : Int)) = true := by
      unfold mkB
      rw [val_limbs', ht]
      refine decide_eq_true ⟨chk_limbs l1, ?_, by omega, by omega, by omega, by omega⟩
      rw [hN]
      exact Nat.mul_ne_zero (by omega) (Nat.ne_of_gt (Nat.two_pow_pos _))
    obtain ⟨m1, m2, m3, _⟩ := mk_yes s hB
    rw [m1, m2, m3, val_limbs', ht, hN, Nat.mul_div_cancel _ (Nat.two_pow_pos _), show -((max 0 (-x)).toNat : Int) + ((max 0 x).toNat : Int) = x by omega]

/-- What a dyadic number of limbs passes. -/
theorem odd_dchk {s : Bool} {n : Nat} {X : Int} (hn : n % 2 = 1) (hl : (limbs n).length ≤ 16384) (h1 : -1073741824 ≤ X) (h2 : X ≤ 1073741824) : dchk s (limbs n) X = 0 := by
  have hp := limbs_pos (n := n) (by omega)
  have h5 : nth (limbs n) 0 % 2 = 1 := by
    rw [hp]
    show n % 4294967296 % 2 = 1
    omega
  have h6 : (limbs n).length ≠ 0 := by rw [hp]; simp
  unfold dchk
  rw [if_neg (by rw [chk_limbs hl]; simp), if_neg h6, if_neg]
  rintro (h | h)
  · omega
  · have := of_decide_eq_true h
    omega

/-- A fraction that is a dyadic, and back. -/
theorem back_rt {s : Bool} {xs ys : List Nat} (hx : Ok xs) (hy : Ok ys) (h : ofI s xs ys = true) (w : World) :
    RatA (ofD s xs ys).s (limbs (ofD s xs ys).N) (ofD s xs ys).x w = Rtn s (val xs) (val ys) 0 w ∧ (ofD s xs ys).e = 0 := by
  have hI := h
  unfold ofI at hI
  rw [Bool.and_eq_true] at hI
  obtain ⟨cx, cy, hl, hG, hs⟩ : chk xs = 0 ∧ chk ys = 0 ∧ ys.length ≠ 0 ∧ Nat.gcd (val xs) (val ys) = 1 ∧ (s = true → val xs ≠ 0) := of_decide_eq_true hI.1
  have hz := of_decide_eq_true hI.2
  have fx := fine_of_chk hx cx
  have fy := fine_of_chk hy cy
  have hy0 : val ys ≠ 0 := fun hh => hl ((val_zero fy).1 hh)
  have h2 := two_of_sz fy hy0 hz
  have lx := chk_zero_len cx
  have ly := chk_zero_len cy
  have hk := tz_lt hy hy0
  have ex : limbs (val xs) = xs := limbs_val fx
  have ey : limbs (val ys) = ys := limbs_val fy
  have bx : bigE (val xs) = 0 := (bigE_ok (by rw [ex]; exact lx)).1
  have bY : bigE (val ys) = 0 := (bigE_ok (by rw [ey]; exact ly)).1
  have key : ∀ (n : Nat) (X : Int) (t : Bool), (t = s) → dchk t (limbs n) X = 0 → raN (limbs n) X = val xs → raD X = val ys → RatA t (limbs n) X w = Rtn s (val xs) (val ys) 0 w := fun n X t ht hd e1 e2 => by
    have hB : raB t (limbs n) X = true := by
      unfold raB
      rw [e1, e2]
      exact decide_eq_true ⟨hd, bx, bY⟩
    unfold RatA raE
    rw [hB, if_pos rfl, if_pos rfl, if_pos rfl, e1, e2, if_neg (by simp [hd]), ht, Bool.true_and]
  obtain ⟨k, hkk⟩ : ∃ k, k = tz (val ys) := ⟨_, rfl⟩
  rw [← hkk] at h2 hz hk
  have hs1 : (1 : Int) - (szN ys : Int) = -(k : Int) := by omega
  have hO : ofD s xs ys = ⟨mkS s xs (-(k : Int)), mkN xs (-(k : Int)), mkX xs (-(k : Int)), 0⟩ := by unfold ofD; rw [if_pos h, hs1]
  rw [hO]
  refine ⟨?_, rfl⟩
  by_cases h0 : val xs = 0
  · obtain ⟨m1, _⟩ := mk_zero (x := -(k : Int)) cx h0
    obtain ⟨m3, m4, m5⟩ := mk_no s m1
    show RatA (mkS s xs (-(k : Int))) (limbs (mkN xs (-(k : Int)))) (mkX xs (-(k : Int))) w = _
    rw [m3, m4, m5]
    have hs0 : s = false := by
      cases s
      · rfl
      · exact absurd h0 (hs rfl)
    have hk0 : val ys = 1 := by rw [h0, Nat.gcd_zero_left] at hG; exact hG
    exact key 0 0 false hs0.symm (by decide) (by rw [h0]; rfl) (by rw [hk0]; rfl)
  · have ht := tz_lt hx h0
    have hB : mkB xs (-(k : Int)) = true := decide_eq_true ⟨cx, h0, by omega, by omega, by omega, by omega⟩
    obtain ⟨m1, m2, m3, _⟩ := mk_yes s hB
    show RatA (mkS s xs (-(k : Int))) (limbs (mkN xs (-(k : Int)))) (mkX xs (-(k : Int))) w = _
    rw [m1, m2, m3]
    rw [h2, gcd_pow h0] at hG
    have hmin : min (tz (val xs)) k = 0 := by
      by_cases hm : min (tz (val xs)) k = 0
      · exact hm
      · have : 2 ^ 1 ≤ 2 ^ min (tz (val xs)) k := Nat.pow_le_pow_right (by decide) (by omega)
        omega
    obtain ⟨q, hq⟩ := tz_spec h0
    have hd : val xs / 2 ^ tz (val xs) = 2 * q + 1 := by
      conv => lhs; arg 1; rw [hq]
      exact Nat.mul_div_cancel_left _ (Nat.two_pow_pos _)
    have hle : ∀ L, xs.length ≤ L → (limbs (2 * q + 1)).length ≤ L := fun L lL => by
      refine limbs_length_le ?_
      rw [← hd]
      refine Nat.lt_of_le_of_lt (Nat.div_le_self _ _) (Nat.lt_of_lt_of_le (val_lt hx) (Nat.pow_le_pow_right (by decide) lL))
    rw [hd]
    refine key (2 * q + 1) (-(k : Int) + tz (val xs)) s rfl (odd_dchk (by omega) (hle _ lx) (by omega) (by omega)) ?_ ?_
    · unfold raN
      rw [val_limbs', show (max 0 (-(k : Int) + (tz (val xs) : Int))).toNat = tz (val xs) by omega, Nat.mul_comm]
      exact hq.symm
    · unfold raD
      rw [show (max 0 (-(-(k : Int) + (tz (val xs) : Int)))).toNat = k by omega]
      exact h2.symm

end Go.Proofs.YteoceoepakfgiaaDoor
