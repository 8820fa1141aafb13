/-
  Plain: of a fraction the whole numbers by Down and Up lie one on each side of it, at most one apart; which of the two Even and Away take. No program in sight.
-/
import Derived.Test.YteoceoepakfgiaaGreatDoorOrdL
namespace Go.Lb
open Go.RowKit Go.Proofs.YteoceoepakfgiaaGreatDoor

/-- A number with its sign. -/
def sgZ (s : Bool) (R : Nat) : Int := if s = true then -(R : Int) else (R : Int)
/-- How two whole numbers stand. -/
def cmpZ (x y : Int) : Int := if x < y then -1 else if y < x then 1 else 0
/-- How far Up lies from Down. -/
def dlN (N D : Nat) : Nat := if N % D = 0 then 0 else 1

theorem sides_rd (N D : Nat) (s : Bool) : rdN N D s 2 = N / D ∧ rdN N D s 3 = N / D + (if s = true then 0 else dlN N D) ∧ rdN N D s 4 = N / D + (if s = true then dlN N D else 0) := by
  unfold rdN dlN mdB
  by_cases h : N % D = 0 <;> cases s <;> simp [h]

theorem sides_near (N D : Nat) (s : Bool) : rdN N D s 0 = N / D + (if dlN N D = 0 then 0 else if 0 < cmpN (2 * (N % D)) D ∨ cmpN (2 * (N % D)) D = 0 ∧ N / D % 2 = 1 then 1 else 0) ∧ rdN N D s 1 = N / D + (if dlN N D = 0 then 0 else if 0 ≤ cmpN (2 * (N % D)) D then 1 else 0) := by
  unfold rdN dlN mdB
  by_cases h : N % D = 0 <;> simp [h]

/-- What Down and Up are; which of the two Even and Away take, by what lies on each side. -/
theorem sides_take {N D : Nat} (hD : 0 < D) (s : Bool) :
    sgZ s (rdN N D s 4) * D ≤ sgZ s N ∧ sgZ s N ≤ sgZ s (rdN N D s 3) * D ∧ sgZ s (rdN N D s 3) = sgZ s (rdN N D s 4) + dlN N D ∧
    ∀ c, c = cmpZ (2 * sgZ s N) ((sgZ s (rdN N D s 3) + sgZ s (rdN N D s 4)) * D) →
      rdN N D s 0 = (if 0 < c ∨ c = 0 ∧ rdN N D s 4 % 2 = 1 ∧ dlN N D = 1 then rdN N D s 3 else rdN N D s 4) ∧
      rdN N D s 1 = (if 0 < c ∨ c = 0 ∧ s = false then rdN N D s 3 else rdN N D s 4) := by
  obtain ⟨_, h3, h4⟩ := sides_rd N D s
  obtain ⟨h0, h1⟩ := sides_near N D s
  rw [h3, h4, h0, h1]
  have e := Nat.div_add_mod N D
  have hr := Nat.mod_lt N hD
  have hd : (dlN N D = 0 ∧ N % D = 0) ∨ (dlN N D = 1 ∧ N % D ≠ 0) := by unfold dlN; split <;> simp [*]
  clear h0 h1 h3 h4
  generalize N / D = k at *
  generalize N % D = r at *
  generalize dlN N D = d at *
  have e2 : ((k : Int)) * D = ((D * k : Nat) : Int) := by push_cast; exact Int.mul_comm _ _
  have e3 : ((k + 1 : Nat) : Int) * D = ((D * k : Nat) : Int) + D := by push_cast; rw [Int.add_mul, Int.one_mul, Int.mul_comm]
  generalize D * k = P at *
  unfold sgZ cmpZ cmpN
  rcases hd with ⟨rfl, rfl⟩ | ⟨rfl, hr0⟩
  · cases s
    · simp only [Bool.false_eq_true, if_false, Nat.add_zero, if_true, Int.add_mul, e2]
      refine ⟨by omega, by omega, by omega, ?_⟩
      intro c hc
      simp
    · simp only [if_true, Nat.add_zero, Int.add_mul, Int.neg_mul, e2]
      refine ⟨by omega, by omega, by omega, ?_⟩
      intro c hc
      simp
  · cases s
    · simp only [Bool.false_eq_true, if_false, Nat.add_zero, Int.add_mul, e2, e3]
      refine ⟨by omega, by omega, by omega, ?_⟩
      rintro c rfl
      constructor <;> (repeat' split) <;> simp_all <;> omega
    · simp only [if_true, Nat.add_zero, Int.add_mul, Int.neg_mul, e2, e3]
      refine ⟨by omega, by omega, by omega, ?_⟩
      rintro c rfl
      constructor <;> (repeat' split) <;> simp_all <;> omega

theorem sgQ_num {s : Bool} {N D : Nat} (hD : D ≠ 0) (hG : Nat.gcd N D = 1) : (sgQ' s N D).num = sgZ s N ∧ (sgQ' s N D).den = D := by
  unfold sgQ' sgZ
  have hg : D.gcd (if s = true then -(N : Int) else (N : Int)).natAbs = 1 := by
    cases s <;> simp [Nat.gcd_comm, hG]
  constructor
  · rw [Rat.num_mkRat, if_neg hD, hg]
    simp
  · rw [Rat.den_mkRat, if_neg hD, hg]
    simp

/-- Less and greater of a fraction and a whole number of units. -/
theorem unit_le {x u : Rat} {B : Nat} {Z : Int} (hB : 0 < B) (hu : 0 < u) (hx : x * B = Z * u) (W : Int) : ((W : Rat) * u ≤ x ↔ W * B ≤ Z) ∧ (x ≤ (W : Rat) * u ↔ Z ≤ W * B) := by
  have hb : (0 : Rat) < (B : Rat) := Rat.natCast_pos.2 hB
  constructor
  · constructor
    · intro h
      have h1 := Rat.mul_le_mul_of_nonneg_right h (Rat.le_of_lt hb)
      rw [hx, Rat.mul_assoc, Rat.mul_comm u, ← Rat.mul_assoc] at h1
      have h2 := Rat.le_of_mul_le_mul_right h1 hu
      have h3 : ((W * B : Int) : Rat) ≤ (Z : Rat) := by rw [Rat.intCast_mul]; exact h2
      exact Rat.intCast_le_intCast.1 h3
    · intro h
      have h3 : ((W * B : Int) : Rat) ≤ (Z : Rat) := Rat.intCast_le_intCast.2 h
      rw [Rat.intCast_mul] at h3
      have h1 := Rat.mul_le_mul_of_nonneg_right h3 (Rat.le_of_lt hu)
      rw [← hx, Rat.mul_assoc, Rat.mul_comm _ u, ← Rat.mul_assoc] at h1
      exact Rat.le_of_mul_le_mul_right h1 hb
  · constructor
    · intro h
      have h1 := Rat.mul_le_mul_of_nonneg_right h (Rat.le_of_lt hb)
      rw [hx, Rat.mul_assoc, Rat.mul_comm u, ← Rat.mul_assoc] at h1
      have h2 := Rat.le_of_mul_le_mul_right h1 hu
      have h3 : (Z : Rat) ≤ ((W * B : Int) : Rat) := by rw [Rat.intCast_mul]; exact h2
      exact Rat.intCast_le_intCast.1 h3
    · intro h
      have h3 : (Z : Rat) ≤ ((W * B : Int) : Rat) := Rat.intCast_le_intCast.2 h
      rw [Rat.intCast_mul] at h3
      have h1 := Rat.mul_le_mul_of_nonneg_right h3 (Rat.le_of_lt hu)
      rw [← hx, Rat.mul_assoc, Rat.mul_comm _ u, ← Rat.mul_assoc] at h1
      exact Rat.le_of_mul_le_mul_right h1 hb

theorem gaps_le (x a b : Rat) : (x - a ≤ b - x ↔ 2 * x ≤ a + b) ∧ (b - x ≤ x - a ↔ a + b ≤ 2 * x) := by
  constructor <;> constructor <;> intro h <;> grind

/-- How the gaps on both sides of a fraction stand: by whole numbers. -/
theorem gaps_cmp {x u : Rat} {B : Nat} {Z : Int} (hB : 0 < B) (hu : 0 < u) (hx : x * B = Z * u) (W V : Int) : cmpQ (x - (W : Rat) * u) ((V : Rat) * u - x) = cmpZ (2 * Z) ((V + W) * B) := by
  have h2 : (2 * x) * B = ((2 * Z : Int) : Rat) * u := by
    rw [Rat.mul_assoc, hx, Rat.intCast_mul, Rat.mul_assoc]
    rfl
  obtain ⟨p1, p2⟩ := unit_le hB hu h2 (V + W)
  obtain ⟨g1, g2⟩ := gaps_le x ((W : Rat) * u) ((V : Rat) * u)
  have e : ((V + W : Int) : Rat) * u = (W : Rat) * u + (V : Rat) * u := by rw [Rat.intCast_add, Rat.add_mul, Rat.add_comm]
  rw [e] at p1 p2
  unfold cmpQ cmpZ
  simp only [← Rat.not_le, ← Int.not_le, g1, g2, p1, p2]

theorem mk_intz (z : Int) : mkRat z 1 = (z : Rat) := by
  have h := Rat.mkRat_self ((z : Int) : Rat)
  rwa [Rat.num_intCast, Rat.den_intCast] at h

/-- What the law RoundInteger needs of a fraction in lowest terms. -/
theorem integer_facts {N D : Nat} {s : Bool} (hD : D ≠ 0) (hG : Nat.gcd N D = 1) :
    decide ((sgQ' s N D - sgQ' (nzB s (rdN N D s 4)) (rdN N D s 4) 1).num < 0) = false ∧
    decide ((sgQ' (nzB s (rdN N D s 3)) (rdN N D s 3) 1 - sgQ' s N D).num < 0) = false ∧
    sgQ' (nzB s (rdN N D s 3)) (rdN N D s 3) 1 - sgQ' (nzB s (rdN N D s 4)) (rdN N D s 4) 1 = ((dlN N D : Int) : Rat) ∧
    rdN N D s 2 = (if s = true then rdN N D s 3 else rdN N D s 4) ∧
    ∀ c, c = cmpQ (sgQ' s N D - sgQ' (nzB s (rdN N D s 4)) (rdN N D s 4) 1) (sgQ' (nzB s (rdN N D s 3)) (rdN N D s 3) 1 - sgQ' s N D) →
      rdN N D s 0 = (if 0 < c ∨ c = 0 ∧ rdN N D s 4 % 2 = 1 ∧ dlN N D = 1 then rdN N D s 3 else rdN N D s 4) ∧
      rdN N D s 1 = (if 0 < c ∨ c = 0 ∧ s = false then rdN N D s 3 else rdN N D s 4) := by
  have hw : ∀ R, sgQ' (nzB s R) R 1 = (sgZ s R : Rat) * 1 := fun R => by
    rw [Rat.mul_one]
    have : (if nzB s R = true then -(R : Int) else (R : Int)) = sgZ s R := by
      unfold nzB sgZ
      cases s
      · rfl
      · by_cases h : R = 0
        · subst h; rfl
        · simp [h]
    unfold sgQ'
    rw [this]
    exact mk_intz _
  obtain ⟨q1, q2⟩ := sgQ_num (s := s) hD hG
  have hB : 0 < D := Nat.pos_of_ne_zero hD
  have hx : sgQ' s N D * (D : Rat) = ((sgZ s N : Int) : Rat) * 1 := by
    rw [Rat.mul_one]
    have h1 := Rat.mkRat_self (sgQ' s N D)
    rw [q1, q2] at h1
    rw [← h1, Rat.mkRat_eq_div, Rat.div_mul_cancel]
    exact Rat.ne_of_gt (Rat.natCast_pos.2 hB)
  obtain ⟨t1, t2, t3, t4⟩ := sides_take (N := N) hB s
  obtain ⟨r2, r3, r4⟩ := sides_rd N D s
  have one : (0 : Rat) < 1 := by decide
  rw [hw, hw, gaps_cmp hB one hx]
  refine ⟨?_, ?_, ?_, ?_, t4⟩
  · refine decide_eq_false (Int.not_lt.2 (Rat.num_nonneg.2 ((Rat.le_iff_sub_nonneg _ _).1 ((unit_le hB one hx _).1.2 t1))))
  · refine decide_eq_false (Int.not_lt.2 (Rat.num_nonneg.2 ((Rat.le_iff_sub_nonneg _ _).1 ((unit_le hB one hx _).2.2 t2))))
  · rw [Rat.mul_one, Rat.mul_one, ← Rat.intCast_sub, t3]
    congr 1
    omega
  · rw [r2, r3, r4]
    cases s <;> simp

theorem sides_two {N D m : Nat} (s : Bool) (hm : m < 5) : rdN N D s m = rdN N D s 4 ∨ rdN N D s m = rdN N D s 3 := by
  obtain ⟨h2, h3, h4⟩ := sides_rd N D s
  obtain ⟨h0, h1⟩ := sides_near N D s
  have hd : dlN N D = 0 ∨ dlN N D = 1 := by unfold dlN; split <;> simp
  have hmm : m = 0 ∨ m = 1 ∨ m = 2 ∨ m = 3 ∨ m = 4 := by omega
  rcases hmm with rfl | rfl | rfl | rfl | rfl
  · rw [h0, h3, h4]
    rcases hd with h | h <;> rw [h] <;> cases s <;> simp <;> (try split) <;> omega
  · rw [h1, h3, h4]
    rcases hd with h | h <;> rw [h] <;> cases s <;> simp <;> (try split) <;> omega
  · rw [h2, h3, h4]
    cases s <;> simp
  · exact .inr rfl
  · exact .inl rfl

theorem nz_nz (s : Bool) (R : Nat) : nzB (nzB s R) R = nzB s R := by
  unfold nzB
  cases s <;> simp

/-- A rounded number is the fraction itself just if it is a whole number. -/
theorem same_exact {N D m : Nat} {s : Bool} (hD : D ≠ 0) (hG : Nat.gcd N D = 1) (hs : s = true → N ≠ 0) : decide (nzB s (rdN N D s m) = s ∧ limbs (rdN N D s m) = limbs N ∧ limbs 1 = limbs D) = exB N D := by
  by_cases h1 : D = 1
  · subst h1
    have e : rdN N 1 s m = N := by unfold rdN; simp [Nat.mod_one]
    have e2 : exB N 1 = true := by unfold exB; simp [Nat.mod_one]
    rw [e, e2]
    refine decide_eq_true ⟨?_, rfl, rfl⟩
    unfold nzB
    cases s
    · rfl
    · simp [hs rfl]
  · have e2 : exB N D = false := by
      refine decide_eq_false fun h => ?_
      have hd := Nat.dvd_of_mod_eq_zero h
      have := Nat.gcd_eq_right hd
      omega
    rw [e2]
    refine decide_eq_false ?_
    rintro ⟨_, _, h⟩
    have := congrArg val h
    rw [val_limbs', val_limbs'] at this
    omega

theorem limbs_odd (R : Nat) : ((limbs R).length = 0 ∧ R = 0) ∨ (0 < (limbs R).length ∧ nth (limbs R) 0 % 2 = R % 2) := by
  by_cases h : R = 0
  · subst h
    exact .inl ⟨by rw [limbs_zero]; rfl, rfl⟩
  · right
    rw [limbs_pos h]
    refine ⟨by simp, ?_⟩
    show R % 4294967296 % 2 = R % 2
    omega

end Go.Lb
