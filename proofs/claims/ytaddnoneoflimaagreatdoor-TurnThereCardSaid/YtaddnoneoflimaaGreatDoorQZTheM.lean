/-
  Plain: a double less its whole number: exact, less than one; the comparisons of the law TurnThere. No program in sight.
-/
import Derived.Test.YtaddnoneoflimaaGreatDoorQTwBase
import Derived.Test.YtaddnoneoflimaaGreatDoorQZTurU
namespace Go.Proofs.YtaddnoneoflimaaGreatDoor

open Go.RowKit Go.Lb

theorem sg_abs (s : Bool) (n : Nat) : (sgZ s n).natAbs = n := by unfold sgZ; cases s <;> simp

theorem sg_sides (n : Nat) : 0 ≤ sgZ false n ∧ sgZ true n ≤ 0 := by
  unfold sgZ
  simp only [Bool.false_eq_true, if_false, if_true]
  omega

theorem rat_cancel {a b c : Rat} (hc : c ≠ 0) (h : a * c = b * c) : a = b :=
  (Rat.mul_div_cancel hc).symm.trans ((congrArg (· / c) h).trans (Rat.mul_div_cancel hc))

theorem ord_num2 (s t : Bool) (m n : Nat) (i j : Int) : ∃ A B : Int, (Ieee.Datum.number s m i).order (.number t n j) = some (compare A B) ∧ (A < B ↔ dQ s m i < dQ t n j) ∧ (B < A ↔ dQ t n j < dQ s m i) := by
  refine ⟨_, _, rfl, ?_⟩
  rw [dQ_at s m i (min i j) (by omega), dQ_at t n j (min i j) (by omega)]
  have hp := p2_pos (min i j)
  generalize Ieee.signed s m (i - min i j).toNat = A
  generalize Ieee.signed t n (j - min i j).toNat = B
  rw [← Rat.intCast_lt_intCast, ← Rat.intCast_lt_intCast]
  exact ⟨(Rat.mul_lt_mul_right hp).symm, (Rat.mul_lt_mul_right hp).symm⟩

/-- How two words stand, by their worth. -/
theorem f_ord {a b : Nat} {s t : Bool} {m n : Nat} {i j : Int} (ha : FloatKind.f64.format.read a = .number s m i) (hb : FloatKind.f64.format.read b = .number t n j) :
    (FloatKind.f64.format.order a b == some .lt) = decide (dQ s m i < dQ t n j) ∧ (FloatKind.f64.format.order a b == some .gt) = decide (dQ t n j < dQ s m i) ∧ (FloatKind.f64.format.order a b == some .eq) = decide (dQ s m i = dQ t n j) := by
  have e : FloatKind.f64.format.order a b = (Ieee.Datum.number s m i).order (.number t n j) := by
    unfold Ieee.Format.order
    rw [ha, hb]
  obtain ⟨A, B, h1, h2, h3⟩ := ord_num2 s t m n i j
  rw [e, h1]
  rcases Int.lt_trichotomy A B with h | h | h
  · have hl := h2.1 h
    rw [show compare A B = .lt from Int.compare_eq_lt.2 h, decide_eq_true hl, decide_eq_false (Rat.not_lt.2 (Rat.le_of_lt hl)), decide_eq_false (fun hh => by rw [hh] at hl; exact Rat.lt_irrefl hl)]
    exact ⟨rfl, rfl, rfl⟩
  · have hl : ¬ dQ s m i < dQ t n j := fun hh => by have := h2.2 hh; omega
    have hg : ¬ dQ t n j < dQ s m i := fun hh => by have := h3.2 hh; omega
    rw [show compare A B = .eq from Int.compare_eq_eq.2 h, decide_eq_false hl, decide_eq_false hg, decide_eq_true (Rat.le_antisymm (Rat.not_lt.1 hg) (Rat.not_lt.1 hl))]
    exact ⟨rfl, rfl, rfl⟩
  · have hg := h3.1 h
    rw [show compare A B = .gt from Int.compare_eq_gt.2 h, decide_eq_true hg, decide_eq_false (Rat.not_lt.2 (Rat.le_of_lt hg)), decide_eq_false (fun hh => by rw [hh] at hg; exact Rat.lt_irrefl hg)]
    exact ⟨rfl, rfl, rfl⟩

theorem f_ords {a b : Nat} {s t : Bool} {m n : Nat} {i j : Int} (ha : FloatKind.f64.format.read a = .number s m i) (hb : FloatKind.f64.format.read b = .number t n j) :
    (dQ s m i ≤ dQ t n j → (FloatKind.f64.format.order a b == some .lt || FloatKind.f64.format.order a b == some .eq) = true) ∧ (dQ t n j ≤ dQ s m i → (FloatKind.f64.format.order a b == some .gt || FloatKind.f64.format.order a b == some .eq) = true) := by
  obtain ⟨h1, h2, h3⟩ := f_ord ha hb
  rw [h1, h2, h3]
  constructor
  · intro h
    by_cases hl : dQ s m i < dQ t n j
    · rw [decide_eq_true hl]
      rfl
    · rw [decide_eq_true (Rat.le_antisymm h (Rat.not_lt.1 hl)), Bool.or_true]
  · intro h
    by_cases hl : dQ t n j < dQ s m i
    · rw [decide_eq_true hl]
      rfl
    · rw [decide_eq_true (Rat.le_antisymm (Rat.not_lt.1 hl) h), Bool.or_true]

theorem dq_opp (t : Bool) (n : Nat) (j : Int) : dQ (!t) n j = -dQ t n j := by
  unfold dQ
  have e : sgZ (!t) n = -sgZ t n := by
    unfold sgZ
    cases t <;> simp
  rw [e, Rat.intCast_neg, Rat.neg_mul]

theorem sum_is (s t : Bool) (m n : Nat) (i j : Int) : ∃ S D, (Ieee.Datum.number s m i).sum (.number t n j) = some (.number S D (min i j)) ∧ dQ S D (min i j) = dQ s m i + dQ t n j := by
  refine ⟨_, _, rfl, ?_⟩
  rw [dQ_at s m i (min i j) (by omega), dQ_at t n j (min i j) (by omega), ← Rat.add_mul, ← Rat.intCast_add]
  generalize Ieee.signed s m (i - min i j).toNat + Ieee.signed t n (j - min i j).toNat = z
  unfold dQ
  congr 2
  by_cases h0 : z = 0
  · subst h0
    rw [if_pos rfl]
    cases s <;> cases t <;> rfl
  · rw [if_neg h0]
    unfold sgZ
    by_cases hz : z < 0
    · rw [decide_eq_true hz, if_pos rfl]
      omega
    · rw [decide_eq_false hz, if_neg (by decide)]
      omega

/-- What stands behind the point. -/
theorem frac_is (s : Bool) (M : Nat) (X : Int) : ∃ z : Int, dQ s M X - ((sgZ s (upN M X / upD X) : Int) : Rat) = (z : Rat) * p2 X ∧ z.natAbs ≤ M ∧ (z : Rat) * p2 X < 1 ∧ -1 < (z : Rat) * p2 X ∧ (s = false → 0 ≤ z) ∧ (s = true → z ≤ 0) := by
  by_cases hX : 0 ≤ X
  · refine ⟨0, ?_, by omega, ?_, ?_, fun _ => by omega, fun _ => by omega⟩
    · have e : upN M X / upD X = M * 2 ^ X.toNat := by
        unfold upN upD
        rw [show (-X).toNat = 0 by omega, Nat.pow_zero, Nat.div_one]
      rw [e]
      unfold dQ
      rw [show X = (X.toNat : Int) by omega, p2_cast, Int.toNat_natCast, ← Rat.intCast_mul]
      have e2 : sgZ s (M * 2 ^ X.toNat) = sgZ s M * ((2 ^ X.toNat : Nat) : Int) := by
        unfold sgZ
        cases s
        · simp
        · simp [Int.neg_mul]
      rw [e2, Rat.sub_self, Rat.intCast_zero, Rat.zero_mul]
    · rw [Rat.intCast_zero, Rat.zero_mul]
      decide
    · rw [Rat.intCast_zero, Rat.zero_mul]
      decide
  · have hu : upN M X = M := by
      unfold upN
      rw [show X.toNat = 0 by omega, Nat.pow_zero, Nat.mul_one]
    have hd : upD X = 2 ^ (-X).toNat := rfl
    have hP := Nat.two_pow_pos (-X).toNat
    have hb : p2 ((-X).toNat : Int) * p2 X = 1 := by
      rw [← p2_add, show ((-X).toNat : Int) + X = 0 by omega, p2_zero]
    rw [hu, hd]
    rw [p2_cast] at hb
    generalize hPP : 2 ^ (-X).toNat = P at *
    have e1 := Nat.div_add_mod M P
    have e2 := Nat.mod_lt M hP
    have hpos := p2_pos X
    have hzz : sgZ s M = sgZ s (M / P) * (P : Int) + sgZ s (M % P) := by
      have e3 : ((P * (M / P) + M % P : Nat) : Int) = (M : Int) := by rw [e1]
      rw [Int.natCast_add, Int.natCast_mul] at e3
      unfold sgZ
      cases s
      · simp only [Bool.false_eq_true, if_false]
        rw [← e3, Int.mul_comm]
      · simp only [if_true]
        rw [← e3, Int.neg_mul, Int.mul_comm (P : Int)]
        omega
    have hlt : ∀ z : Int, z < (P : Int) → (z : Rat) * p2 X < 1 := fun z hz => by
      rw [← hb]
      exact (Rat.mul_lt_mul_right hpos).2 (Rat.intCast_lt_intCast.2 hz)
    have hgt : ∀ z : Int, -(P : Int) < z → -1 < (z : Rat) * p2 X := fun z hz => by
      rw [← hb, ← Rat.neg_mul, ← Rat.intCast_neg]
      exact (Rat.mul_lt_mul_right hpos).2 (Rat.intCast_lt_intCast.2 hz)
    refine ⟨sgZ s (M % P), ?_, ?_, hlt _ ?_, hgt _ ?_, ?_, ?_⟩
    · unfold dQ
      rw [hzz, Rat.intCast_add, Rat.intCast_mul, Rat.add_mul, Rat.mul_assoc, hb, Rat.mul_one, Rat.add_comm, Rat.add_sub_cancel]
    · rw [sg_abs]
      exact Nat.mod_le _ _
    · unfold sgZ
      cases s
      · simp only [Bool.false_eq_true, if_false]
        omega
      · simp only [if_true]
        omega
    · unfold sgZ
      cases s
      · simp only [Bool.false_eq_true, if_false]
        omega
      · simp only [if_true]
        omega
    · intro h
      subst h
      unfold sgZ
      simp only [Bool.false_eq_true, if_false]
      omega
    · intro h
      subst h
      unfold sgZ
      simp only [if_true]
      omega

/-- A short multiple of a place, however it is spelled, is written exactly. -/
theorem short_word {S : Bool} {D : Nat} {base X z : Int} (h : dQ S D base = (z : Rat) * p2 X) (hb : base ≤ X) (h1 : -1074 ≤ X) (h2 : X ≤ 971) (hz : z.natAbs < 2 ^ 53) :
    ∃ m j, FloatKind.f64.format.read (FloatKind.f64.format.write (.number S D base)) = .number S m j ∧ dQ S m j = (z : Rat) * p2 X := by
  by_cases h0 : D = 0
  · subst h0
    obtain ⟨m, j, r1, r2⟩ := nil_word 11 52 S base
    refine ⟨m, j, r1, r2.trans ?_⟩
    rw [← h]
    unfold dQ
    rw [show sgZ S 0 = 0 by cases S <;> rfl, Rat.intCast_zero, Rat.zero_mul]
  · have hD : D = z.natAbs * 2 ^ (X - base).toNat := by
      have e1 : p2 X = p2 ((X - base).toNat : Int) * p2 base := by
        rw [← p2_add]
        congr 1
        omega
      unfold dQ at h
      rw [e1, p2_cast, ← Rat.mul_assoc, ← Rat.intCast_mul] at h
      have e2 := rat_cancel (Rat.ne_of_gt (p2_pos base)) h
      rw [Rat.intCast_inj] at e2
      rw [← sg_abs S D, e2, Int.natAbs_mul, Int.natAbs_natCast]
    have hz0 : z.natAbs ≠ 0 := fun hh => h0 (by rw [hD, hh, Nat.zero_mul])
    have hl : D.log2 < 53 + (X - base).toNat := (Nat.log2_lt h0).2 (by
      rw [hD, Nat.pow_add]
      exact Nat.mul_lt_mul_of_pos_right hz (Nat.two_pow_pos _))
    have e10 : (2 : Int) ^ (11 - 1) = 1024 := by decide +kernel
    rw [← h]
    refine write_exact (E := 11) (F := 52) S (by decide) h0 (by rw [e10]; omega) ?_
    unfold plN
    rw [e10]
    by_cases hp : max (base + (D.log2 : Int) - (52 : Nat)) (2 - 1024 - (52 : Nat)) ≤ base
    · exact .inl hp
    · right
      refine Nat.mod_eq_zero_of_dvd ?_
      rw [hD]
      refine Nat.dvd_trans (Nat.pow_dvd_pow 2 ?_) (Nat.dvd_mul_left _ _)
      rw [← hD]
      omega

theorem tc_is {b : Nat} (hx : exN 11 52 b ≠ maskN 11) : tcN b = FloatKind.f64.encode (.number (sgB 11 52 b) (upN (vN 11 52 b) (vX 11 52 b) / upD (vX 11 52 b)) 0) := by
  unfold tcN
  rw [dec_fin hx]
  congr 1
  unfold Ieee.Datum.integral
  simp only
  rw [cut_zero, Nat.shiftLeft_eq]
  rfl

/-- The whole number as a double. -/
theorem back_word {b : Nat} (hx : exN 11 52 b ≠ maskN 11) : ∃ t K Y, FloatKind.f64.format.read (floatOfInt .f64 (tzN b)) = .number t K Y ∧ dQ t K Y = ((tzN b : Int) : Rat) := by
  by_cases h0 : upN (vN 11 52 b) (vX 11 52 b) / upD (vX 11 52 b) = 0
  · have hz : tzN b = 0 := by
      unfold tzN
      rw [h0]
      cases sgB 11 52 b <;> rfl
    rw [hz]
    obtain ⟨m, j, r1, r2⟩ := read_nil (E := 11) (F := 52) false
    exact ⟨_, m, j, r1, r2⟩
  · obtain ⟨m, j, r1, r2⟩ := trunc_stand hx
    have e : floatOfInt .f64 (tzN b) = tcN b := by
      rw [tc_is hx]
      unfold floatOfInt FloatKind.nearest tzN
      generalize upN (vN 11 52 b) (vX 11 52 b) / upD (vX 11 52 b) = T at *
      generalize sgB 11 52 b = s
      have e1 : (sgZ s T).natAbs = T := by unfold sgZ; cases s <;> simp
      have e2 : decide (sgZ s T < 0) = s := by
        unfold sgZ
        cases s
        · exact decide_eq_false (by simp)
        · exact decide_eq_true (by simp; omega)
      rw [e1, e2]
    exact ⟨_, m, j, by rw [e]; exact r1, r2⟩

theorem one_read : FloatKind.f64.format.read 4607182418800017408 = .number false 4503599627370496 (-52) := by decide +kernel

theorem one_dq : dQ false 4503599627370496 (-52) = 1 := by
  have h := dq_same false (K := 4503599627370496) (T := 1) (place := -52) (i := 0) (by decide)
  rw [h]
  unfold dQ
  rw [p2_zero, Rat.mul_one]
  rfl

theorem zero_dq (s : Bool) (i : Int) : dQ s 0 i = 0 := by
  unfold dQ
  rw [show sgZ s 0 = 0 by cases s <;> rfl, Rat.intCast_zero, Rat.zero_mul]

theorem sub_nonpos_le {a b : Rat} (h : a - b ≤ 0) : a ≤ b := by
  have := Rat.neg_le_neg h
  rw [Rat.neg_zero, Rat.neg_sub] at this
  exact (Rat.le_iff_sub_nonneg _ _).2 this

theorem ex_of_nonum_inv {b : Nat} (hx : exN 11 52 b = maskN 11) : ∀ s m i, FloatKind.f64.format.read b ≠ .number s m i := fun s m i h => by
  rw [show FloatKind.f64.format.read b = _ from (read_is 11 52 b (by decide)).trans (if_pos hx)] at h
  split at h <;> cases h

/-- The comparisons of the law TurnThere, of a double whose whole number came of it. -/
theorem there_facts {b : Nat} (hx : exN 11 52 b ≠ maskN 11) :
    (FloatKind.f64.format.order (tcN b) (floatOfInt .f64 (tzN b)) == some .eq) = true ∧
    (∃ d, floatBits .sub .f64 b (floatOfInt .f64 (tzN b)) = some d ∧ (FloatKind.f64.format.order d 4607182418800017408 == some .lt) = true) ∧
    (∃ d, floatBits .sub .f64 (floatOfInt .f64 (tzN b)) b = some d ∧ (FloatKind.f64.format.order d 4607182418800017408 == some .lt) = true) ∧
    ((FloatKind.f64.format.order (floatOfInt .f64 (tzN b)) b == some .lt || FloatKind.f64.format.order (floatOfInt .f64 (tzN b)) b == some .eq) = true ∨ (FloatKind.f64.format.order b 0 == some .lt) = true) ∧
    ((FloatKind.f64.format.order (floatOfInt .f64 (tzN b)) b == some .gt || FloatKind.f64.format.order (floatOfInt .f64 (tzN b)) b == some .eq) = true ∨ (FloatKind.f64.format.order b 0 == some .gt) = true) := by
  obtain ⟨t, K, Y, y1, y2⟩ := back_word hx
  obtain ⟨mc, jc, c1, c2⟩ := trunc_stand hx
  have hb : FloatKind.f64.format.read b = _ := dec_fin hx
  have hfl := flt_of (F := 52) (b := b) (by decide : 2 ≤ 11) hx
  have k1 := hfl.hr
  have k2 := hfl.he
  have k3 := hfl.hm
  have k4 := hfl.hx
  have hM : vN 11 52 b < 2 ^ 53 := by
    have e : (2 : Nat) ^ 53 = 2 * 2 ^ 52 := by decide
    rw [e]
    split at k3 <;> omega
  have hX : -1074 ≤ vX 11 52 b ∧ vX 11 52 b ≤ 971 := by
    have e : bsN 11 = 1023 := by decide
    rw [e] at k4 k2
    split at k4 <;> omega
  obtain ⟨z, z1, z2, z3, z4, z5, z6⟩ := frac_is (sgB 11 52 b) (vN 11 52 b) (vX 11 52 b)
  have hc2 : dQ (sgB 11 52 b) mc jc = ((tzN b : Int) : Rat) := c2
  have z1' : dQ (sgB 11 52 b) (vN 11 52 b) (vX 11 52 b) - ((tzN b : Int) : Rat) = (z : Rat) * p2 (vX 11 52 b) := z1
  clear c2 z1 k1 k2 k3 k4 hfl
  have o1 := f_ord c1 y1
  have hyb := f_ords y1 hb
  obtain ⟨_, _, _, r4⟩ := ends_read
  have ob := f_ord hb r4
  rw [zero_dq] at ob
  have hs : sgB 11 52 b = false → 0 ≤ dQ (sgB 11 52 b) (vN 11 52 b) (vX 11 52 b) := fun h => by
    rw [h]
    unfold dQ
    exact Rat.mul_nonneg (by rw [show sgZ false (vN 11 52 b) = ((vN 11 52 b : Nat) : Int) from rfl]; exact Rat.intCast_nonneg.2 (by omega)) (Rat.le_of_lt (p2_pos _))
  have hs2 : sgB 11 52 b = true → dQ (sgB 11 52 b) (vN 11 52 b) (vX 11 52 b) ≤ 0 := fun h => by
    have e := dq_opp false (vN 11 52 b) (vX 11 52 b)
    have : 0 ≤ dQ false (vN 11 52 b) (vX 11 52 b) := by
      unfold dQ
      exact Rat.mul_nonneg (by rw [show sgZ false (vN 11 52 b) = ((vN 11 52 b : Nat) : Int) from rfl]; exact Rat.intCast_nonneg.2 (by omega)) (Rat.le_of_lt (p2_pos _))
    rw [h, show true = !false from rfl, e, ← Rat.neg_zero]
    exact Rat.neg_le_neg this
  have hpos := Rat.le_of_lt (p2_pos (vX 11 52 b))
  have zp : 0 ≤ z → 0 ≤ (z : Rat) * p2 (vX 11 52 b) := fun h => Rat.mul_nonneg (Rat.intCast_nonneg.2 h) hpos
  have zn : z ≤ 0 → (z : Rat) * p2 (vX 11 52 b) ≤ 0 := fun h => by
    have := Rat.mul_nonneg (Rat.intCast_nonneg.2 (show 0 ≤ -z by omega)) hpos
    rw [Rat.intCast_neg, Rat.neg_mul] at this
    have := Rat.neg_le_neg this
    rwa [Rat.neg_neg, Rat.neg_zero] at this
  have ht1 : sgB 11 52 b = false → 0 ≤ tzN b := fun h => by unfold tzN; rw [h]; exact (sg_sides _).1
  have ht2 : sgB 11 52 b = true → tzN b ≤ 0 := fun h => by unfold tzN; rw [h]; exact (sg_sides _).2
  have sub : ∀ {p q : Nat} {s1 s2 : Bool} {m1 m2 : Nat} {i1 i2 : Int} {c : Int}, FloatKind.f64.format.read p = .number s1 m1 i1 → FloatKind.f64.format.read q = .number s2 m2 i2 → dQ s1 m1 i1 - dQ s2 m2 i2 = (c : Rat) * p2 (vX 11 52 b) → min i1 i2 ≤ vX 11 52 b → c.natAbs < 2 ^ 53 → (c : Rat) * p2 (vX 11 52 b) < 1 →
      ∃ d, floatBits .sub .f64 p q = some d ∧ (FloatKind.f64.format.order d 4607182418800017408 == some .lt) = true := fun {p q s1 s2 m1 m2 i1 i2 c} hp hq hd hm hc hl => by
    obtain ⟨S, D, q1, q2⟩ := sum_is s1 (!s2) m1 m2 i1 i2
    rw [dq_opp, ← Rat.sub_eq_add_neg, hd] at q2
    obtain ⟨m, j, w1, w2⟩ := short_word q2 hm hX.1 hX.2 hc
    refine ⟨FloatKind.f64.format.write (.number S D (min i1 i2)), ?_, ?_⟩
    · unfold floatBits Ieee.Format.sub
      simp only
      rw [hp, hq]
      unfold Ieee.Datum.opposite
      simp only
      rw [q1]
      rfl
    · rw [(f_ord w1 one_read).1, w2, one_dq]
      exact decide_eq_true hl
  refine ⟨?_, ?_, ?_, ?_, ?_⟩
  · rw [o1.2.2, hc2, y2]
    exact decide_eq_true rfl
  · exact sub hb y1 (by rw [y2]; exact z1') (by omega) (by omega) z3
  · refine sub (c := -z) y1 hb ?_ (by omega) (by omega) ?_
    · rw [y2, Rat.intCast_neg, Rat.neg_mul, ← z1', Rat.neg_sub]
    · rw [Rat.intCast_neg, Rat.neg_mul]
      have := Rat.neg_lt_neg z4
      rwa [Rat.neg_neg] at this
  · cases hsb : sgB 11 52 b
    · left
      refine hyb.1 ?_
      rw [y2]
      have := zp (z5 hsb)
      rw [← z1'] at this
      exact (Rat.le_iff_sub_nonneg _ _).2 this
    · by_cases hlt : dQ (sgB 11 52 b) (vN 11 52 b) (vX 11 52 b) < 0
      · right
        rw [ob.1]
        exact decide_eq_true hlt
      · left
        refine hyb.1 ?_
        have e0 := Rat.le_antisymm (hs2 hsb) (Rat.not_lt.1 hlt)
        rw [y2, e0]
        exact Rat.intCast_nonpos.2 (ht2 hsb)
  · cases hsb : sgB 11 52 b
    · by_cases hlt : 0 < dQ (sgB 11 52 b) (vN 11 52 b) (vX 11 52 b)
      · right
        rw [ob.2.1]
        exact decide_eq_true hlt
      · left
        refine hyb.2 ?_
        have e0 := Rat.le_antisymm (Rat.not_lt.1 hlt) (hs hsb)
        rw [y2, e0]
        exact Rat.intCast_nonneg.2 (ht1 hsb)
    · left
      refine hyb.2 ?_
      rw [y2]
      have := zn (z6 hsb)
      rw [← z1'] at this
      exact sub_nonpos_le this

/-- Of a double that is not cut into an int64: it lies beyond. -/
theorem out_facts {b : Nat} (h : ¬ (finB 11 52 b = true ∧ -9223372036854775808 ≤ tzV 11 52 b ∧ tzV 11 52 b < 9223372036854775808)) :
    (FloatKind.f64.format.order b 14114281232179134464 == some .gt) = false ∨ (FloatKind.f64.format.order b 4890909195324358656 == some .lt) = false := by
  obtain ⟨r1, r2, _, _⟩ := ends_read
  by_cases hx : exN 11 52 b ≠ maskN 11
  · have hf : finB 11 52 b = true := decide_eq_true hx
    have hb : FloatKind.f64.format.read b = _ := dec_fin hx
    obtain ⟨z, z1, z2, z3, z4, z5, z6⟩ := frac_is (sgB 11 52 b) (vN 11 52 b) (vX 11 52 b)
    have ht : sgZ (sgB 11 52 b) (upN (vN 11 52 b) (vX 11 52 b) / upD (vX 11 52 b)) = tzV 11 52 b := rfl
    rw [ht] at z1
    have ht1 : sgB 11 52 b = false → 0 ≤ tzV 11 52 b := fun h => by unfold tzV; rw [h]; exact (sg_sides _).1
    have ht2 : sgB 11 52 b = true → tzV 11 52 b ≤ 0 := fun h => by unfold tzV; rw [h]; exact (sg_sides _).2
    have c1 : dQ true 4503599627370496 11 = ((-9223372036854775808 : Int) : Rat) := dq_const true _ 11 _ (by decide)
    have c2 : dQ false 4503599627370496 11 = ((9223372036854775808 : Int) : Rat) := dq_const false _ 11 _ (by decide)
    rw [(f_ord hb r1).2.1, (f_ord hb r2).1, c1, c2]
    have hpos := Rat.le_of_lt (p2_pos (vX 11 52 b))
    have ht0 : ¬ (-9223372036854775808 ≤ tzV 11 52 b ∧ tzV 11 52 b < 9223372036854775808) := fun hh => h ⟨hf, hh⟩
    cases hsb : sgB 11 52 b
    · right
      have h0 := ht1 hsb
      have hz := Rat.mul_nonneg (Rat.intCast_nonneg.2 (z5 hsb)) hpos
      rw [← z1, hsb] at hz
      refine decide_eq_false (Rat.not_lt.2 (Rat.le_trans (Rat.intCast_le_intCast.2 (show (9223372036854775808 : Int) ≤ tzV 11 52 b by omega)) ((Rat.le_iff_sub_nonneg _ _).2 hz)))
    · left
      have h0 := ht2 hsb
      have hz := Rat.mul_nonneg (Rat.intCast_nonneg.2 (show 0 ≤ -z by have := z6 hsb; omega)) hpos
      rw [Rat.intCast_neg, Rat.neg_mul] at hz
      have hz := Rat.neg_le_neg hz
      rw [Rat.neg_neg, Rat.neg_zero, ← z1, hsb] at hz
      refine decide_eq_false (Rat.not_lt.2 (Rat.le_trans (sub_nonpos_le hz) (Rat.intCast_le_intCast.2 (by omega))))
  · have hn := ex_of_nonum_inv (Decidable.not_not.1 hx)
    have ho : ∀ k s m i, FloatKind.f64.format.read k = .number s m i → FloatKind.f64.format.order b k = (FloatKind.f64.format.read b).order (.number s m i) := fun k s m i hk => by
      unfold Ieee.Format.order
      rw [hk]
    rw [ho _ _ _ _ r1, ho _ _ _ _ r2]
    generalize FloatKind.f64.format.read b = d at hn
    cases d with
    | number s m i => exact absurd rfl (hn s m i)
    | infinity s => cases s <;> decide
    | nan s t => exact .inl rfl

end Go.Proofs.YtaddnoneoflimaaGreatDoor

