/-
  Plain: the model's float words, told by a float's fields; their order, by what they are worth. No program in sight.
-/
import Derived.Test.YtaddnoneoflimaaGreatDoorQTwBase
namespace Go.Proofs.YtaddnoneoflimaaGreatDoor

open Go.RowKit Go.Lb

theorem sg_word (E F b : Nat) : (b / 2 ^ (E + F) % 2 == 1) = sgB E F b := by
  have h : takeN b (F + E) 1 = b / 2 ^ (E + F) % 2 := by
    unfold takeN
    rw [pw_is, pw_is, Nat.add_comm F E, Nat.pow_one]
  unfold sgB
  rw [h]
  rcases Nat.mod_two_eq_zero_or_one (b / 2 ^ (E + F)) with h | h <;> rw [h] <;> rfl

/-- A word read, by its fields. -/
theorem read_is (E F b : Nat) (hE : 2 ≤ E) : (Ieee.Format.mk E F).read b = if exN E F b = maskN E then (if frN F b = 0 then .infinity (sgB E F b) else .nan (sgB E F b) (frN F b)) else .number (sgB E F b) (vN E F b) (vX E F b) := by
  have hr := low_parts E F b
  have hx := ex_le E F b
  have hf := frN_lt2 F b
  have hP := Nat.two_pow_pos F
  have hinf : (2 ^ E - 1) * 2 ^ F = maskN E * 2 ^ F := by rw [maskN_eq, pw_is]
  have hb : (biasN E : Int) = (2 : Int) ^ (E - 1) - 1 := by
    have h1 := Nat.two_pow_pos (E - 1)
    unfold biasN
    rw [Int.natCast_sub h1]
    push_cast
    rfl
  unfold Ieee.Format.read Ieee.Format.signWeight Ieee.Format.binade Ieee.Format.infRung Ieee.Format.leastPlace Ieee.Format.binade
  simp only
  rw [sg_word, hr, hinf]
  have hm1 : 1 ≤ maskN E := by
    have := pw_le (j := 1) (k := E) (by omega)
    rw [show pw 1 = 2 by unfold pw; rfl] at this
    rw [maskN_eq]
    omega
  unfold vN vX
  rw [pw_is, hb]
  generalize exN E F b = x at *
  generalize frN F b = r at *
  generalize maskN E = k at *
  generalize sgB E F b = s at *
  by_cases h0 : x = 0
  · subst h0
    rw [if_pos (by omega), if_neg (by omega), if_pos rfl, if_pos rfl, Nat.zero_mul, Nat.zero_add]
    congr 1
    omega
  · have h1 : 2 ^ F ≤ x * 2 ^ F := Nat.le_mul_of_pos_left _ (by omega)
    rw [if_neg (by omega)]
    by_cases hk : x = k
    · subst hk
      rw [if_neg (by omega), if_pos rfl]
      by_cases hr0 : r = 0
      · rw [if_pos (by omega), if_pos hr0]
      · rw [if_neg (by omega), if_neg hr0]
        congr 1
        omega
    · have h2 : (x + 1) * 2 ^ F ≤ k * 2 ^ F := Nat.mul_le_mul_right _ (by omega)
      rw [Nat.succ_mul] at h2
      rw [if_pos (by omega), if_neg hk, if_neg h0, if_neg h0]
      have d1 : (x * 2 ^ F + r) % 2 ^ F = r := by rw [Nat.add_comm, Nat.add_mul_mod_self_right, Nat.mod_eq_of_lt hf]
      have d2 : (x * 2 ^ F + r) / 2 ^ F = x := by rw [Nat.mul_comm, Nat.mul_add_div hP, Nat.div_eq_of_lt hf, Nat.add_zero]
      rw [d1, d2]
      congr 1
      omega

/-- What a number of the model is worth. -/
def dQ (s : Bool) (m : Nat) (i : Int) : Rat := ((sgZ s m : Int) : Rat) * p2 i

theorem signed_is (s : Bool) (m u : Nat) : Ieee.signed s m u = sgZ s m * ((2 ^ u : Nat) : Int) := by
  unfold Ieee.signed sgZ
  rw [Nat.shiftLeft_eq]
  cases s
  · simp
  · simp [Int.neg_mul]

theorem dQ_at (s : Bool) (m : Nat) (i base : Int) (h : base ≤ i) : dQ s m i = ((Ieee.signed s m (i - base).toNat : Int) : Rat) * p2 base := by
  unfold dQ
  rw [signed_is, Rat.intCast_mul, Rat.mul_assoc, ← p2_cast, ← p2_add, show (((i - base).toNat : Nat) : Int) + base = i by omega]

theorem ord_num (s t : Bool) (m n : Nat) (i j : Int) : ∃ A B : Int, (Ieee.Datum.number s m i).order (.number t n j) = some (compare A B) ∧ (A < B ↔ dQ s m i < dQ t n j) := by
  refine ⟨_, _, rfl, ?_⟩
  rw [dQ_at s m i (min i j) (by omega), dQ_at t n j (min i j) (by omega)]
  have hp := p2_pos (min i j)
  generalize Ieee.signed s m (i - min i j).toNat = A
  generalize Ieee.signed t n (j - min i j).toNat = B
  rw [← Rat.intCast_lt_intCast]
  exact (Rat.mul_lt_mul_right hp).symm

theorem ord_lt (s t : Bool) (m n : Nat) (i j : Int) : ((Ieee.Datum.number s m i).order (.number t n j) == some .lt) = decide (dQ s m i < dQ t n j) := by
  obtain ⟨A, B, h1, h2⟩ := ord_num s t m n i j
  rw [h1]
  by_cases h : A < B
  · rw [decide_eq_true (h2.1 h), show compare A B = .lt from Int.compare_eq_lt.2 h]
    rfl
  · rw [decide_eq_false (fun hh => h (h2.2 hh))]
    have : compare A B ≠ .lt := fun hh => h (Int.compare_eq_lt.1 hh)
    cases hc : compare A B
    · exact absurd hc this
    · rfl
    · rfl

theorem ord_ge (s t : Bool) (m n : Nat) (i j : Int) : ((Ieee.Datum.number s m i).order (.number t n j) == some .gt || (Ieee.Datum.number s m i).order (.number t n j) == some .eq) = decide (dQ t n j ≤ dQ s m i) := by
  obtain ⟨A, B, h1, h2⟩ := ord_num s t m n i j
  rw [h1]
  by_cases h : A < B
  · rw [decide_eq_false (fun hh => Rat.not_lt.2 hh (h2.1 h)), show compare A B = .lt from Int.compare_eq_lt.2 h]
    rfl
  · rw [decide_eq_true (Rat.not_lt.1 (fun hh => h (h2.2 hh)))]
    have : compare A B ≠ .lt := fun hh => h (Int.compare_eq_lt.1 hh)
    cases hc : compare A B
    · exact absurd hc this
    · rfl
    · rfl

theorem cut_zero (s : Bool) (n d : Nat) : Ieee.Toward.zero.cut s n d = n / 2 ^ d := by
  unfold Ieee.Toward.cut
  simp only [Bool.toNat_false, Nat.add_zero]
  rw [Nat.shiftLeft_eq, Nat.one_mul]
  by_cases h : d ≤ n.log2 + 2
  · rw [Nat.min_eq_left h]
  · rw [Nat.min_eq_right (by omega)]
    have h1 : n < 2 ^ (n.log2 + 2) := Nat.lt_of_lt_of_le Nat.lt_log2_self (Nat.pow_le_pow_right (by decide) (by omega))
    have h2 : 2 ^ (n.log2 + 2) ≤ 2 ^ d := Nat.pow_le_pow_right (by decide) (by omega)
    rw [Nat.div_eq_of_lt h1, Nat.div_eq_of_lt (by omega)]

theorem cut_exact (s : Bool) {n d : Nat} (hd : d ≤ n.log2 + 2) (h : n % 2 ^ d = 0) : Ieee.Toward.even.cut s n d = n / 2 ^ d := by
  have hp := Nat.two_pow_pos d
  unfold Ieee.Toward.cut
  simp only
  rw [Nat.shiftLeft_eq, Nat.one_mul, Nat.min_eq_left hd, h]
  have e1 : decide (2 ^ d < 2 * 0) = false := decide_eq_false (by omega)
  have e2 : (2 ^ d == 2 * 0) = false := by simp
  rw [e1, e2]
  rfl

/-- A whole number that a form has: its word, read, is worth it. -/
theorem write_whole {E F T : Nat} (s : Bool) (hE : 2 ≤ E) (h0 : T ≠ 0) (hk : T.log2 < 2 ^ (E - 1)) (hd : T.log2 ≤ F ∨ T % 2 ^ (T.log2 - F) = 0) :
    ∃ m i, (Ieee.Format.mk E F).read ((Ieee.Format.mk E F).write (.number s T 0)) = .number s m i ∧ dQ s m i = ((sgZ s T : Int) : Rat) := by
  have t1 := Nat.log2_self_le h0
  have t2 := Nat.lt_log2_self (n := T)
  have hPF := Nat.two_pow_pos F
  have hE2 : (2 : Nat) ^ E = 2 * 2 ^ (E - 1) := by
    rw [show 2 * 2 ^ (E - 1) = 2 ^ (E - 1) * 2 by omega, ← Nat.pow_succ]
    congr 1
    omega
  have hP1 : 2 ≤ 2 ^ (E - 1) := by
    have := Nat.pow_le_pow_right (n := 2) (by decide) (show 1 ≤ E - 1 by omega)
    omega
  have hpc : ((2 : Int) ^ (E - 1)) = ((2 ^ (E - 1) : Nat) : Int) := by push_cast; rfl
  -- the digits that are kept
  obtain ⟨q, c, hc, hq, hkept, hval⟩ : ∃ q c : Nat, c < 2 ^ F ∧ (q : Int) = (T.log2 : Int) - F - (2 - (2 : Int) ^ (E - 1) - F) ∧
      Ieee.Toward.even.cut s (T <<< (0 - ((T.log2 : Int) - F)).toNat) (((T.log2 : Int) - F) - 0).toNat = 2 ^ F + c ∧ ((2 ^ F + c : Nat) : Int) * ((2 ^ ((T.log2 : Int) - F).toNat : Nat) : Int) = (T : Int) * ((2 ^ (-((T.log2 : Int) - F)).toNat : Nat) : Int) := by
    generalize hl : T.log2 = k at *
    by_cases hkF : k ≤ F
    · have a1 : 2 ^ F ≤ T * 2 ^ (F - k) := by
        have := Nat.mul_le_mul_right (2 ^ (F - k)) t1
        rw [← Nat.pow_add, show k + (F - k) = F by omega] at this
        exact this
      have a2 : T * 2 ^ (F - k) < 2 * 2 ^ F := by
        have := Nat.mul_lt_mul_of_pos_right t2 (Nat.two_pow_pos (F - k))
        rw [← Nat.pow_add, show k + 1 + (F - k) = F + 1 by omega, Nat.pow_succ] at this
        omega
      refine ⟨((k : Int) - F - (2 - (2 : Int) ^ (E - 1) - F)).toNat, T * 2 ^ (F - k) - 2 ^ F, by omega, by omega, ?_, ?_⟩
      · rw [show (0 - ((k : Int) - F)).toNat = F - k by omega, show (((k : Int) - F) - 0).toNat = 0 by omega, Nat.shiftLeft_eq, cut_exact s (by omega) (by rw [Nat.pow_zero, Nat.mod_one]), Nat.pow_zero, Nat.div_one]
        omega
      · rw [show ((k : Int) - F).toNat = 0 by omega, show (-((k : Int) - F)).toNat = F - k by omega, Nat.pow_zero, show 2 ^ F + (T * 2 ^ (F - k) - 2 ^ F) = T * 2 ^ (F - k) by omega, Int.natCast_mul]
        omega
    · have hdv : T % 2 ^ (k - F) = 0 := by
        rcases hd with h | h
        · omega
        · exact h
      have hP := Nat.two_pow_pos (k - F)
      have hT : T / 2 ^ (k - F) * 2 ^ (k - F) = T := Nat.div_mul_cancel (Nat.dvd_of_mod_eq_zero hdv)
      have e1 : 2 ^ k = 2 ^ F * 2 ^ (k - F) := by rw [← Nat.pow_add]; congr 1; omega
      have a1 : 2 ^ F ≤ T / 2 ^ (k - F) := (Nat.le_div_iff_mul_le hP).2 (by rw [← e1]; exact t1)
      have a2 : T / 2 ^ (k - F) < 2 * 2 ^ F := (Nat.div_lt_iff_lt_mul hP).2 (by rw [Nat.mul_assoc, ← e1, Nat.mul_comm, ← Nat.pow_succ]; exact t2)
      refine ⟨((k : Int) - F - (2 - (2 : Int) ^ (E - 1) - F)).toNat, T / 2 ^ (k - F) - 2 ^ F, by omega, by omega, ?_, ?_⟩
      · rw [show (0 - ((k : Int) - F)).toNat = 0 by omega, show (((k : Int) - F) - 0).toNat = k - F by omega, Nat.shiftLeft_eq, Nat.pow_zero, Nat.mul_one, cut_exact s (by rw [hl]; omega) hdv]
        omega
      · rw [show ((k : Int) - F).toNat = k - F by omega, show (-((k : Int) - F)).toNat = 0 by omega, Nat.pow_zero, show 2 ^ F + (T / 2 ^ (k - F) - 2 ^ F) = T / 2 ^ (k - F) by omega, ← Int.natCast_mul, hT]
        omega
  refine ⟨2 ^ F + c, (T.log2 : Int) - F, ?_, ?_⟩
  · have hlt : q * 2 ^ F + (2 ^ F + c) < (2 ^ E - 1) * 2 ^ F := by
      have h1 : (q + 2) * 2 ^ F ≤ (2 ^ E - 1) * 2 ^ F := Nat.mul_le_mul_right _ (by omega)
      rw [Nat.add_mul] at h1
      omega
    have hlt2 : (2 ^ E - 1) * 2 ^ F < 2 ^ (E + F) := by
      rw [Nat.pow_add]
      exact Nat.mul_lt_mul_of_pos_right (by have := Nat.two_pow_pos E; omega) hPF
    have hw : (Ieee.Format.mk E F).write (.number s T 0) = (Ieee.Format.mk E F).word s (q * 2 ^ F + (2 ^ F + c)) := by
      unfold Ieee.Format.write Ieee.Format.nearest Ieee.Format.infRung Ieee.Format.leastPlace Ieee.Format.binade
      simp only
      rw [if_neg h0]
      have hmax : max ((0 : Int) + (T.log2 : Int) - (F : Int)) (2 - (2 : Int) ^ (E - 1) - (F : Int)) = (T.log2 : Int) - F := by omega
      rw [hmax, hkept, ← hq, Int.toNat_natCast, Nat.min_eq_left (Nat.le_of_lt hlt)]
    rw [hw]
    have hwd : (Ieee.Format.mk E F).word s (q * 2 ^ F + (2 ^ F + c)) / 2 ^ (E + F) % 2 = (if s = true then 1 else 0) ∧ (Ieee.Format.mk E F).word s (q * 2 ^ F + (2 ^ F + c)) % 2 ^ (E + F) = q * 2 ^ F + (2 ^ F + c) := by
      unfold Ieee.Format.word Ieee.Format.signWeight
      simp only
      have hb := Nat.two_pow_pos (E + F)
      generalize q * 2 ^ F + (2 ^ F + c) = R at *
      generalize 2 ^ (E + F) = S at *
      cases s
      · simp only [Bool.false_eq_true, if_false]
        exact ⟨by rw [Nat.div_eq_of_lt (by omega)], Nat.mod_eq_of_lt (by omega)⟩
      · simp only [if_true]
        exact ⟨by rw [Nat.add_div_left _ hb, Nat.div_eq_of_lt (by omega)], by rw [Nat.add_mod_left, Nat.mod_eq_of_lt (by omega)]⟩
    unfold Ieee.Format.read Ieee.Format.signWeight Ieee.Format.binade Ieee.Format.infRung Ieee.Format.leastPlace Ieee.Format.binade
    simp only
    rw [hwd.1, hwd.2]
    have hsb : ((if s = true then 1 else 0 : Nat) == 1) = s := by cases s <;> rfl
    rw [hsb, if_neg (by omega), if_pos hlt]
    have d1 : (q * 2 ^ F + (2 ^ F + c)) % 2 ^ F = c := by rw [← Nat.add_assoc, ← Nat.succ_mul, Nat.add_comm, Nat.add_mul_mod_self_right, Nat.mod_eq_of_lt hc]
    have d2 : (q * 2 ^ F + (2 ^ F + c)) / 2 ^ F = q + 1 := by rw [← Nat.add_assoc, ← Nat.succ_mul, Nat.mul_comm, Nat.mul_add_div hPF, Nat.div_eq_of_lt hc, Nat.add_zero]
    rw [d1, d2]
    congr 1
    omega
  · unfold dQ
    generalize (T.log2 : Int) - F = l at *
    have e : sgZ s (2 ^ F + c) * ((2 ^ l.toNat : Nat) : Int) = sgZ s T * ((2 ^ (-l).toNat : Nat) : Int) := by
      unfold sgZ
      cases s
      · simpa using hval
      · simp only [if_true]
        rw [Int.neg_mul, Int.neg_mul, hval]
    have e2 : p2 l = p2 (l.toNat : Int) * p2 (-((-l).toNat : Int)) := by rw [← p2_add]; congr 1; omega
    rw [e2, p2_cast, ← Rat.mul_assoc, ← Rat.intCast_mul, e, Rat.intCast_mul, ← p2_cast, Rat.mul_assoc, p2_back, Rat.mul_one]

theorem read_nil {E F : Nat} (s : Bool) : ∃ m i, (Ieee.Format.mk E F).read ((Ieee.Format.mk E F).write (.number s 0 0)) = .number s m i ∧ dQ s m i = ((sgZ s 0 : Int) : Rat) := by
  refine ⟨0, 2 - (2 : Int) ^ (E - 1) - F, ?_, ?_⟩
  · have hb := Nat.two_pow_pos (E + F)
    have hPF := Nat.two_pow_pos F
    have hwd : (Ieee.Format.mk E F).write (.number s 0 0) / 2 ^ (E + F) % 2 = (if s = true then 1 else 0) ∧ (Ieee.Format.mk E F).write (.number s 0 0) % 2 ^ (E + F) = 0 := by
      unfold Ieee.Format.write Ieee.Format.nearest Ieee.Format.word Ieee.Format.signWeight
      simp only
      cases s
      · simp
      · simp only [if_true, Nat.add_zero]
        exact ⟨by rw [Nat.div_self hb], Nat.mod_self _⟩
    unfold Ieee.Format.read Ieee.Format.signWeight Ieee.Format.binade Ieee.Format.infRung Ieee.Format.leastPlace Ieee.Format.binade
    simp only
    rw [hwd.1, hwd.2]
    have hsb : ((if s = true then 1 else 0 : Nat) == 1) = s := by cases s <;> rfl
    rw [hsb, if_pos hPF]
  · unfold dQ
    rw [show sgZ s 0 = 0 by cases s <;> rfl, Rat.intCast_zero, Rat.zero_mul]

/-- Cut toward nought: the word that math.Trunc answers, read. -/
theorem trunc_word {E F b : Nat} (hE : 2 ≤ E) (hEF : F < 2 ^ (E - 1)) (hx : exN E F b ≠ maskN E) :
    ∃ m i, (Ieee.Format.mk E F).read ((Ieee.Format.mk E F).write (((Ieee.Format.mk E F).read b).integral .zero)) = .number (sgB E F b) m i ∧
      dQ (sgB E F b) m i = ((sgZ (sgB E F b) (upN (vN E F b) (vX E F b) / upD (vX E F b)) : Int) : Rat) := by
  have hfl := flt_of (F := F) hE hx
  have h1 := hfl.hr
  have h2 := hfl.he
  have h3 := hfl.hm
  have h4 := hfl.hx
  rw [read_is E F b hE, if_neg hx]
  have hint : (Ieee.Datum.number (sgB E F b) (vN E F b) (vX E F b)).integral .zero = .number (sgB E F b) (upN (vN E F b) (vX E F b) / upD (vX E F b)) 0 := by
    unfold Ieee.Datum.integral
    simp only
    rw [cut_zero, Nat.shiftLeft_eq]
    rfl
  rw [hint]
  by_cases h0 : upN (vN E F b) (vX E F b) / upD (vX E F b) = 0
  · rw [h0]
    exact read_nil _
  · have hbs : bsN E + 1 = 2 ^ (E - 1) := by
      have := Nat.two_pow_pos (E - 1)
      unfold bsN
      omega
    have hb2 : 2 ^ 1 ≤ 2 ^ (E - 1) := Nat.pow_le_pow_right (by decide) (by omega)
    have hM : vN E F b < 2 ^ (F + 1) := by rw [Nat.pow_succ]; split at h3 <;> omega
    refine write_whole _ hE h0 ?_ ?_
    all_goals generalize vN E F b = M at *; generalize vX E F b = X at *
    · have hT : upN M X / upD X < 2 ^ (2 ^ (E - 1)) := by
        by_cases hX : 0 ≤ X
        · refine Nat.lt_of_le_of_lt (Nat.div_le_self _ _) ?_
          unfold upN
          refine Nat.lt_of_lt_of_le (Nat.mul_lt_mul_of_pos_right hM (Nat.two_pow_pos _)) ?_
          rw [← Nat.pow_add]
          exact Nat.pow_le_pow_right (by decide) (by split at h4 <;> omega)
        · refine Nat.lt_of_le_of_lt (Nat.div_le_self _ _) ?_
          unfold upN
          rw [show X.toNat = 0 by omega, Nat.pow_zero, Nat.mul_one]
          exact Nat.lt_of_lt_of_le hM (Nat.pow_le_pow_right (by decide) (by omega))
      exact (Nat.log2_lt h0).2 hT
    · by_cases hX : 0 ≤ X
      · have e : upN M X / upD X = M * 2 ^ X.toNat := by
          unfold upN upD
          rw [show (-X).toNat = 0 by omega, Nat.pow_zero, Nat.div_one]
        rw [e] at h0 ⊢
        have hk : (M * 2 ^ X.toNat).log2 < F + 1 + X.toNat := by
          refine (Nat.log2_lt h0).2 ?_
          rw [Nat.pow_add]
          exact Nat.mul_lt_mul_of_pos_right hM (Nat.two_pow_pos _)
        right
        refine Nat.mod_eq_zero_of_dvd ?_
        exact Nat.dvd_trans (Nat.pow_dvd_pow 2 (by omega)) (Nat.dvd_mul_left _ _)
      · left
        have hT : upN M X / upD X < 2 ^ (F + 1) := by
          refine Nat.lt_of_le_of_lt (Nat.div_le_self _ _) ?_
          unfold upN
          rw [show X.toNat = 0 by omega, Nat.pow_zero, Nat.mul_one]
          exact hM
        have := (Nat.log2_lt h0).2 hT
        omega

/-- A number that is whole, as an integer. -/
theorem toInt_whole {s : Bool} {m T : Nat} {i : Int} (h : dQ s m i = ((sgZ s T : Int) : Rat)) : (Ieee.Datum.number s m i).toInt .zero = some (sgZ s T) := by
  have e1 : (Ieee.Datum.number s m i).toInt .zero = some (Ieee.signed s (upN m i / upD i) 0) := by
    unfold Ieee.Datum.toInt Ieee.Datum.integral
    simp only
    rw [cut_zero, Nat.shiftLeft_eq]
    rfl
  have e2 : ((sgZ s m : Int) : Rat) * p2 i = ((sgZ s T : Int) : Rat) := h
  have e3 : sgZ s (upN m i) = sgZ s T * ((upD i : Nat) : Int) := by
    have h2 := (scale_iff _ _ _).1 e2
    have e4 : ((sgZ s (upN m i) : Int) : Rat) = ((sgZ s m : Int) : Rat) * p2 (i.toNat : Int) := by
      rw [p2_cast, ← Rat.intCast_mul, Rat.intCast_inj]
      unfold sgZ upN
      cases s
      · simp
      · simp [Int.neg_mul]
    have e5 : (((sgZ s T * ((upD i : Nat) : Int)) : Int) : Rat) = ((sgZ s T : Int) : Rat) * p2 ((-i).toNat : Int) := by
      rw [p2_cast, ← Rat.intCast_mul]
      rfl
    rw [← Rat.intCast_inj, e4, e5, h2, Rat.mul_assoc, ← p2_add]
    congr 2
    omega
  have e6 : upN m i = T * upD i := by
    unfold sgZ at e3
    have e7 : ((T * upD i : Nat) : Int) = (T : Int) * (upD i : Int) := Int.natCast_mul _ _
    cases s
    · simp only [Bool.false_eq_true, if_false] at e3
      omega
    · simp only [if_true] at e3
      rw [Int.neg_mul] at e3
      omega
  rw [e1, e6, Nat.mul_div_cancel _ (Nat.pos_of_ne_zero (upD_pos i)), signed_is, Nat.pow_zero]
  congr 1
  omega

end Go.Proofs.YtaddnoneoflimaaGreatDoor

