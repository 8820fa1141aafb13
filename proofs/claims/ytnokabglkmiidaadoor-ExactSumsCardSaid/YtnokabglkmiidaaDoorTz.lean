/-
  Plain lemmas: how many bits 0 a number has at its end, told by its limbs and by its bits. No program in sight.
-/
import Derived.Test.YtnokabglkmiidaaDoorShift
import Derived.Lib.TrailingZeros
namespace Go.Lb

/-- How many bits 0 a number that is not nought has at its end. -/
def tz (N : Nat) : Nat := Lib.ctzFrom N N

theorem tz_spec {N : Nat} (h : N ≠ 0) : ∃ m, N = 2 ^ tz N * (2 * m + 1) := by
  obtain ⟨m, hm, _⟩ := Lib.ctzFrom_spec N N (by omega) Nat.lt_two_pow_self
  exact ⟨m, hm⟩

theorem odd_ne {k d m m' : Nat} (h : 2 ^ k * (2 * m + 1) = 2 ^ (k + (d + 1)) * (2 * m' + 1)) : False := by
  rw [Nat.pow_add, Nat.mul_assoc] at h
  have := Nat.eq_of_mul_eq_mul_left (Nat.two_pow_pos k) h
  rw [Nat.pow_succ, Nat.mul_comm (2 ^ d) 2, Nat.mul_assoc] at this
  omega

theorem tz_unique {N k m : Nat} (h : N = 2 ^ k * (2 * m + 1)) : tz N = k := by
  have h0 : N ≠ 0 := by
    have : 0 < 2 ^ k * (2 * m + 1) := Nat.mul_pos (Nat.two_pow_pos k) (by omega)
    omega
  obtain ⟨m', hm'⟩ := tz_spec h0
  rcases Nat.lt_trichotomy (tz N) k with hl | he | hg
  · obtain ⟨d, hd⟩ : ∃ d, k = tz N + (d + 1) := ⟨k - tz N - 1, by omega⟩
    rw [hd] at h
    exact (odd_ne (hm'.symm.trans h)).elim
  · exact he
  · obtain ⟨d, hd⟩ : ∃ d, tz N = k + (d + 1) := ⟨tz N - k - 1, by omega⟩
    rw [hd] at hm'
    exact (odd_ne (h.symm.trans hm')).elim

theorem tz_odd {N : Nat} (h : N ≠ 0) : N / 2 ^ tz N % 2 = 1 := by
  obtain ⟨m, hm⟩ := tz_spec h
  have : N / 2 ^ tz N = 2 * m + 1 := by
    conv => lhs; arg 1; rw [hm]
    exact Nat.mul_div_cancel_left _ (Nat.two_pow_pos _)
  omega

theorem tz_low {N j : Nat} (h : N ≠ 0) (hj : j < tz N) : N / 2 ^ j % 2 = 0 := by
  obtain ⟨m, hm⟩ := tz_spec h
  obtain ⟨d, hd⟩ : ∃ d, tz N = j + (d + 1) := ⟨tz N - j - 1, by omega⟩
  have : N / 2 ^ j = 2 * (2 ^ d * (2 * m + 1)) := by
    conv => lhs; arg 1; rw [hm, hd, Nat.pow_add, Nat.mul_assoc, Nat.pow_succ, Nat.mul_comm (2 ^ d) 2, Nat.mul_assoc]
    exact Nat.mul_div_cancel_left _ (Nat.two_pow_pos _)
  omega

theorem tz_le_dvd {N j : Nat} (h : N ≠ 0) (hj : j ≤ tz N) : ∃ r, N = 2 ^ j * r := by
  obtain ⟨m, hm⟩ := tz_spec h
  obtain ⟨d, hd⟩ : ∃ d, tz N = j + d := ⟨tz N - j, by omega⟩
  exact ⟨2 ^ d * (2 * m + 1), by conv => lhs; rw [hm, hd, Nat.pow_add, Nat.mul_assoc]⟩

theorem tz_shift {j r : Nat} (h : r ≠ 0) : tz (2 ^ j * r) = j + tz r := by
  obtain ⟨m, hm⟩ := tz_spec h
  refine tz_unique (m := m) ?_
  conv => lhs; rw [hm]
  rw [Nat.pow_add, Nat.mul_assoc]

theorem two_pow_tz_le {N : Nat} (h : N ≠ 0) : 2 ^ tz N ≤ N := by
  obtain ⟨m, hm⟩ := tz_spec h
  conv => rhs; rw [hm]
  exact Nat.le_mul_of_pos_right _ (by omega)

theorem pow32 (i : Nat) : (4294967296 : Nat) ^ i = 2 ^ (32 * i) := by
  rw [Nat.pow_mul]

theorem val_drop (ys : List Nat) {i : Nat} (h : Ok ys) : val (ys.drop i) = val ys / 2 ^ (32 * i) := by
  by_cases hi : i ≤ ys.length
  · have h1 := val_split ys i hi
    have h2 := val_lt (ok_take h i)
    rw [List.length_take, Nat.min_eq_left hi] at h2
    rw [h1, ← pow32, Nat.add_mul_div_left _ _ (Nat.pow_pos (by decide)), Nat.div_eq_of_lt h2, Nat.zero_add]
  · rw [List.drop_of_length_le (by omega)]
    have h2 := val_lt h
    rw [pow32] at h2
    rw [Nat.div_eq_of_lt (Nat.lt_of_lt_of_le h2 (Nat.pow_le_pow_right (by decide) (by omega)))]
    rfl

theorem nth_drop (ys : List Nat) (i j : Nat) : nth (ys.drop i) j = nth ys (i + j) := by
  unfold nth
  rw [List.getD_eq_getElem?_getD, List.getElem?_drop, ← List.getD_eq_getElem?_getD]

/-- A number's upper part begins with a limb. -/
theorem val_part (ys : List Nat) {i : Nat} (h : Ok ys) : ∃ r, val ys / 2 ^ (32 * i) = nth ys i + 4294967296 * r := by
  obtain ⟨r, hr⟩ := val_nth0 (ys.drop i)
  rw [nth_drop, Nat.add_zero] at hr
  exact ⟨r, (val_drop ys h).symm.trans hr⟩

/-- A number's bit, told by its limb. -/
def bitL (ys : List Nat) (j : Nat) : Nat := nth ys (j / 32) / 2 ^ (j % 32) % 2

theorem bitL_eq {ys : List Nat} (h : Ok ys) (j : Nat) : bitL ys j = val ys / 2 ^ j % 2 := by
  obtain ⟨r, hr⟩ := val_part ys (i := j / 32) h
  have e : val ys / 2 ^ j = (nth ys (j / 32) + 4294967296 * r) / 2 ^ (j % 32) := by
    rw [← hr, Nat.div_div_eq_div_mul, ← Nat.pow_add]
    congr 2
    omega
  obtain ⟨s, hs⟩ : ∃ s, s = j % 32 := ⟨_, rfl⟩
  have hs32 : s < 32 := by omega
  unfold bitL
  rw [e, ← hs]
  obtain ⟨d, hd⟩ : ∃ d, 32 = s + (d + 1) := ⟨31 - s, by omega⟩
  have e2 : 4294967296 * r = 2 ^ s * (2 * (2 ^ d * r)) := by
    rw [show (4294967296 : Nat) = 2 ^ 32 from rfl, hd, Nat.pow_add, Nat.pow_succ, Nat.mul_comm (2 ^ d) 2, Nat.mul_assoc, Nat.mul_assoc]
  rw [e2, Nat.add_mul_div_left _ _ (Nat.two_pow_pos _)]
  omega

theorem bitL_tz {ys : List Nat} (h : Ok ys) (h0 : val ys ≠ 0) : bitL ys (tz (val ys)) = 1 := by
  rw [bitL_eq h]
  exact tz_odd h0

theorem bitL_low {ys : List Nat} (h : Ok ys) (h0 : val ys ≠ 0) {j : Nat} (hj : j < tz (val ys)) : bitL ys j = 0 := by
  rw [bitL_eq h]
  exact tz_low h0 hj

theorem tz_lt {ys : List Nat} (h : Ok ys) (h0 : val ys ≠ 0) : tz (val ys) < 32 * ys.length := by
  have h1 := val_lt h
  have h2 := two_pow_tz_le h0
  rw [pow32] at h1
  exact (Nat.pow_lt_pow_iff_right (by decide)).1 (Nat.lt_of_le_of_lt h2 h1)

/-- At a limb 0 the end lies farther up. -/
theorem tz_next {ys : List Nat} (h : Ok ys) (h0 : val ys ≠ 0) {i : Nat} (hi : 32 * i ≤ tz (val ys)) (hz : nth ys i = 0) : 32 * (i + 1) ≤ tz (val ys) := by
  obtain ⟨q, hq⟩ := tz_le_dvd h0 hi
  obtain ⟨r, hr⟩ := val_part ys (i := i) h
  rw [hq, Nat.mul_div_cancel_left _ (Nat.two_pow_pos _), hz, Nat.zero_add] at hr
  have hr0 : r ≠ 0 := by
    rintro rfl
    rw [hr] at hq
    exact h0 (by simpa using hq)
  rw [hq, hr, show (4294967296 : Nat) = 2 ^ 32 from rfl, tz_shift (by exact Nat.mul_ne_zero (by decide) hr0), tz_shift hr0]
  omega

/-- At the first limb that is not 0 the end lies in it. -/
theorem tz_here {ys : List Nat} (h : Ok ys) (h0 : val ys ≠ 0) {i : Nat} (hi : 32 * i ≤ tz (val ys)) (hz : nth ys i ≠ 0) : tz (val ys) = 32 * i + Lib.ctz 32 (nth ys i) := by
  obtain ⟨q, hq⟩ := tz_le_dvd h0 hi
  obtain ⟨r, hr⟩ := val_part ys (i := i) h
  rw [hq, Nat.mul_div_cancel_left _ (Nat.two_pow_pos _)] at hr
  obtain ⟨m, hm, hc⟩ := Lib.ctzFrom_spec 32 (nth ys i) (by omega) (nth_lt h i)
  have e : Lib.ctz 32 (nth ys i) = Lib.ctzFrom 32 (nth ys i) := by unfold Lib.ctz; rw [if_neg hz]
  rw [← e] at hm hc
  obtain ⟨c, hcc⟩ : ∃ c, c = Lib.ctz 32 (nth ys i) := ⟨_, rfl⟩
  rw [← hcc] at hm hc ⊢
  obtain ⟨d, hd⟩ : ∃ d, 32 = c + (d + 1) := ⟨31 - c, by omega⟩
  have e2 : 4294967296 * r = 2 ^ c * (2 * (2 ^ d * r)) := by
    rw [show (4294967296 : Nat) = 2 ^ 32 from rfl, hd, Nat.pow_add, Nat.pow_succ, Nat.mul_comm (2 ^ d) 2, Nat.mul_assoc, Nat.mul_assoc]
  refine tz_unique (m := m + 2 ^ d * r) ?_
  rw [hq, hr, e2]
  conv => lhs; arg 2; arg 1; rw [hm]
  rw [← Nat.mul_add, Nat.pow_add, Nat.mul_assoc]
  congr 2
  omega

end Go.Lb
