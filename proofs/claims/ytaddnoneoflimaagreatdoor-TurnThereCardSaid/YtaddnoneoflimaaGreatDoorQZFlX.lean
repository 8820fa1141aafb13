/-
  Plain: a dyadic number that a float's form has, written and read again; a narrower float widened; a difference that the form has. No program in sight.
-/
import Derived.Test.YtaddnoneoflimaaGreatDoorQTwBase
import Derived.Test.YtaddnoneoflimaaGreatDoorQZFlW
namespace Go.Proofs.YtaddnoneoflimaaGreatDoor

open Go.RowKit Go.Lb

theorem kept_is (s : Bool) {T : Nat} {place i : Int} (h0 : T ≠ 0) (hd : place ≤ i ∨ T % 2 ^ (place - i).toNat = 0) :
    ∃ K, Ieee.Toward.even.cut s (T <<< (i - place).toNat) (place - i).toNat = K ∧ K * 2 ^ (place - i).toNat = T * 2 ^ (i - place).toNat := by
  refine ⟨_, rfl, ?_⟩
  rw [Nat.shiftLeft_eq]
  by_cases hp : place ≤ i
  · rw [show (place - i).toNat = 0 by omega, cut_exact s (by omega) (by rw [Nat.pow_zero, Nat.mod_one]), Nat.pow_zero, Nat.div_one, Nat.mul_one]
  · have hd : T % 2 ^ (place - i).toNat = 0 := by
      rcases hd with h | h
      · omega
      · exact h
    have hdv := Nat.dvd_of_mod_eq_zero hd
    have hle := Nat.le_of_dvd (Nat.pos_of_ne_zero h0) hdv
    have hl : (place - i).toNat ≤ T.log2 := (Nat.le_log2 h0).2 hle
    rw [show (i - place).toNat = 0 by omega, Nat.pow_zero, Nat.mul_one, cut_exact s (by omega) hd]
    exact Nat.div_mul_cancel hdv

theorem word_read {E F R : Nat} (s : Bool) (h : R < 2 ^ (E + F)) : (Ieee.Format.mk E F).word s R / 2 ^ (E + F) % 2 = (if s = true then 1 else 0) ∧ (Ieee.Format.mk E F).word s R % 2 ^ (E + F) = R := by
  unfold Ieee.Format.word Ieee.Format.signWeight
  simp only
  have hb := Nat.two_pow_pos (E + F)
  generalize 2 ^ (E + F) = S at *
  cases s
  · simp only [Bool.false_eq_true, if_false]
    exact ⟨by rw [Nat.div_eq_of_lt (by omega)], Nat.mod_eq_of_lt (by omega)⟩
  · simp only [if_true]
    exact ⟨by rw [Nat.add_div_left _ hb, Nat.div_eq_of_lt (by omega)], by rw [Nat.add_mod_left, Nat.mod_eq_of_lt (by omega)]⟩

theorem dq_same (s : Bool) {K T : Nat} {place i : Int} (h : K * 2 ^ (place - i).toNat = T * 2 ^ (i - place).toNat) : dQ s K place = dQ s T i := by
  unfold dQ
  have e : sgZ s K * ((2 ^ (place - i).toNat : Nat) : Int) = sgZ s T * ((2 ^ (i - place).toNat : Nat) : Int) := by
    have hv : ((K : Nat) : Int) * ((2 ^ (place - i).toNat : Nat) : Int) = (T : Int) * ((2 ^ (i - place).toNat : Nat) : Int) := by
      rw [← Int.natCast_mul, ← Int.natCast_mul, h]
    unfold sgZ
    cases s
    · simpa using hv
    · simp only [if_true]
      rw [Int.neg_mul, Int.neg_mul, hv]
  have e2 : p2 place = p2 ((place - i).toNat : Int) * p2 (-((i - place).toNat : Int)) * p2 i := by
    rw [← p2_add, ← p2_add]
    congr 1
    omega
  rw [e2, p2_cast, ← Rat.mul_assoc, ← Rat.mul_assoc, ← Rat.intCast_mul, e, Rat.intCast_mul, ← p2_cast, Rat.mul_assoc, Rat.mul_assoc, ← Rat.mul_assoc (p2 _) (p2 _) (p2 i), p2_back, Rat.one_mul]

theorem write_nil (E F : Nat) (s : Bool) (i : Int) : (Ieee.Format.mk E F).write (.number s 0 i) = (Ieee.Format.mk E F).write (.number s 0 0) := by
  simp [Ieee.Format.write, Ieee.Format.nearest]

/-- A nought written and read again. -/
theorem nil_word (E F : Nat) (s : Bool) (i : Int) : ∃ m j, (Ieee.Format.mk E F).read ((Ieee.Format.mk E F).write (.number s 0 i)) = .number s m j ∧ dQ s m j = 0 := by
  rw [write_nil]
  obtain ⟨m, j, r1, r2⟩ := read_nil (E := E) (F := F) s
  refine ⟨m, j, r1, r2.trans ?_⟩
  rw [show sgZ s 0 = 0 by cases s <;> rfl]
  rfl

/-- The place of a number's last digit that a form keeps. -/
def plN (E F : Nat) (T : Nat) (i : Int) : Int := max (i + (T.log2 : Int) - F) (2 - (2 : Int) ^ (E - 1) - F)

/-- A dyadic that a form has: its word, read, is worth it. -/
theorem write_exact {E F T : Nat} {i : Int} (s : Bool) (hE : 2 ≤ E) (h0 : T ≠ 0) (hk : i + (T.log2 : Int) < (2 : Int) ^ (E - 1)) (hd : plN E F T i ≤ i ∨ T % 2 ^ (plN E F T i - i).toNat = 0) :
    ∃ m j, (Ieee.Format.mk E F).read ((Ieee.Format.mk E F).write (.number s T i)) = .number s m j ∧ dQ s m j = dQ s T i := by
  obtain ⟨K, hcut, hK⟩ := kept_is s h0 hd
  refine ⟨K, plN E F T i, ?_, dq_same s hK⟩
  have t1 := Nat.log2_self_le h0
  have t2 := Nat.lt_log2_self (n := T)
  have hPF := Nat.two_pow_pos F
  have hE2 : (2 : Nat) ^ E = 2 * 2 ^ (E - 1) := by
    rw [show 2 * 2 ^ (E - 1) = 2 ^ (E - 1) * 2 by omega, ← Nat.pow_succ]
    congr 1
    omega
  have hP1 : 2 ≤ 2 ^ (E - 1) := by
    have := Nat.pow_le_pow_right (n := 2) (by decide) (show 1 ≤ E - 1 by omega)
    omega
  have hpc : ((2 : Int) ^ (E - 1)) = ((2 ^ (E - 1) : Nat) : Int) := by push_cast; rfl
  have hpl : plN E F T i = max (i + (T.log2 : Int) - F) (2 - (2 : Int) ^ (E - 1) - F) := rfl
  have hw : (Ieee.Format.mk E F).write (.number s T i) = (Ieee.Format.mk E F).word s (min ((plN E F T i - (2 - (2 : Int) ^ (E - 1) - F)).toNat * 2 ^ F + K) ((2 ^ E - 1) * 2 ^ F)) := by
    unfold Ieee.Format.write Ieee.Format.nearest Ieee.Format.infRung Ieee.Format.leastPlace Ieee.Format.binade
    simp only
    rw [if_neg h0, ← hpl, hcut]
  rw [hw]
  generalize plN E F T i = p at *
  have up : K * 2 ^ (p - i).toNat < 2 ^ (T.log2 + 1 + (i - p).toNat) := by
    rw [hK, Nat.pow_add]
    exact Nat.mul_lt_mul_of_pos_right t2 (Nat.two_pow_pos _)
  have lo : 2 ^ (T.log2 + (i - p).toNat) ≤ K * 2 ^ (p - i).toNat := by
    rw [hK, Nat.pow_add]
    exact Nat.mul_le_mul_right _ t1
  clear hw hcut hK hd
  generalize T.log2 = l at *
  have hlt2 : (2 ^ E - 1) * 2 ^ F < 2 ^ (E + F) := by
    rw [Nat.pow_add]
    exact Nat.mul_lt_mul_of_pos_right (by have := Nat.two_pow_pos E; omega) hPF
  have hsb : ((if s = true then 1 else 0 : Nat) == 1) = s := by cases s <;> rfl
  by_cases hc : 2 - (2 : Int) ^ (E - 1) - F ≤ i + (l : Int) - F
  · have hp : p = i + (l : Int) - F := by omega
    have k1 : K < 2 * 2 ^ F := by
      rw [show l + 1 + (i - p).toNat = F + 1 + (p - i).toNat by omega, Nat.pow_add] at up
      have := Nat.lt_of_mul_lt_mul_right up
      rw [Nat.pow_succ] at this
      omega
    have k2 : 2 ^ F ≤ K := by
      rw [show l + (i - p).toNat = F + (p - i).toNat by omega, Nat.pow_add] at lo
      exact Nat.le_of_mul_le_mul_right lo (Nat.two_pow_pos _)
    obtain ⟨c, rfl⟩ : ∃ c, K = 2 ^ F + c := ⟨K - 2 ^ F, by omega⟩
    obtain ⟨q, hq⟩ : ∃ q, q = (p - (2 - (2 : Int) ^ (E - 1) - F)).toNat := ⟨_, rfl⟩
    rw [← hq]
    have hlt : q * 2 ^ F + (2 ^ F + c) < (2 ^ E - 1) * 2 ^ F := by
      have h1 : (q + 2) * 2 ^ F ≤ (2 ^ E - 1) * 2 ^ F := Nat.mul_le_mul_right _ (by omega)
      rw [Nat.add_mul] at h1
      omega
    rw [Nat.min_eq_left (Nat.le_of_lt hlt)]
    obtain ⟨w1, w2⟩ := word_read (E := E) (F := F) (R := q * 2 ^ F + (2 ^ F + c)) s (by omega)
    unfold Ieee.Format.read Ieee.Format.signWeight Ieee.Format.binade Ieee.Format.infRung Ieee.Format.leastPlace Ieee.Format.binade
    simp only
    rw [w1, w2, hsb, if_neg (by omega), if_pos hlt]
    have d1 : (q * 2 ^ F + (2 ^ F + c)) % 2 ^ F = c := by rw [← Nat.add_assoc, ← Nat.succ_mul, Nat.add_comm, Nat.add_mul_mod_self_right, Nat.mod_eq_of_lt (by omega)]
    have d2 : (q * 2 ^ F + (2 ^ F + c)) / 2 ^ F = q + 1 := by rw [← Nat.add_assoc, ← Nat.succ_mul, Nat.mul_comm, Nat.mul_add_div hPF, Nat.div_eq_of_lt (by omega), Nat.add_zero]
    rw [d1, d2]
    congr 1
    omega
  · have hp : p = 2 - (2 : Int) ^ (E - 1) - F := by omega
    have k1 : K < 2 ^ F := by
      have h2 : 2 ^ (l + 1 + (i - p).toNat) ≤ 2 ^ (F + (p - i).toNat) := Nat.pow_le_pow_right (by decide) (by omega)
      have h3 := Nat.lt_of_lt_of_le up h2
      rw [Nat.pow_add] at h3
      exact Nat.lt_of_mul_lt_mul_right h3
    rw [show (p - (2 - (2 : Int) ^ (E - 1) - F)).toNat = 0 by omega, Nat.zero_mul, Nat.zero_add]
    have hlt : K < (2 ^ E - 1) * 2 ^ F := Nat.lt_of_lt_of_le k1 (Nat.le_mul_of_pos_left _ (by omega))
    rw [Nat.min_eq_left (Nat.le_of_lt hlt)]
    obtain ⟨w1, w2⟩ := word_read (E := E) (F := F) (R := K) s (by omega)
    unfold Ieee.Format.read Ieee.Format.signWeight Ieee.Format.binade Ieee.Format.infRung Ieee.Format.leastPlace Ieee.Format.binade
    simp only
    rw [w1, w2, hsb, if_pos k1, hp]

theorem sg_up_same {s : Bool} {m k : Nat} {i j : Int} (h1 : ((sgZ s m : Int) : Rat) * p2 i = ((sgZ s k : Int) : Rat) * p2 j) : upN m i * upD j = upN k j * upD i := by
  have u : ∀ (n : Nat) (x : Int), ((sgZ s (upN n x) : Int) : Rat) = ((sgZ s n : Int) : Rat) * p2 x * (((upD x : Nat) : Int) : Rat) := fun n x => by
    unfold upN upD
    rw [← p2_cast, Rat.mul_assoc, ← p2_add]
    have e : sgZ s (n * 2 ^ x.toNat) = sgZ s n * ((2 ^ x.toNat : Nat) : Int) := by
      unfold sgZ
      cases s
      · simp
      · simp [Int.neg_mul]
    rw [e, Rat.intCast_mul, ← p2_cast]
    congr 2
    omega
  have e1 : ((sgZ s (upN m i) * ((upD j : Nat) : Int) : Int) : Rat) = ((sgZ s (upN k j) * ((upD i : Nat) : Int) : Int) : Rat) := by
    rw [Rat.intCast_mul, Rat.intCast_mul, u, u, h1, Rat.mul_assoc, Rat.mul_assoc, Rat.mul_comm (((upD i : Nat) : Int) : Rat), ← Rat.mul_assoc, ← Rat.mul_assoc]
  rw [Rat.intCast_inj] at e1
  unfold sgZ at e1
  have f1 : (((upN m i * upD j : Nat)) : Int) = (upN m i : Int) * (upD j : Int) := Int.natCast_mul _ _
  have f2 : (((upN k j * upD i : Nat)) : Int) = (upN k j : Int) * (upD i : Int) := Int.natCast_mul _ _
  cases s
  · simp only [Bool.false_eq_true, if_false] at e1
    omega
  · simp only [if_true] at e1
    rw [Int.neg_mul, Int.neg_mul] at e1
    omega

/-- Worth alike, cut alike. -/
theorem cut_same {s : Bool} {m k : Nat} {i j : Int} (h : dQ s m i = dQ s k j) : upN m i / upD i = upN k j / upD j := by
  have d1 := upD_pos i
  have d2 := upD_pos j
  have hx : upN m i * upD j = upN k j * upD i := sg_up_same h
  have hp1 := Nat.pos_of_ne_zero d1
  have hp2 := Nat.pos_of_ne_zero d2
  generalize upN m i = a at *
  generalize upN k j = b at *
  generalize upD i = c at *
  generalize upD j = d at *
  rw [← Nat.mul_div_mul_right a c hp2, hx, Nat.mul_comm b c, Nat.mul_comm c d, ← Nat.mul_div_mul_left b d hp1, Nat.mul_comm c d]

end Go.Proofs.YtaddnoneoflimaaGreatDoor

