/-
  Plain: what Value answers of a float, as a fraction, rounds to that float. No program in sight.
-/
import Derived.Test.YtkifhlgmbckekaaGreatDoorQMS5
import Derived.Test.YtkifhlgmbckekaaGreatDoorVals
import Derived.Test.YtkifhlgmbckekaaGreatDoorQBgI
import Derived.StillTailTactics
import Derived.Deep.CutRange
import Derived.Lib.ItoaNum
import Derived.Test.YtkifhlgmbckekaaGreatDoorNats
import Derived.Laws.StructEq
import Derived.Test.YtkifhlgmbckekaaGreatDoorBigL
import Derived.Deep.CutBlock
import Derived.Deep.Cut
import Derived.Deep.RegionHeld3
import Derived.Deep.RegionWith
import Derived.Test.YtkifhlgmbckekaaGreatDoorSumNs
import Derived.Test.YtkifhlgmbckekaaGreatDoorQRfs
import Derived.Test.YtkifhlgmbckekaaGreatDoorQMS8
import Derived.Test.YtkifhlgmbckekaaGreatDoorQMS0
namespace Go.Proofs.YtkifhlgmbckekaaGreatDoor

open Go.RowKit Go.Lb

theorem pw_is (k : Nat) : pw k = 2 ^ k := by unfold pw; rfl

theorem bias_is (E : Nat) : biasN E = bsN E := by unfold biasN bsN; rfl

theorem bits_parts {E F b : Nat} (hb : b < pw (1 + E + F)) : exN E F b * 2 ^ F + frN F b + (if sgB E F b = true then 2 ^ (E + F) else 0) = b ∧ sgB E F b = decide (2 ^ (E + F) ≤ b) := by
  have hP : 0 < 2 ^ F := Nat.two_pow_pos F
  have hQ : 0 < 2 ^ E := Nat.two_pow_pos E
  have e1 : frN F b = b % 2 ^ F := by unfold frN takeN; rw [pw_zero, Nat.div_one, pw_is]
  have e2 : exN E F b = b / 2 ^ F % 2 ^ E := by unfold exN takeN; rw [pw_is, pw_is]
  have e3 : takeN b (F + E) 1 = b / 2 ^ F / 2 ^ E % 2 := by
    unfold takeN
    rw [pw_add, Nat.div_div_eq_div_mul, pw_is, pw_is, pw_is, Nat.pow_one]
  have hs : sgB E F b = decide (b / 2 ^ F / 2 ^ E % 2 ≠ 0) := by unfold sgB; rw [e3]
  have hPQ : 2 ^ (E + F) = 2 ^ F * 2 ^ E := by rw [Nat.add_comm, Nat.pow_add]
  have hb2 : b < 2 ^ F * 2 ^ E * 2 := by
    rw [pw_is] at hb
    rw [show 1 + E + F = F + E + 1 by omega, Nat.pow_succ, Nat.pow_add] at hb
    exact hb
  have hq : b / 2 ^ F / 2 ^ E < 2 := by
    rw [Nat.div_div_eq_div_mul]
    exact Nat.div_lt_of_lt_mul hb2
  have hge : 2 ^ F * 2 ^ E ≤ b ↔ 1 ≤ b / 2 ^ F / 2 ^ E := by
    rw [Nat.div_div_eq_div_mul, Nat.le_div_iff_mul_le (Nat.mul_pos hP hQ), Nat.one_mul]
  have d1 := Nat.div_add_mod b (2 ^ F)
  have d2 := Nat.div_add_mod (b / 2 ^ F) (2 ^ E)
  rw [e1, e2, hs, hPQ]
  have hm : b / 2 ^ F % 2 ^ E * 2 ^ F + 2 ^ F * 2 ^ E * (b / 2 ^ F / 2 ^ E) = 2 ^ F * (b / 2 ^ F) := by
    conv => rhs; rw [← d2]
    rw [Nat.mul_add, Nat.mul_comm (b / 2 ^ F % 2 ^ E), Nat.mul_assoc, Nat.add_comm]
  generalize b / 2 ^ F / 2 ^ E = q at *
  have hq2 : q = 0 ∨ q = 1 := by omega
  rcases hq2 with rfl | rfl
  · have h5 : ¬ 2 ^ F * 2 ^ E ≤ b := fun h => by have := hge.1 h; omega
    constructor
    · simp
      omega
    · rw [decide_eq_false h5]
      rfl
  · have h5 : 2 ^ F * 2 ^ E ≤ b := hge.2 (Nat.le_refl _)
    constructor
    · simp
      omega
    · rw [decide_eq_true h5]
      rfl

end Go.Proofs.YtkifhlgmbckekaaGreatDoor

/-
  Plain: of a fraction the whole numbers by Down and Up lie one on each side of it, at most one apart; which of the two Even and Away take. No program in sight.
-/
namespace Go.Lb

open Go.RowKit Go.Proofs.YtkifhlgmbckekaaGreatDoor

theorem limbs_odd (R : Nat) : ((limbs R).length = 0 ∧ R = 0) ∨ (0 < (limbs R).length ∧ nth (limbs R) 0 % 2 = R % 2) := by
  by_cases h : R = 0
  · subst h
    exact .inl ⟨by rw [limbs_zero]; rfl, rfl⟩
  · right
    rw [limbs_pos h]
    refine ⟨by simp, ?_⟩
    show R % 4294967296 % 2 = R % 2
    omega

end Go.Lb

/-
  Plain: the floats by Down and Up lie one on each side of a fraction, with none between; which of the two the others take. No program in sight.
-/
namespace Go.Proofs.YtkifhlgmbckekaaGreatDoor

open Go.RowKit Go.Lb

/-- The fields of a float, by its number and its lowest place. -/
theorem unit_bits {E F M c b : Nat} {l : Int} {s : Bool} (hE : 2 ≤ E) (hl : 1 - (bsN E : Int) ≤ l) (hM : M ≤ 2 ^ (F + 1)) (hn : 2 ^ F ≤ M ∨ l = 1 - (bsN E : Int)) (hc : c = M + (l + bsN E - 1).toNat * 2 ^ F) (hi : c < infN E F) (hb : b = if s = true then c + 2 ^ (E + F) else c) :
    b < pw (1 + E + F) ∧ exN E F b ≠ maskN E ∧ sgB E F b = s ∧ (vN E F b = M ∧ vX E F b = l - F ∨ M = 2 * vN E F b ∧ vX E F b = l - F + 1) := by
  have hinf := inf_eq hE F
  have hF := Nat.two_pow_pos F
  have hlt : infN E F < 2 ^ (E + F) := by
    unfold infN
    have : 2 ^ F ≤ 2 ^ (E + F) := Nat.pow_le_pow_right (by decide) (by omega)
    omega
  have hpw : pw (1 + E + F) = 2 * 2 ^ (E + F) := by rw [pw_is, show 1 + E + F = E + F + 1 by omega, Nat.pow_succ]; omega
  have hbl : b < pw (1 + E + F) := by rw [hpw, hb]; split <;> omega
  obtain ⟨p1, p2⟩ := bits_parts hbl
  have hsg : sgB E F b = s := by
    rw [p2]
    cases s
    · simp only [Bool.false_eq_true, if_false] at hb
      exact decide_eq_false (by omega)
    · simp only [if_true] at hb
      exact decide_eq_true (by omega)
  rw [hsg] at p1
  have p3 : exN E F b * 2 ^ F + frN F b = c := by
    cases s
    · simp only [Bool.false_eq_true, if_false] at hb p1
      omega
    · simp only [if_true] at hb p1
      omega
  have hr : frN F b < 2 ^ F := by rw [← pw_is]; unfold frN; exact takeN_lt b 0 F
  have he : exN E F b < 2 * bsN E + 1 := by
    refine Nat.lt_of_mul_lt_mul_right (a := 2 ^ F) ?_
    rw [← hinf]
    omega
  have hmask : maskN E = 2 * bsN E + 1 := by
    unfold maskN bsN
    have h1 : 2 ^ E = 2 * 2 ^ (E - 1) := by
      rw [show 2 * 2 ^ (E - 1) = 2 ^ (E - 1) * 2 by omega, ← Nat.pow_succ]
      congr 1
      omega
    have := Nat.two_pow_pos (E - 1)
    omega
  have hu : ∀ q r, q * 2 ^ F + r = c → r < 2 ^ F → exN E F b = q ∧ frN F b = r := fun q r h1 h2 => by
    have e1 : c / 2 ^ F = q := by rw [← h1, Nat.mul_comm, Nat.mul_add_div hF, Nat.div_eq_of_lt h2, Nat.add_zero]
    have e2 : c / 2 ^ F = exN E F b := by rw [← p3, Nat.mul_comm, Nat.mul_add_div hF, Nat.div_eq_of_lt hr, Nat.add_zero]
    have e3 : exN E F b = q := by rw [← e2, e1]
    refine ⟨e3, ?_⟩
    rw [e3] at p3
    omega
  refine ⟨hbl, by omega, hsg, ?_⟩
  obtain ⟨k, hk⟩ : ∃ k : Nat, l = 1 - (bsN E : Int) + k := ⟨(l + bsN E - 1).toNat, by omega⟩
  have hk2 : (l + bsN E - 1).toNat = k := by omega
  rw [hk2] at hc
  unfold vN vX
  rw [bias_is, pw_is]
  rw [Nat.pow_succ] at hM
  by_cases h1 : M < 2 ^ F
  · have hk0 : k = 0 := by omega
    subst hk0
    obtain ⟨u1, u2⟩ := hu 0 M (by omega) h1
    rw [u1, u2, if_pos rfl, if_pos rfl]
    exact .inl ⟨rfl, by omega⟩
  · by_cases h2 : M < 2 * 2 ^ F
    · obtain ⟨u1, u2⟩ := hu (k + 1) (M - 2 ^ F) (by rw [Nat.add_mul, Nat.one_mul]; omega) (by omega)
      rw [u1, u2, if_neg (by omega), if_neg (by omega)]
      exact .inl ⟨by omega, by omega⟩
    · obtain ⟨u1, u2⟩ := hu (k + 2) 0 (by rw [Nat.add_mul]; omega) hF
      rw [u1, u2, if_neg (by omega), if_neg (by omega)]
      exact .inr ⟨by omega, by omega⟩

theorem fits_bits {E F b : Nat} (hf : formE (E : Int) (F : Int) = 0) (hb : b < pw (1 + E + F)) : fitsE (E : Int) (F : Int) b = 0 := by
  unfold fitsE
  rw [if_neg (by simp [hf]), if_pos (by simpa using hb)]

end Go.Proofs.YtkifhlgmbckekaaGreatDoor

/-
  Plain: the exact sum of two floats' worths is no error, and not long. No program in sight.
-/
namespace Go.Proofs.YtkifhlgmbckekaaGreatDoor

open Go.RowKit Go.Lb

theorem gN_top {e f b : Nat} (he : 2 ≤ e) (hx : exN e f b ≠ maskN e) : gN e f b < 2 ^ (f + 2 * biasN e) := by
  have hm := mask_bias he
  have h0 : exN e f b ≤ maskN e := by
    have h1 := exN_lt e f b
    unfold maskN
    unfold pw at h1
    omega
  have hb : 1 ≤ biasN e := by
    unfold biasN
    have : 2 ^ 1 ≤ 2 ^ (e - 1) := Nat.pow_le_pow_right (by decide) (by omega)
    omega
  have h1 := vN_top e f b
  have h2 : vX e f b ≤ (biasN e : Int) - f := by
    unfold vX
    split <;> omega
  unfold gN upW baseI
  unfold pw at h1
  rw [show f + 2 * biasN e = f + 1 + (2 * biasN e - 1) by omega, Nat.pow_add]
  exact Nat.mul_lt_mul_of_lt_of_le h1 (Nat.pow_le_pow_right (by decide) (by omega)) (Nat.two_pow_pos _)

theorem sum_bounds {e f a b : Nat} (hf : formE (e : Int) (f : Int) = 0) (pa : a < pw (1 + e + f)) (pb : b < pw (1 + e + f)) (xa : exN e f a ≠ maskN e) (xb : exN e f b ≠ maskN e) (D : Ds) (hD : D = addA (valD (e : Int) (f : Int) a).s (limbs (valD (e : Int) (f : Int) a).N) (valD (e : Int) (f : Int) a).x (valD (e : Int) (f : Int) b).s (limbs (valD (e : Int) (f : Int) b).N) (valD (e : Int) (f : Int) b).x) :
    D.e = 0 ∧ Dy D.s D.N D.x ∧ -1100 ≤ D.x ∧ D.x ≤ 1100 ∧ (limbs D.N).length ≤ 100 := by
  obtain ⟨q1, q2, q3, q4⟩ := formE_ok hf
  have he : e ≤ 11 := by omega
  obtain ⟨_, wa⟩ := valD_ok (fits_bits hf pa) xa he (by omega)
  obtain ⟨_, wb⟩ := valD_ok (fits_bits hf pb) xb he (by omega)
  have hbs := bias_small he
  have ga := gN_top (by omega) xa
  have gb := gN_top (by omega) xb
  obtain ⟨K, hK⟩ : ∃ K, K = f + 2 * biasN e := ⟨_, rfl⟩
  rw [← hK] at ga gb
  obtain ⟨B, hB⟩ : ∃ B, B = baseI e f := ⟨_, rfl⟩
  have hB1 : -1100 ≤ B ∧ B ≤ 1 ∧ B + K = 1 + biasN e := by rw [hB, hK]; unfold baseI; omega
  rw [← hB] at wa wb
  generalize valD (e : Int) (f : Int) a = P at *
  generalize valD (e : Int) (f : Int) b = Q at *
  generalize gN e f a = A at *
  generalize gN e f b = C at *
  have ua : upW P.N P.x B = A := by
    have := congrArg Int.natAbs wa.wo
    unfold wI at this
    rwa [sgI_abs, sgI_abs] at this
  have ub : upW Q.N Q.x B = C := by
    have := congrArg Int.natAbs wb.wo
    unfold wI at this
    rwa [sgI_abs, sgI_abs] at this
  have h0 := addA_ok wa.dy wb.dy (b := B) (K := K) ⟨wa.low, by rw [ua]; exact ga⟩ ⟨wb.low, by rw [ub]; exact gb⟩ (by omega) (by omega) (by omega)
  rw [← hD] at h0
  have hw := addA_worth wa.dy wb.dy wa.low wb.low (by rw [← hD]; exact h0)
  rw [← hD, wa.wo, wb.wo] at hw
  have hW := congrArg Int.natAbs hw.wo
  unfold wI at hW
  rw [sgI_abs] at hW
  have hle : (sgI (sgB e f a) A + sgI (sgB e f b) C).natAbs ≤ A + C := by
    unfold sgI
    split <;> split <;> omega
  have hup : upW D.N D.x B < 2 ^ (K + 1) := by
    rw [hW, Nat.pow_succ]
    omega
  refine ⟨h0, hw.dy, ?_⟩
  by_cases hN : D.N = 0
  · obtain ⟨_, hx⟩ := hw.dy.zero hN
    rw [hN, hx, limbs_zero]
    exact ⟨by decide, by decide, by decide⟩
  · have hlo := hw.low hN
    unfold upW at hup
    have h1 : 2 ^ (D.x - B).toNat ≤ D.N * 2 ^ (D.x - B).toNat := Nat.le_mul_of_pos_left _ (Nat.pos_of_ne_zero hN)
    have h2 := (Nat.pow_lt_pow_iff_right (by decide : 1 < 2)).1 (Nat.lt_of_le_of_lt h1 hup)
    have h3 : D.N ≤ D.N * 2 ^ (D.x - B).toNat := Nat.le_mul_of_pos_right _ (Nat.two_pow_pos _)
    refine ⟨by omega, by omega, ?_⟩
    obtain ⟨j, hj⟩ : ∃ j, j = 100 := ⟨_, rfl⟩
    rw [← hj]
    refine limbs_length_le (Nat.lt_of_le_of_lt h3 (Nat.lt_of_lt_of_le hup ?_))
    rw [pow32]
    exact Nat.pow_le_pow_right (by decide) (by omega)

end Go.Proofs.YtkifhlgmbckekaaGreatDoor

/-
  Plain: the reference's rounding of layer 7 (a number cut, and rounded by what was cut) said by RndL's words. No program in sight.
-/
namespace Go.Proofs.YtkifhlgmbckekaaGreatDoor

open Go.RowKit Go.Lb

/-- A number cut at the place n; how what is left compares with a half; is something left? -/
def ctN (N : Nat) (n : Int) : Nat := if n ≤ 0 then N * 2 ^ (-n).toNat else N / 2 ^ n.toNat

def ctC (N : Nat) (n : Int) (more : Bool) : Int := if n ≤ 0 then -1 else if cmpN (N % 2 ^ n.toNat) (2 ^ (n - 1).toNat) = 0 ∧ more = true then 1 else cmpN (N % 2 ^ n.toNat) (2 ^ (n - 1).toNat)

def ctL (N : Nat) (n : Int) (more : Bool) : Bool := more || decide (¬ n ≤ 0 ∧ N % 2 ^ n.toNat ≠ 0)

/-- Is what was cut rounded away from nought? -/
def hgB (neg odd : Bool) (c : Int) (left : Bool) (mode : Nat) : Bool :=
  if mode = 0 then decide (0 < c ∨ c = 0 ∧ odd = true) else if mode = 1 then decide (0 ≤ c) else if mode = 3 then left && !neg else if mode = 4 then left && neg else false

def r7N (N : Nat) (n : Int) (more neg : Bool) (mode : Nat) : Nat := ctN N n + (if hgB neg (decide (ctN N n % 2 = 1)) (ctC N n more) (ctL N n more) mode = true then 1 else 0)

theorem r7_is (N : Nat) (n : Int) (neg : Bool) {m : Nat} (hm : m < 5) : r7N N n false neg m = rdN (scN N (-n)) (scD 1 (-n)) neg m ∧ ctL N n false = !exB (scN N (-n)) (scD 1 (-n)) := by
  have hmm : m = 0 ∨ m = 1 ∨ m = 2 ∨ m = 3 ∨ m = 4 := by omega
  by_cases hn : n ≤ 0
  · have e1 : scN N (-n) = N * 2 ^ (-n).toNat := rfl
    have e2 : scD 1 (-n) = 1 := by unfold scD; rw [Int.neg_neg, show n.toNat = 0 by omega, Nat.pow_zero]
    unfold r7N ctN ctC ctL
    rw [e1, e2, if_pos hn, if_pos hn]
    unfold rdN exB hgB
    rcases hmm with rfl | rfl | rfl | rfl | rfl <;> simp [Nat.mod_one, hn]
  · obtain ⟨k, hk⟩ : ∃ k : Nat, n.toNat = k + 1 := ⟨n.toNat - 1, by omega⟩
    have hk2 : (n - 1).toNat = k := by omega
    have e1 : scN N (-n) = N := by unfold scN; rw [show (-n).toNat = 0 by omega, Nat.pow_zero, Nat.mul_one]
    have e2 : scD 1 (-n) = 2 ^ (k + 1) := by unfold scD; rw [Int.neg_neg, hk, Nat.one_mul]
    have hc : cmpN (N % 2 ^ (k + 1)) (2 ^ k) = cmpN (2 * (N % 2 ^ (k + 1))) (2 ^ (k + 1)) := by
      rw [Nat.pow_succ, Nat.mul_comm 2]
      exact (cmp_mul (by decide)).symm
    unfold r7N ctN ctC ctL
    rw [e1, e2, if_neg hn, if_neg hn, hk, hk2, hc]
    simp only [Bool.false_eq_true, and_false, if_false, Bool.false_or]
    unfold rdN exB hgB mdB
    by_cases h0 : N % 2 ^ (k + 1) = 0
    · have h1 : cmpN (2 * (N % 2 ^ (k + 1))) (2 ^ (k + 1)) = -1 := by rw [h0]; exact cmpN_lt (by rw [Nat.mul_zero]; exact Nat.two_pow_pos _)
      rw [h1]
      rcases hmm with rfl | rfl | rfl | rfl | rfl <;> simp [h0, hn]
    · rcases hmm with rfl | rfl | rfl | rfl | rfl <;> simp [h0, hn]

theorem sc_up (N : Nat) (X k : Int) : scN (upN N X) k * scD 1 (X + k) = scN N (X + k) * scD (upD X) k := by
  unfold scN scD upN upD
  rw [Nat.one_mul, Nat.mul_assoc, Nat.mul_assoc, ← Nat.pow_add, ← Nat.pow_add, Nat.mul_assoc, ← Nat.pow_add, ← Nat.pow_add]
  congr 2
  omega

theorem lg_of_up {N : Nat} (h : N ≠ 0) (X : Int) : lgE (upN N X) (upD X) = X + blN N - 1 := by
  obtain ⟨h1, h2, h3⟩ := bl_spec h
  have := lg_up (M := N) (F := blN N - 1) (X := X) h2 (by rw [show blN N - 1 + 1 = blN N by omega]; exact h3)
  omega

/-- Rounded at a place: as a fraction times a power of two. -/
theorem r7_up (N : Nat) (X k : Int) (neg : Bool) {m : Nat} (hm : m < 5) : r7N N (-k - X) false neg m = rdN (scN (upN N X) k) (scD (upD X) k) neg m ∧ ctL N (-k - X) false = !exB (scN (upN N X) k) (scD (upD X) k) := by
  obtain ⟨h1, h2⟩ := r7_is N (-k - X) neg hm
  rw [h1, h2, show -(-k - X) = X + k by omega]
  have hD : 0 < scD 1 (X + k) := scD_pos (by decide) _
  have hD' : 0 < scD (upD X) k := scD_pos (Nat.pos_of_ne_zero (upD_pos X)) _
  have hc := (sc_up N X k).symm
  exact ⟨rd_same hD hD' hc neg m, by rw [ex_same hD hD' hc]⟩

theorem bl_lt7 {q k : Nat} (h : k < blN q) : 2 ^ k ≤ q := by
  have hq : q ≠ 0 := fun h0 => by subst h0; simp [blN, limbs_zero, szN] at h
  obtain ⟨h1, h2, h3⟩ := bl_spec hq
  exact Nat.le_trans (Nat.pow_le_pow_right (by decide) (by omega)) h2

theorem bl_ge7 {q k : Nat} (h : 2 ^ k ≤ q) : k < blN q := by
  have hq : q ≠ 0 := fun h0 => by subst h0; have := Nat.two_pow_pos k; omega
  obtain ⟨h1, h2, h3⟩ := bl_spec hq
  exact (Nat.pow_lt_pow_iff_right (by decide : 1 < 2)).1 (Nat.lt_of_le_of_lt h h3)

/-- Beyond the greatest float: by the length of what was rounded. -/
theorem ov_len {E F N D m : Nat} {neg : Bool} (hE : 2 ≤ E) (hN : N ≠ 0) (hD : D ≠ 0) : ovB E F N D neg m = decide ((bsN E : Int) + 1 < (blN (sgM E F N D neg m) : Int) + (lwE E N D - F)) := by
  have hinf := inf_eq hE F
  have hle := sg_le (E := E) (F := F) hN hD neg m
  have hge := lw_ge E N D
  have hbs : 1 ≤ bsN E := by
    unfold bsN
    have : 2 ^ 1 ≤ 2 ^ (E - 1) := Nat.pow_le_pow_right (by decide) (by omega)
    omega
  have hB : Lb.sgB E F N D neg m = sgM E F N D neg m + (lwE E N D + bsN E - 1).toNat * 2 ^ F := rfl
  have hF := Nat.two_pow_pos F
  have e : ((bsN E : Int) < lwE E N D ∨ infN E F ≤ Lb.sgB E F N D neg m) ↔ (bsN E : Int) + 1 < (blN (sgM E F N D neg m) : Int) + (lwE E N D - F) := by
    by_cases hl : (bsN E : Int) < lwE E N D
    · have hlg : lwE E N D = lgE N D := by
        rcases lw_cases E N D with h | ⟨_, h⟩
        · exact h
        · omega
      have := bl_ge7 (sg_ge (F := F) hN hD neg m hlg)
      constructor
      · intro _
        omega
      · intro _
        exact .inl hl
    · constructor
      · rintro (h | h)
        · exact absurd h hl
        · have h2 : sgM E F N D neg m = 2 ^ (F + 1) ∧ lwE E N D = bsN E := by
            rw [hB, hinf] at h
            rw [Nat.pow_succ] at hle ⊢
            by_cases h3 : lwE E N D = bsN E
            · rw [h3, show ((bsN E : Int) + bsN E - 1).toNat = 2 * bsN E - 1 by omega] at h
              have h4 : (2 * bsN E + 1) * 2 ^ F = (2 * bsN E - 1) * 2 ^ F + 2 ^ F * 2 := by
                rw [Nat.mul_comm (2 ^ F) 2, ← Nat.add_mul]
                congr 1
                omega
              exact ⟨by omega, h3⟩
            · exfalso
              have h5 : ((lwE E N D + bsN E - 1).toNat + 2 + 1) * 2 ^ F ≤ (2 * bsN E + 1) * 2 ^ F := Nat.mul_le_mul_right _ (by omega)
              rw [Nat.add_mul, Nat.add_mul] at h5
              omega
          have h6 := bl_ge7 (q := sgM E F N D neg m) (k := F + 1) (by rw [h2.1]; exact Nat.le_refl _)
          omega
      · intro h
        right
        by_cases h3 : F + 1 < blN (sgM E F N D neg m)
        · have h4 := bl_lt7 h3
          have h5 : sgM E F N D neg m = 2 ^ (F + 1) := by omega
          have h6 : blN (sgM E F N D neg m) ≤ F + 2 := by
            by_cases h7 : F + 2 < blN (sgM E F N D neg m)
            · have h8 := bl_lt7 h7
              rw [h5] at h8
              exact absurd ((Nat.pow_le_pow_iff_right (by decide : 1 < 2)).1 h8) (by omega)
            · omega
          have h9 : lwE E N D = bsN E := by omega
          rw [hB, hinf, h5, h9, show ((bsN E : Int) + bsN E - 1).toNat = 2 * bsN E - 1 by omega, Nat.pow_succ, Nat.mul_comm (2 ^ F) 2, ← Nat.add_mul]
          exact Nat.mul_le_mul_right _ (by omega)
        · omega
  unfold ovB
  exact decide_eq_decide.2 e

theorem tiny_len {E F N D m : Nat} {neg : Bool} (hN : N ≠ 0) (hD : D ≠ 0) : tiny E F N D neg m = decide ((blN (sgK F N D neg m) : Int) + (lgE N D - F) ≤ 1 - (bsN E : Int)) := by
  obtain ⟨h1, h2⟩ := sgK_bounds (F := F) hN hD neg m
  have h3 := bl_ge7 h1
  have h4 : blN (sgK F N D neg m) ≤ F + 2 := by
    by_cases h7 : F + 2 < blN (sgK F N D neg m)
    · have h8 := Nat.le_trans (bl_lt7 h7) h2
      exact absurd ((Nat.pow_le_pow_iff_right (by decide : 1 < 2)).1 h8) (by omega)
    · omega
  unfold tiny
  exact decide_eq_decide.2 (by omega)

end Go.Proofs.YtkifhlgmbckekaaGreatDoor

