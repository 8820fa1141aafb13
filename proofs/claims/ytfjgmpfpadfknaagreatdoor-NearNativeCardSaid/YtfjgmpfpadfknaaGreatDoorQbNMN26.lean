/-
  Plain: of a fraction the whole numbers by Down and Up lie one on each side of it, at most one apart; which of the two Even and Away take. No program in sight.
-/
import Derived.Test.YtfjgmpfpadfknaaGreatDoorQbNMN19
import Derived.Test.YtfjgmpfpadfknaaGreatDoorQbNRtI
import Derived.Test.YtfjgmpfpadfknaaGreatDoorQbNFloatL
namespace Go.Lb
open Go.RowKit Go.Proofs.YtfjgmpfpadfknaaGreatDoor
theorem limbs_odd (R : Nat) : ((limbs R).length = 0 ∧ R = 0) ∨ (0 < (limbs R).length ∧ nth (limbs R) 0 % 2 = R % 2) := by
 by_cases h : R = 0
 · subst h
   exact .inl ⟨by rw [limbs_zero]; rfl, rfl⟩
 · right
   rw [limbs_pos h]
   refine ⟨by simp, ?_⟩
   show R % 4294967296 % 2 = R % 2
   omega
end Go.Lb
namespace Go.Proofs.YtfjgmpfpadfknaaGreatDoor
open Go.RowKit Go.Lb
theorem fits_bits {E F b : Nat} (hf : formE (E : Int) (F : Int) = 0) (hb : b < pw (1 + E + F)) : fitsE (E : Int) (F : Int) b = 0 := by
 unfold fitsE
 rw [if_neg (by simp [hf]), if_pos (by simpa using hb)]
theorem gN_top {e f b : Nat} (he : 2 ≤ e) (hx : exN e f b ≠ maskN e) : gN e f b < 2 ^ (f + 2 * biasN e) := by
 have hm := mask_bias he
 have h0 : exN e f b ≤ maskN e := by
  have h1 := exN_lt e f b
  unfold maskN
  unfold pw at h1
  omega
 have hb : 1 ≤ biasN e := by
  unfold biasN
  have : 2 ^ 1 ≤ 2 ^ (e - 1) := Nat.pow_le_pow_right (by decide) (by omega)
  omega
 have h1 := vN_top e f b
 have h2 : vX e f b ≤ (biasN e : Int) - f := by
  unfold vX
  split <;> omega
 unfold gN upW baseI
 unfold pw at h1
 rw [show f + 2 * biasN e = f + 1 + (2 * biasN e - 1) by omega, Nat.pow_add]
 exact Nat.mul_lt_mul_of_lt_of_le h1 (Nat.pow_le_pow_right (by decide) (by omega)) (Nat.two_pow_pos _)
def hgB (neg odd : Bool) (c : Int) (left : Bool) (mode : Nat) : Bool :=
 if mode = 0 then decide (0 < c ∨ c = 0 ∧ odd = true) else if mode = 1 then decide (0 ≤ c) else if mode = 3 then left && !neg else if mode = 4 then left && neg else false
theorem fitsE_parts {e f : Int} {b : Nat} (h : fitsE e f b = 0) : formE e f = 0 ∧ b < pw (1 + e.toNat + f.toNat) := by
 unfold fitsE at h
 by_cases h0 : formE e f = 0
 · rw [if_neg (by simp [h0])] at h
   split at h
   · exact ⟨h0, by assumption⟩
   · cases h
 · rw [if_pos h0] at h
   exact absurd h h0
theorem pw_top {k : Nat} (h : k ≤ 63) : IntKind.u64.wrap (2 ^ k) = ((pw k : Nat) : Int) := by
 have hp : pw k ≤ 9223372036854775808 := by have := pw_le h; rw [show pw 63 = 9223372036854775808 by unfold pw; rfl] at this; exact this
 rw [show (2 : Int) ^ k = ((pw k : Nat) : Int) by unfold pw; rw [Int.natCast_pow]; rfl]
 exact IntWalk.u64_in _ (by omega)
theorem and_top {b k : Nat} (h : b < 2 * pw k) (hk : k ≤ 63) : bits .and .u64 (b : Int) (pw k : Int) = ((if b < pw k then 0 else pw k : Nat) : Int) := by
 have hp : pw k ≤ 9223372036854775808 := by have := pw_le hk; rw [show pw 63 = 9223372036854775808 by unfold pw; rfl] at this; exact this
 rw [u64_and_nat _ _ (by omega) (by omega)]
 congr 1
 by_cases hl : b < pw k
 · rw [if_pos hl]
   refine Nat.eq_of_testBit_eq fun i => ?_
   rw [Nat.testBit_and, Nat.zero_testBit]
   unfold pw at *
   rw [Nat.testBit_two_pow]
   by_cases hik : k = i
   · subst hik
     rw [Nat.testBit_lt_two_pow hl]
     rfl
   · simp [hik]
 · rw [if_neg hl]
   obtain ⟨r, hr⟩ : ∃ r, b = pw k + r := ⟨b - pw k, by omega⟩
   have hrl : r < pw k := by omega
   have hb : b = pw k ||| r := by
    have := Nat.two_pow_add_eq_or_of_lt (i := k) (b := r) (by unfold pw at hrl; exact hrl) 1
    rw [Nat.mul_one] at this
    rw [hr]
    unfold pw
    exact this
   refine Nat.eq_of_testBit_eq fun i => ?_
   rw [hb, Nat.testBit_and, Nat.testBit_or]
   unfold pw
   rw [Nat.testBit_two_pow]
   by_cases hik : k = i <;> simp [hik]
def nanB (e f b : Nat) : Bool := decide (exN e f b = maskN e ∧ frN f b ≠ 0)
theorem set3_other {w : World} {b p : Nat} {u v x : Value} (h : Box3 w b u v x) (hne : b ≠ p) (r0 r1 r2 : Value) : Box3 (((w.setCell ⟨p, 0, none⟩ r0).setCell ⟨p, 1, none⟩ r1).setCell ⟨p, 2, none⟩ r2) b u v x :=
 ⟨(cell_set3 hne r0 r1 r2).trans h.c0, (cell_set3 hne r0 r1 r2).trans h.c1, (cell_set3 hne r0 r1 r2).trans h.c2, by simp [h.z0], by simp [h.z1], by simp [h.z2]⟩
def twoE (e f : Int) (a b : Nat) : Int := if fitsE e f a ≠ 0 then fitsE e f a else fitsE e f b
theorem twoE_ok {e f : Int} {a b : Nat} (h : twoE e f a b = 0) : fitsE e f a = 0 ∧ fitsE e f b = 0 := by
 unfold twoE at h
 by_cases h0 : fitsE e f a = 0
 · rw [if_neg (by simp [h0])] at h
   exact ⟨h0, h⟩
 · rw [if_pos h0] at h
   exact absurd h h0
theorem Bd.parts {N : Nat} {x b : Int} {K : Nat} (h : Bd N x b K) (h0 : N ≠ 0) : N < 2 ^ K ∧ b ≤ x ∧ x < b + K := by
 have hlo := h.low h0
 have hup := h.top
 unfold upW at hup
 have h1 : 2 ^ (x - b).toNat ≤ N * 2 ^ (x - b).toNat := Nat.le_mul_of_pos_left _ (Nat.pos_of_ne_zero h0)
 have h2 := (Nat.pow_lt_pow_iff_right (by decide : 1 < 2)).1 (Nat.lt_of_le_of_lt h1 hup)
 have h3 : N ≤ N * 2 ^ (x - b).toNat := Nat.le_mul_of_pos_right _ (Nat.two_pow_pos _)
 exact ⟨Nat.lt_of_le_of_lt h3 hup, hlo, by omega⟩
theorem Bd.small {s : Bool} {N : Nat} {x b : Int} {K j : Nat} (h : Bd N x b K) (hy : Dy s N x) (hj : K ≤ 32 * j) : (limbs N).length ≤ j ∧ (b ≤ x ∨ x = 0) ∧ (x < b + K ∨ x = 0) := by
 by_cases h0 : N = 0
 · obtain ⟨_, hx⟩ := hy.zero h0
   rw [h0, limbs_zero]
   exact ⟨by simp, .inr hx, .inr hx⟩
 · obtain ⟨h1, h2, h3⟩ := h.parts h0
   exact ⟨len_pow h1 hj, .inl h2, .inl h3⟩
theorem sum_bd {s t : Bool} {N M : Nat} {x y b : Int} {K : Nat} (h1 : Dy s N x) (h2 : Dy t M y) (g1 : Bd N x b K) (g2 : Bd M y b K) (hK : K + 1 ≤ 524288) (hb1 : -1073741824 ≤ b) (hb2 : b + K + 1 ≤ 1073741824) (D : Ds) (hD : D = addA s (limbs N) x t (limbs M) y) :
 D.e = 0 ∧ Dy D.s D.N D.x ∧ Bd D.N D.x b (K + 1) := by
 have h0 := addA_ok h1 h2 g1 g2 hK hb1 hb2
 have hw := addA_worth h1 h2 g1.low g2.low h0
 rw [← hD] at h0 hw
 refine ⟨h0, hw.dy, hw.bd ?_⟩
 have e1 := wI_abs s N x b
 have e2 := wI_abs t M y b
 have t1 := g1.top
 have t2 := g2.top
 rw [Nat.pow_succ]
 generalize wI s N x b = u at *
 generalize wI t M y b = v at *
 omega
theorem val_bd {e f a : Nat} (hf : formE (e : Int) (f : Int) = 0) (pa : a < pw (1 + e + f)) (xa : exN e f a ≠ maskN e) :
 Dy (valS (e : Int) (f : Int) a) (valN (e : Int) (f : Int) a) (valX (e : Int) (f : Int) a) ∧ Bd (valN (e : Int) (f : Int) a) (valX (e : Int) (f : Int) a) (baseI e f) (f + 2 * biasN e) := by
 obtain ⟨q1, q2, q3, q4⟩ := formE_ok hf
 obtain ⟨_, wa⟩ := valD_ok (fits_bits hf pa) xa (by omega) (by omega)
 exact ⟨wa.dy, wa.bd (by rw [sgI_abs]; exact gN_top (by omega) xa)⟩
theorem base_small {e f : Nat} (hf : formE (e : Int) (f : Int) = 0) : -1100 ≤ baseI e f ∧ baseI e f ≤ 0 ∧ baseI e f + ((f + 2 * biasN e : Nat) : Int) ≤ 1024 ∧ f + 2 * biasN e ≤ 2098 := by
 obtain ⟨q1, q2, q3, q4⟩ := formE_ok hf
 have hb := bias_small (e := e) (by omega)
 have h1 : 1 ≤ biasN e := by
  unfold biasN
  have : 2 ^ 1 ≤ 2 ^ (e - 1) := Nat.pow_le_pow_right (by decide) (by omega)
  omega
 unfold baseI
 omega
end Go.Proofs.YtfjgmpfpadfknaaGreatDoor
