/-
  The walks of soft's top, Neg, Abs and of the reference's sign, Neg, Abs. Where a float stands (rank), by numbers and by bits; the walk of soft.rank. The walks of forms.Class of bits that don't fit, forms.NaN, forms.Payload, kit.nan, and of the reference's Inf, NaN.
-/
import Derived.Test.YtkifhlgmbckekaaGreatDoorSplits
import Derived.Test.YtkifhlgmbckekaaGreatDoorBoxes
import Derived.Deep.RegionHeld3
namespace Go.Proofs.YtkifhlgmbckekaaGreatDoor
open Go.RowKit Go.Lb

/-- The sign's bit. -/
def topN (e f : Int) (b : Nat) : Nat := if fitsE e f b = 0 then pw (e.toNat + f.toNat) else 0

theorem fitsE_parts {e f : Int} {b : Nat} (h : fitsE e f b = 0) : formE e f = 0 ∧ b < pw (1 + e.toNat + f.toNat) := by
  unfold fitsE at h
  by_cases h0 : formE e f = 0
  · rw [if_neg (by simp [h0])] at h
    split at h
    · exact ⟨h0, by assumption⟩
    · cases h
  · rw [if_pos h0] at h
    exact absurd h h0

theorem pw_top {k : Nat} (h : k ≤ 63) : IntKind.u64.wrap (2 ^ k) = ((pw k : Nat) : Int) := by
  have hp : pw k ≤ 9223372036854775808 := by have := pw_le h; rw [show pw 63 = 9223372036854775808 by unfold pw; rfl] at this; exact this
  rw [show (2 : Int) ^ k = ((pw k : Nat) : Int) by unfold pw; rw [Int.natCast_pow]; rfl]
  exact IntWalk.u64_in _ (by omega)

set_option maxRecDepth 100000 in
theorem softTop_any (e f : Int) (b : Nat) (w : World) (hb : b < 18446744073709551616) :
    Calls Tryz.prog 166 #[.agg #[.int .i64 e, .int .i64 f], .int .u64 b] w fun en w' => en = .returned (.tuple #[.int .u64 (topN e f b), .int .i64 (fitsE e f b)]) ∧ Below w.heap.size w w' := by
  by_cases h0 : fitsE e f b = 0
  · obtain ⟨hf, -⟩ := fitsE_parts h0
    obtain ⟨q1, q2, q3, q4⟩ := formE_ok hf
    obtain ⟨e, rfl⟩ := Int.eq_ofNat_of_zero_le (by omega : 0 ≤ e)
    obtain ⟨f, rfl⟩ := Int.eq_ofNat_of_zero_le (by omega : 0 ≤ f)
    have hT : topN (e : Int) (f : Int) b = pw (e + f) := if_pos h0
    have hw := pw_top (k := e + f) (by omega)
    have ht : ((e : Int) + (f : Int)).toNat = e + f := by omega
    have hm : min (e + f) 64 = e + f := by omega
    have hn : ¬ ((e : Int) + (f : Int) < 0) := by omega
    have h0B : (fitsE (e : Int) (f : Int) b != 0) = false := by simp [h0]
    rw [hT, h0]
    have hpz : pw (e + f) < 18446744073709551616 := by
      have := pw_lt (show e + f < 64 by omega)
      rw [show pw 64 = 18446744073709551616 by unfold pw; rfl] at this
      exact this
    generalize pw (e + f) = P at hw hpz ⊢
    go_enter Tryz.func166, Tryz.ntmps166
    go_wp2_with (go_at_call 169; refine (fits_any e f b _ hb).mono ?_; rintro en w1 ⟨rfl, hb1⟩; rw [h0]; have A := (box2_new w _ _ _).stay hb1; have ⟨a0, a1⟩ := A; have hW := next (more (Below.refl _ _) _) hb1)
    refine bodyPost_ret (v := .tuple #[.int .u64 (P : Int), .int .i64 0]) (by simp [results, Tryz.results166, go_sem]) rfl ⟨rfl, hW⟩
  · have h0B : (fitsE e f b != 0) = true := by simp [h0]
    have hT : topN e f b = 0 := if_neg h0
    rw [hT]
    go_enter Tryz.func166, Tryz.ntmps166
    go_wp2_with (go_at_call 169; refine (fits_any e f b _ hb).mono ?_; rintro en w1 ⟨rfl, hb1⟩)
    go_ret2
    exact ⟨rfl, next (more (Below.refl _ _) _) hb1⟩

set_option maxRecDepth 100000 in
theorem refSign7_any (e f : Int) (neg : Bool) (w : World) (hf : formE e f = 0) :
    Calls Tryz.prog 71 #[.agg #[.int .i64 e, .int .i64 f], .bool neg] w fun en w' => en = .returned (.int .u64 ((if neg = true then pw (e.toNat + f.toNat) else 0 : Nat) : Int)) ∧ Below w.heap.size w w' := by
  obtain ⟨q1, q2, q3, q4⟩ := formE_ok hf
  obtain ⟨e, rfl⟩ := Int.eq_ofNat_of_zero_le (by omega : 0 ≤ e)
  obtain ⟨f, rfl⟩ := Int.eq_ofNat_of_zero_le (by omega : 0 ≤ f)
  have hw := pw_top (k := e + f) (by omega)
  have ht : ((e : Int) + (f : Int)).toNat = e + f := by omega
  have h64 : IntKind.u64.wrap ((e : Int) + (f : Int)) = (e : Int) + (f : Int) := by rw [IntKind.wrap_u64]; omega
  show Calls _ _ _ _ fun en w' => en = .returned (.int .u64 ((if neg = true then pw (e + f) else 0 : Nat) : Int)) ∧ _
  cases neg
  · go_enter Tryz.func71, Tryz.ntmps71
    go_wp2
    go_ret
    exact ⟨rfl, more (Below.refl _ _) _⟩
  · generalize pw (e + f) = P at hw ⊢
    go_enter Tryz.func71, Tryz.ntmps71
    go_wp2
    refine bodyPost_ret (v := .int .u64 (P : Int)) (by simp [results, Tryz.results71, go_sem]) rfl ⟨rfl, more (Below.refl _ _) _⟩

/-- What Neg answers. -/
def snNegN (e f : Int) (a : Nat) : Int := if fitsE e f a = 0 then bits .xor .u64 (a : Int) (topN e f a : Int) else 0

set_option maxRecDepth 100000 in
theorem softNeg_any (e f : Int) (a : Nat) (w : World) (hb : a < 18446744073709551616) :
    Calls Tryz.prog 70 #[.agg #[.int .i64 e, .int .i64 f], .int .u64 a] w fun en w' => en = .returned (.tuple #[.int .u64 (snNegN e f a), .int .i64 (fitsE e f a)]) ∧ Below w.heap.size w w' := by
  by_cases h0 : fitsE e f a = 0
  · have h0B : (fitsE e f a != 0) = false := by simp [h0]
    have hN : snNegN e f a = bits .xor .u64 (a : Int) (topN e f a : Int) := if_pos h0
    rw [hN, h0]
    generalize hP : topN e f a = P
    go_enter Tryz.func70, Tryz.ntmps70
    go_wp2_with (go_at_call 166; refine (softTop_any e f a _ hb).mono ?_; rintro en w1 ⟨rfl, hb1⟩; rw [h0, hP])
    refine bodyPost_ret (v := .tuple #[.int .u64 (bits .xor .u64 (a : Int) (P : Int)), .int .i64 0]) (by simp [results, Tryz.results70, go_sem]) rfl ⟨rfl, next (more (Below.refl _ _) _) hb1⟩
  · have h0B : (fitsE e f a != 0) = true := by simp [h0]
    have hN : snNegN e f a = 0 := if_neg h0
    rw [hN]
    go_enter Tryz.func70, Tryz.ntmps70
    go_wp2_with (go_at_call 166; refine (softTop_any e f a _ hb).mono ?_; rintro en w1 ⟨rfl, hb1⟩)
    go_ret2
    exact ⟨rfl, next (more (Below.refl _ _) _) hb1⟩

/-- What Abs answers. -/
def snAbsN (e f : Int) (a : Nat) : Int := if fitsE e f a = 0 then bits .andNot .u64 (a : Int) (topN e f a : Int) else 0

end Go.Proofs.YtkifhlgmbckekaaGreatDoor

namespace Go.Proofs.YtkifhlgmbckekaaGreatDoor
open Go.RowKit Go.Lb

/-- Where a float stands; k: the sign's place. -/
def rkN (k b : Nat) : Nat := if b < pw k then b + pw k else 2 * pw k - 1 - b

theorem or_top {b k : Nat} (h : b < pw k) (hk : k ≤ 63) : bits .or .u64 (b : Int) (pw k : Int) = ((b + pw k : Nat) : Int) := by
  have hp : pw k ≤ 9223372036854775808 := by have := pw_le hk; rw [show pw 63 = 9223372036854775808 by unfold pw; rfl] at this; exact this
  have h1 : (BitVec.ofInt 64 (b : Int)).toNat = b := by
    rw [BitVec.ofInt_natCast, BitVec.toNat_ofNat]; exact Nat.mod_eq_of_lt (by omega)
  have h2 : (BitVec.ofInt 64 (pw k : Int)).toNat = pw k := by
    rw [BitVec.ofInt_natCast, BitVec.toNat_ofNat]; exact Nat.mod_eq_of_lt (by omega)
  show IntKind.u64.wrap ((BitVec.ofInt 64 (b : Int) ||| BitVec.ofInt 64 (pw k : Int)).toNat : Int) = _
  have h3 : pw k ||| b = pw k + b := by
    have := Nat.two_pow_add_eq_or_of_lt (i := k) (b := b) (by unfold pw at h; exact h) 1
    unfold pw
    rw [Nat.mul_one] at this
    exact this.symm
  rw [BitVec.toNat_or, h1, h2, Nat.or_comm, h3, IntKind.wrap_u64]
  omega

theorem and_top {b k : Nat} (h : b < 2 * pw k) (hk : k ≤ 63) : bits .and .u64 (b : Int) (pw k : Int) = ((if b < pw k then 0 else pw k : Nat) : Int) := by
  have hp : pw k ≤ 9223372036854775808 := by have := pw_le hk; rw [show pw 63 = 9223372036854775808 by unfold pw; rfl] at this; exact this
  rw [u64_and_nat _ _ (by omega) (by omega)]
  congr 1
  by_cases hl : b < pw k
  · rw [if_pos hl]
    refine Nat.eq_of_testBit_eq fun i => ?_
    rw [Nat.testBit_and, Nat.zero_testBit]
    unfold pw at *
    rw [Nat.testBit_two_pow]
    by_cases hik : k = i
    · subst hik
      rw [Nat.testBit_lt_two_pow hl]
      rfl
    · simp [hik]
  · rw [if_neg hl]
    obtain ⟨r, hr⟩ : ∃ r, b = pw k + r := ⟨b - pw k, by omega⟩
    have hrl : r < pw k := by omega
    have hb : b = pw k ||| r := by
      have := Nat.two_pow_add_eq_or_of_lt (i := k) (b := r) (by unfold pw at hrl; exact hrl) 1
      rw [Nat.mul_one] at this
      rw [hr]
      unfold pw
      exact this
    refine Nat.eq_of_testBit_eq fun i => ?_
    rw [hb, Nat.testBit_and, Nat.testBit_or]
    unfold pw
    rw [Nat.testBit_two_pow]
    by_cases hik : k = i <;> simp [hik]

theorem clear_top {b k : Nat} (h : b < 2 * pw k) (h2 : ¬ b < pw k) (hk : k ≤ 63) : bits .andNot .u64 (b : Int) (pw k : Int) = ((b - pw k : Nat) : Int) := by
  have hp : pw k ≤ 9223372036854775808 := by have := pw_le hk; rw [show pw 63 = 9223372036854775808 by unfold pw; rfl] at this; exact this
  have e1 : (BitVec.ofInt 64 (b : Int)).toNat = b := by
    rw [BitVec.ofInt_natCast, BitVec.toNat_ofNat]; exact Nat.mod_eq_of_lt (by omega)
  have e2 : (BitVec.ofInt 64 (pw k : Int)).toNat = pw k := by
    rw [BitVec.ofInt_natCast, BitVec.toNat_ofNat]; exact Nat.mod_eq_of_lt (by omega)
  show IntKind.u64.wrap ((BitVec.ofInt 64 (b : Int) &&& ~~~ BitVec.ofInt 64 (pw k : Int)).toNat : Int) = _
  rw [BitVec.toNat_and, BitVec.toNat_not, e1, e2]
  obtain ⟨r, hr⟩ : ∃ r, b = pw k + r := ⟨b - pw k, by omega⟩
  have hrl : r < pw k := by omega
  have hb : b = pw k ||| r := by
    have := Nat.two_pow_add_eq_or_of_lt (i := k) (b := r) (by unfold pw at hrl; exact hrl) 1
    rw [Nat.mul_one] at this
    rw [hr]
    unfold pw
    exact this
  have h3 : b &&& (2 ^ 64 - 1 - pw k) = r := by
    refine Nat.eq_of_testBit_eq fun i => ?_
    have hp64 : pw k < 2 ^ 64 := by omega
    rw [show 2 ^ 64 - 1 - pw k = 2 ^ 64 - (pw k + 1) by omega, Nat.testBit_and, Nat.testBit_two_pow_sub_succ hp64, hb, Nat.testBit_or]
    unfold pw at *
    rw [Nat.testBit_two_pow]
    by_cases hik : k = i
    · subst hik
      have : r.testBit k = false := Nat.testBit_lt_two_pow hrl
      simp [this]
    · by_cases hi : i < 64
      · simp [hik, hi]
      · have : r.testBit i = false := Nat.testBit_lt_two_pow (Nat.lt_of_lt_of_le hrl (Nat.pow_le_pow_right (by decide) (by omega)))
        simp [this, hik, hi]
  rw [h3, IntKind.wrap_u64]
  omega

end Go.Proofs.YtkifhlgmbckekaaGreatDoor

namespace Go.Proofs.YtkifhlgmbckekaaGreatDoor
open Go.RowKit Go.Lb

set_option maxRecDepth 100000 in
theorem class_no (e f : Int) (b : Nat) (w : World) (h : fitsE e f b ≠ 0) (hb : b < 18446744073709551616) :
    Calls Tryz.prog 78 #[.agg #[.int .i64 e, .int .i64 f], .int .u64 b] w fun en w' => en = .returned (.tuple #[.int .u8 0, .int .i64 (fitsE e f b)]) ∧ Below w.heap.size w w' := by
  have h0B : (fitsE e f b != 0) = true := by simp [h]
  go_enter Tryz.func78, Tryz.ntmps78
  go_wp2_with (go_at_call 170; refine (split_no e f b _ h hb).mono ?_; rintro en w1 ⟨rfl, hb1⟩; have hW := next (more (Below.refl _ _) _) hb1)
  go_ret2
  exact ⟨rfl, more hW _⟩

/-- The NaN. -/
def nanN (e f : Nat) : Nat := joinN e f false (maskN e) (pw (f - 1))

theorem nanN_eq (e f : Nat) : nanN e f = maskN e * pw f + pw (f - 1) := by
  unfold nanN joinN
  rw [if_neg (by decide)]
  unfold putN
  omega

theorem or_zero (a : Nat) (ha : a < 18446744073709551616) : bits .or .u64 (a : Int) 0 = (a : Int) := by
  have h1 : (BitVec.ofInt 64 (a : Int)).toNat = a := by
    rw [BitVec.ofInt_natCast, BitVec.toNat_ofNat]; exact Nat.mod_eq_of_lt (by omega)
  show IntKind.u64.wrap ((BitVec.ofInt 64 (a : Int) ||| BitVec.ofInt 64 0).toNat : Int) = _
  rw [BitVec.toNat_or, h1, show (BitVec.ofInt 64 0).toNat = 0 from rfl, Nat.or_zero, IntKind.wrap_u64]
  omega

set_option maxRecDepth 100000 in
theorem formsNaN_zero (e f : Nat) (w : World) (h : formE (e : Int) (f : Int) = 0) :
    Calls Tryz.prog 79 #[.agg #[.int .i64 e, .int .i64 f], .bool false, .int .u64 0] w fun en w' => en = .returned (.tuple #[.int .u64 (nanN e f), .int .i64 0]) ∧ Below w.heap.size w w' := by
  obtain ⟨q1, q2, q3, q4⟩ := formE_ok h
  have hw := pw_top (k := f - 1) (by omega)
  have ht : ((f : Int) - 1).toNat = f - 1 := by omega
  have hn : ¬ ((f : Int) - 1 < 0) := by omega
  have hp := pw_lt (show f - 1 < 64 by omega)
  rw [show pw 64 = 18446744073709551616 by unfold pw; rfl] at hp
  have ho := or_zero (pw (f - 1)) hp
  have hlt : pw (f - 1) < pw f := pw_lt (by omega)
  have hp0 := pw_pos (f - 1)
  have hge : ¬ ((pw (f - 1) : Nat) : Int) ≤ 0 := by omega
  have hm : maskN e < pw e := by rw [maskN_eq]; have := pw_pos e; omega
  have hj := fun W => join_any e f false (maskN e) (pw (f - 1)) W (by omega) (by omega) (by omega) hm hlt
  change ∀ W, Calls Tryz.prog 172 #[.agg #[.int .i64 e, .int .i64 f], .bool false, .int .u64 (maskN e), .int .u64 (pw (f - 1))] W fun en w' => en = .returned (.int .u64 (nanN e f : Int)) ∧ Below W.heap.size W w' at hj
  generalize nanN e f = NN at hj ⊢
  generalize hP : pw (f - 1) = P at hw hp ho hp0 hge hj
  go_enter Tryz.func79, Tryz.ntmps79
  go_wp2_with (first
    | (go_at_call 75; refine (formCheck_any e f _).mono ?_; rintro en w1 ⟨rfl, hb1⟩; rw [h]; have A := (box2_new w _ _ _).stay hb1; have ⟨a0, a1⟩ := A; have hW := next (more (Below.refl _ _) _) hb1)
    )
  go_region_held3 (fun w' => w'.cell? ⟨w.heap.size, 0, none⟩ = some (.int .i64 e) ∧ w'.cell? ⟨w.heap.size, 1, none⟩ = some (.int .i64 f) ∧ Below w.heap.size w w')
    ((go_split_ands; refine ⟨?_, ?_, ?_⟩ <;> (first | assumption | exact Below.drew (by assumption) | exact cellStay (by assumption) hbB | exact next (by assumption) hbB | (go_keep; done))))
    (first | (go_at_call 171; (with_reducible refine (mask_any e _ (by omega)).mono ?_); rintro en wB ⟨rfl, rfl⟩) | (go_at_call 172; (with_reducible refine (hj _).mono ?_); rintro en wB ⟨rfl, hbB⟩))
  go_split_ands
  go_wp2
  go_ret2
  exact ⟨rfl, by assumption⟩

set_option maxRecDepth 100000 in
theorem refInf7_any (e f : Nat) (w : World) (h : formE (e : Int) (f : Int) = 0) :
    Calls Tryz.prog 147 #[.agg #[.int .i64 e, .int .i64 f], .bool false] w fun en w' => en = .returned (.int .u64 ((maskN e * pw f : Nat) : Int)) ∧ Below w.heap.size w w' := by
  obtain ⟨q1, q2, q3, q4⟩ := formE_ok h
  have hw1 := pw_top (k := e) (by omega)
  have hx1 : IntKind.u64.wrap (e : Int) = (e : Int) := by rw [IntKind.wrap_u64]; omega
  have hx2 : IntKind.u64.wrap (f : Int) = (f : Int) := by rw [IntKind.wrap_u64]; omega
  have hm1 : min e 64 = e := by omega
  have hm2 : min f 64 = f := by omega
  have hpe := pw_pos e
  have hple := pw_le (show e ≤ 11 by omega)
  rw [show pw 11 = 2048 by unfold pw; rfl] at hple
  have hplf := pw_le (show f ≤ 52 by omega)
  rw [show pw 52 = 4503599627370496 by unfold pw; rfl] at hplf
  have hmk := maskN_eq e
  have hprod : maskN e * pw f ≤ 2047 * 4503599627370496 := Nat.mul_le_mul (by omega) hplf
  have hw3 : IntKind.u64.wrap (((pw e : Nat) : Int) - 1) = ((maskN e : Nat) : Int) := by rw [IntKind.wrap_u64, hmk]; omega
  have hw4 : IntKind.u64.wrap ((maskN e : Int) * 2 ^ f) = ((maskN e * pw f : Nat) : Int) := by
    rw [show (maskN e : Int) * 2 ^ f = ((maskN e * pw f : Nat) : Int) by rw [Int.natCast_mul]; unfold pw; rw [Int.natCast_pow]; rfl, IntKind.wrap_u64]
    omega
  have hS := fun W => refSign7_any (e : Int) (f : Int) false W h
  generalize hQ : maskN e * pw f = Q at hw4 hprod ⊢
  have hQw : IntKind.u64.wrap (Q : Int) = (Q : Int) := by rw [IntKind.wrap_u64]; omega
  generalize maskN e = M at hw3 hw4
  generalize pw e = P at hw1 hw3
  go_enter Tryz.func147, Tryz.ntmps147
  go_wp2
  have A := box2_new w (.int .i64 e) (.int .i64 f) 23
  have ⟨a0, a1⟩ := A
  have hW0 := more (Below.refl w.heap.size w) (.cells #[.int .i64 e, .int .i64 f] 23)
  go_region_held3 (fun w' => w'.cell? ⟨w.heap.size, 0, none⟩ = some (.int .i64 e) ∧ w'.cell? ⟨w.heap.size, 1, none⟩ = some (.int .i64 f) ∧ Below w.heap.size w w')
    ((go_split_ands; refine ⟨?_, ?_, ?_⟩ <;> (first | assumption | exact Below.drew (by assumption) | exact cellStay (by assumption) hbB | exact next (by assumption) hbB | (go_keep; done))))
    (first | (go_at_call 71; (with_reducible refine (hS _).mono ?_); rintro en wB ⟨rfl, hbB⟩))
  go_split_ands
  go_wp2
  refine bodyPost_ret (v := .int .u64 (Q : Int)) (by simp [results, Tryz.results147, go_sem]) rfl ⟨rfl, by assumption⟩

set_option maxRecDepth 100000 in
theorem refNaN7_any (e f : Nat) (w : World) (h : formE (e : Int) (f : Int) = 0) :
    Calls Tryz.prog 68 #[.agg #[.int .i64 e, .int .i64 f]] w fun en w' => en = .returned (.int .u64 (nanN e f)) ∧ Below w.heap.size w w' := by
  obtain ⟨q1, q2, q3, q4⟩ := formE_ok h
  have hw := pw_top (k := f - 1) (by omega)
  have hx : IntKind.u64.wrap ((f : Int) - 1) = (f : Int) - 1 := by rw [IntKind.wrap_u64]; omega
  have ht : ((f : Int) - 1).toNat = f - 1 := by omega
  have hm : min (f - 1) 64 = f - 1 := by omega
  have hple := pw_le (show e ≤ 11 by omega)
  rw [show pw 11 = 2048 by unfold pw; rfl] at hple
  have hplf := pw_le (show f ≤ 52 by omega)
  rw [show pw 52 = 4503599627370496 by unfold pw; rfl] at hplf
  have hplg := pw_le (show f - 1 ≤ 52 by omega)
  rw [show pw 52 = 4503599627370496 by unfold pw; rfl] at hplg
  have hmk := maskN_eq e
  have hpe := pw_pos e
  have hprod : maskN e * pw f ≤ 2047 * 4503599627370496 := Nat.mul_le_mul (by omega) hplf
  have hI := fun W => refInf7_any e f W h
  rw [nanN_eq]
  generalize maskN e * pw f = Q at hprod hI ⊢
  generalize pw (f - 1) = P at hw hplg ⊢
  have hs : IntKind.u64.wrap ((Q : Int) + (P : Int)) = (Q : Int) + (P : Int) := by rw [IntKind.wrap_u64]; omega
  have hi : IntKind.i64.wrap ((f : Int) - 1) = (f : Int) - 1 := IntWalk.i64_in _ (by omega)
  go_enter Tryz.func68, Tryz.ntmps68
  go_wp2
  have A := box2_new w (.int .i64 e) (.int .i64 f) 23
  have ⟨a0, a1⟩ := A
  have hW0 := more (Below.refl w.heap.size w) (.cells #[.int .i64 e, .int .i64 f] 23)
  go_region_held3 (fun w' => w'.cell? ⟨w.heap.size, 0, none⟩ = some (.int .i64 e) ∧ w'.cell? ⟨w.heap.size, 1, none⟩ = some (.int .i64 f) ∧ Below w.heap.size w w')
    ((go_split_ands; refine ⟨?_, ?_, ?_⟩ <;> (first | assumption | exact Below.drew (by assumption) | exact cellStay (by assumption) hbB | exact next (by assumption) hbB | (go_keep; done))))
    (first | (go_at_call 147; (with_reducible refine (hI _).mono ?_); rintro en wB ⟨rfl, hbB⟩))
  go_split_ands
  go_wp2
  refine bodyPost_ret (v := .int .u64 ((Q + P : Nat) : Int)) (by simp [results, Tryz.results68, go_sem]) rfl ⟨rfl, by assumption⟩

end Go.Proofs.YtkifhlgmbckekaaGreatDoor
