/-
  The walks of soft's top, Neg, Abs and of the reference's sign, Neg, Abs. Where a float stands (rank), by numbers and by bits; the walk of soft.rank. The walks of forms.Class of bits that don't fit, forms.NaN, forms.Payload, kit.nan, and of the reference's Inf, NaN.
-/
import Derived.Test.YtaddnoneoflimaaGreatDoorQbTSplits
import Derived.Test.YtaddnoneoflimaaGreatDoorQbTMT1
import Derived.Deep.RegionHeld3
import Derived.Test.YtaddnoneoflimaaGreatDoorQbTMT25
import Derived.Test.YtaddnoneoflimaaGreatDoorQbTRdG
namespace Go.Proofs.YtaddnoneoflimaaGreatDoor

open Go.RowKit Go.Lb

theorem fitsE_parts {e f : Int} {b : Nat} (h : fitsE e f b = 0) : formE e f = 0 ∧ b < pw (1 + e.toNat + f.toNat) := by
  unfold fitsE at h
  by_cases h0 : formE e f = 0
  · rw [if_neg (by simp [h0])] at h
    split at h
    · exact ⟨h0, by assumption⟩
    · cases h
  · rw [if_pos h0] at h
    exact absurd h h0

theorem pw_top {k : Nat} (h : k ≤ 63) : IntKind.u64.wrap (2 ^ k) = ((pw k : Nat) : Int) := by
  have hp : pw k ≤ 9223372036854775808 := by have := pw_le h; rw [show pw 63 = 9223372036854775808 by unfold pw; rfl] at this; exact this
  rw [show (2 : Int) ^ k = ((pw k : Nat) : Int) by unfold pw; rw [Int.natCast_pow]; rfl]
  exact IntWalk.u64_in _ (by omega)

end Go.Proofs.YtaddnoneoflimaaGreatDoor

namespace Go.Proofs.YtaddnoneoflimaaGreatDoor

open Go.RowKit Go.Lb

end Go.Proofs.YtaddnoneoflimaaGreatDoor

namespace Go.Proofs.YtaddnoneoflimaaGreatDoor

open Go.RowKit Go.Lb

set_option maxRecDepth 100000 in
theorem class_no (e f : Int) (b : Nat) (w : World) (h : fitsE e f b ≠ 0) (hb : b < 18446744073709551616) :
    Calls Tryz.prog 60 #[.agg #[.int .i64 e, .int .i64 f], .int .u64 b] w fun en w' => en = .returned (.tuple #[.int .u8 0, .int .i64 (fitsE e f b)]) ∧ Below w.heap.size w w' := by
  have h0B : (fitsE e f b != 0) = true := by simp [h]
  go_enter Tryz.func60, Tryz.ntmps60
  go_wp2_with (go_at_call 165; refine (split_no e f b _ h hb).mono ?_; rintro en w1 ⟨rfl, hb1⟩; have hW := next (more (Below.refl _ _) _) hb1)
  go_ret2
  exact ⟨rfl, more hW _⟩

/-- The NaN. -/
def nanN (e f : Nat) : Nat := joinN e f false (maskN e) (pw (f - 1))

theorem or_zero (a : Nat) (ha : a < 18446744073709551616) : bits .or .u64 (a : Int) 0 = (a : Int) := by
  have h1 : (BitVec.ofInt 64 (a : Int)).toNat = a := by
    rw [BitVec.ofInt_natCast, BitVec.toNat_ofNat]; exact Nat.mod_eq_of_lt (by omega)
  show IntKind.u64.wrap ((BitVec.ofInt 64 (a : Int) ||| BitVec.ofInt 64 0).toNat : Int) = _
  rw [BitVec.toNat_or, h1, show (BitVec.ofInt 64 0).toNat = 0 from rfl, Nat.or_zero, IntKind.wrap_u64]
  omega

set_option maxRecDepth 100000 in
theorem formsNaN_zero (e f : Nat) (w : World) (h : formE (e : Int) (f : Int) = 0) :
    Calls Tryz.prog 167 #[.agg #[.int .i64 e, .int .i64 f], .bool false, .int .u64 0] w fun en w' => en = .returned (.tuple #[.int .u64 (nanN e f), .int .i64 0]) ∧ Below w.heap.size w w' := by
  obtain ⟨q1, q2, q3, q4⟩ := formE_ok h
  have hw := pw_top (k := f - 1) (by omega)
  have ht : ((f : Int) - 1).toNat = f - 1 := by omega
  have hn : ¬ ((f : Int) - 1 < 0) := by omega
  have hp := pw_lt (show f - 1 < 64 by omega)
  rw [show pw 64 = 18446744073709551616 by unfold pw; rfl] at hp
  have ho := or_zero (pw (f - 1)) hp
  have hlt : pw (f - 1) < pw f := pw_lt (by omega)
  have hp0 := pw_pos (f - 1)
  have hge : ¬ ((pw (f - 1) : Nat) : Int) ≤ 0 := by omega
  have hm : maskN e < pw e := by rw [maskN_eq]; have := pw_pos e; omega
  have hj := fun W => join_any e f false (maskN e) (pw (f - 1)) W (by omega) (by omega) (by omega) hm hlt
  change ∀ W, Calls Tryz.prog 260 #[.agg #[.int .i64 e, .int .i64 f], .bool false, .int .u64 (maskN e), .int .u64 (pw (f - 1))] W fun en w' => en = .returned (.int .u64 (nanN e f : Int)) ∧ Below W.heap.size W w' at hj
  generalize nanN e f = NN at hj ⊢
  generalize hP : pw (f - 1) = P at hw hp ho hp0 hge hj
  go_enter Tryz.func167, Tryz.ntmps167
  go_wp2_with (first
    | (go_at_call 59; refine (formCheck_any e f _).mono ?_; rintro en w1 ⟨rfl, hb1⟩; rw [h]; have A := (box2_new w _ _ _).stay hb1; have ⟨a0, a1⟩ := A; have hW := next (more (Below.refl _ _) _) hb1)
    )
  go_region_held3 (fun w' => w'.cell? ⟨w.heap.size, 0, none⟩ = some (.int .i64 e) ∧ w'.cell? ⟨w.heap.size, 1, none⟩ = some (.int .i64 f) ∧ Below w.heap.size w w')
    ((go_split_ands; refine ⟨?_, ?_, ?_⟩ <;> (first | assumption | exact Below.drew (by assumption) | exact cellStay (by assumption) hbB | exact next (by assumption) hbB | (go_keep; done))))
    (first | (go_at_call 166; (with_reducible refine (mask_any e _ (by omega)).mono ?_); rintro en wB ⟨rfl, rfl⟩) | (go_at_call 260; (with_reducible refine (hj _).mono ?_); rintro en wB ⟨rfl, hbB⟩))
  go_split_ands
  go_wp2
  go_ret2
  exact ⟨rfl, by assumption⟩

end Go.Proofs.YtaddnoneoflimaaGreatDoor

/-
  Plain: a float's worth as a fraction, in what Ratio and Dyadic answer. No program in sight.
-/
namespace Go.Proofs.YtaddnoneoflimaaGreatDoor

open Go.RowKit Go.Lb

theorem ra_up (n : Nat) (X : Int) : raN (limbs n) X = upN n X ∧ raD X = upD X := by
  unfold raN raD upN upD
  rw [val_limbs', show (max 0 X).toNat = X.toNat by omega, show (max 0 (-X)).toNat = (-X).toNat by omega]
  exact ⟨rfl, rfl⟩

theorem ratA_up {n : Nat} {X : Int} {s : Bool} (hd : dchk s (limbs n) X = 0) (l1 : ln (upN n X) ≤ 34) (l2 : ln (upD X) ≤ 34) (w : World) : RatA s (limbs n) X w = Rtn s (upN n X) (upD X) 0 w := by
  obtain ⟨e1, e2⟩ := ra_up n X
  unfold ln at l1 l2
  have hB : raB s (limbs n) X = true := by
    unfold raB
    rw [e1, e2]
    exact decide_eq_true ⟨hd, (bigE_ok (by omega)).1, (bigE_ok (by omega)).1⟩
  unfold RatA raE
  rw [hB, if_pos rfl, if_pos rfl, if_pos rfl, e1, e2, if_neg (by simp [hd])]
  rfl

theorem dy_up {E F n m : Nat} {X : Int} {s : Bool} (hf : formE (E : Int) (F : Int) = 0) (hd : dchk s (limbs n) X = 0) (hm : m < 5) (h1 : -1074 ≤ X) (h2 : X ≤ 1023) (neg : Bool) :
    dyErr (E : Int) (F : Int) s (limbs n) X m = 0 ∧ dyBits (E : Int) (F : Int) s (limbs n) X neg m = sgBits E F (upN n X) (upD X) s neg m ∧ dyFlags (E : Int) (F : Int) s (limbs n) X m = sgFlags E F (upN n X) (upD X) s m := by
  have hE : dyErr (E : Int) (F : Int) s (limbs n) X m = 0 := by
    unfold dyErr twoB
    rw [if_neg (by simp [hf]), if_neg (by simp [hd]), if_neg (by omega)]
  unfold dyBits dyFlags
  rw [if_pos hE, if_pos hE, Int.toNat_natCast, Int.toNat_natCast, val_limbs']
  unfold dyN dyD
  rw [near_in h1 h2, Nat.one_mul]
  exact ⟨hE, rfl, rfl⟩

theorem ratB_low {s : Bool} {N D : Nat} (l1 : ln N ≤ 16384) (l2 : ln D ≤ 16384) (hD : D ≠ 0) (hG : Nat.gcd N D = 1) (hs : s = true → N ≠ 0) : ratB s (limbs N) (limbs D) = true := by
  have hz : ∀ N, ln N ≤ 16384 → chk (limbs N) = 0 := fun N h => by
    unfold chk
    rw [if_neg (by unfold ln at h; omega), if_neg]
    rintro ⟨h1, h2⟩
    exact fine_top (fine_limbs N) (by omega) h2
  refine decide_eq_true ⟨hz _ l1, hz _ l2, fun h => ?_, ?_, fun h => ?_⟩
  · have := val_limbs' D
    rw [List.eq_nil_of_length_eq_zero h] at this
    exact hD this.symm
  · rw [val_limbs', val_limbs']
    exact hG
  · rw [val_limbs']
    exact hs h

end Go.Proofs.YtaddnoneoflimaaGreatDoor

/-
  Plain: what turning asks of a float's bits, and what it answers. No program in sight.
-/
namespace Go.Proofs.YtaddnoneoflimaaGreatDoor

open Go.RowKit Go.Lb

/-- Is it no number? Is it infinite? Is one that is no number quiet? -/
def naB (e f b : Nat) : Bool := decide (exN e f b = maskN e ∧ frN f b ≠ 0)

def enB (e f b : Nat) : Bool := decide (exN e f b = maskN e ∧ frN f b = 0)

def quB (f b : Nat) : Bool := decide (frN f b / pw (f - 1) = 1)

theorem low_parts (E F b : Nat) : b % 2 ^ (E + F) = exN E F b * 2 ^ F + frN F b := by
  unfold exN frN takeN
  rw [pw_is, pw_is, pw_is, Nat.pow_zero, Nat.div_one, Nat.add_comm E F, Nat.pow_add, Nat.mod_mul, Nat.mul_comm (2 ^ F) (_ % _), Nat.add_comm]

theorem inf_mask_mul (E F : Nat) : infN E F = maskN E * 2 ^ F := by
  rw [maskN_eq, pw_is, Nat.sub_mul, Nat.one_mul, ← Nat.pow_add]
  rfl

theorem ex_le (E F b : Nat) : exN E F b ≤ maskN E := by
  have h := takeN_lt b F E
  have h2 := pw_pos E
  rw [maskN_eq]
  unfold exN
  omega

theorem frN_lt2 (F b : Nat) : frN F b < 2 ^ F := by
  have h := takeN_lt b 0 F
  rw [pw_is] at h
  exact h

theorem nan_test (E F b : Nat) : decide (infN E F < b % 2 ^ (E + F)) = naB E F b := by
  rw [low_parts, inf_mask_mul]
  have h1 := ex_le E F b
  have h2 := frN_lt2 F b
  unfold naB
  generalize exN E F b = x at *
  generalize frN F b = r at *
  generalize maskN E = m at *
  rw [decide_eq_decide]
  by_cases h : x = m
  · subst h
    constructor
    · intro _; exact ⟨rfl, by omega⟩
    · rintro ⟨_, h⟩; omega
  · have h3 : (x + 1) * 2 ^ F ≤ m * 2 ^ F := Nat.mul_le_mul_right _ (by omega)
    rw [Nat.succ_mul] at h3
    constructor
    · intro _; omega
    · rintro ⟨h, _⟩; omega

/-- To's answers: the error; of floats that may be the bits and the flags. -/
def toE (e f g h : Int) (b m : Nat) : Int := if formE e f ≠ 0 ∨ formE g h ≠ 0 then 5 else if fitsE e f b ≠ 0 then 6 else if 4 < m then 7 else 0

def toB (E F G H b m : Nat) : Nat := if naB E F b = true then nanN G H else if enB E F b = true then joinN G H (sgB E F b) (maskN G) 0 else dyBits (G : Int) (H : Int) (valS (E : Int) (F : Int) b) (limbs (valN (E : Int) (F : Int) b)) (valX (E : Int) (F : Int) b) (sgB E F b) m

def toG (E F G H b m : Nat) : Nat := if naB E F b = true then (if quB F b = true then 0 else 16) else if enB E F b = true then 0 else dyFlags (G : Int) (H : Int) (valS (E : Int) (F : Int) b) (limbs (valN (E : Int) (F : Int) b)) (valX (E : Int) (F : Int) b) m

def toBi (e f g h : Int) (b m : Nat) : Nat := if toE e f g h b m = 0 then toB e.toNat f.toNat g.toNat h.toNat b m else 0

def toGi (e f g h : Int) (b m : Nat) : Nat := if toE e f g h b m = 0 then toG e.toNat f.toNat g.toNat h.toNat b m else 0

/-- A finite float's worth, rounded, by its own fraction or as a dyadic. -/
theorem dy_worth {E F G H b m : Nat} (hE : 2 ≤ E) (h11 : E ≤ 11) (hF : F ≤ 52) (hg : formE (G : Int) (H : Int) = 0) (h : fitsE (E : Int) (F : Int) b = 0) (hb : b < pw (1 + E + F)) (hx : exN E F b ≠ maskN E) (hm : m < 5) (neg : Bool) :
    dyErr (G : Int) (H : Int) (valS (E : Int) (F : Int) b) (limbs (valN (E : Int) (F : Int) b)) (valX (E : Int) (F : Int) b) m = 0 ∧
    dyBits (G : Int) (H : Int) (valS (E : Int) (F : Int) b) (limbs (valN (E : Int) (F : Int) b)) (valX (E : Int) (F : Int) b) neg m = sgBits G H (wrQ E F b).num.natAbs (wrQ E F b).den (decide ((wrQ E F b).num < 0)) neg m ∧
    dyFlags (G : Int) (H : Int) (valS (E : Int) (F : Int) b) (limbs (valN (E : Int) (F : Int) b)) (valX (E : Int) (F : Int) b) m = sgFlags G H (wrQ E F b).num.natAbs (wrQ E F b).den (decide ((wrQ E F b).num < 0)) m ∧
    ln (wrQ E F b).num.natAbs ≤ 34 ∧ ln (wrQ E F b).den ≤ 34 ∧ (limbs (valN (E : Int) (F : Int) b)).length ≤ 34 := by
  obtain ⟨_, n, X, s, v1, v2, v3, hd, hn, hX1, hX2, hG, hs, _⟩ := worth_facts (m := m) hE h11 hF h hb hx
  obtain ⟨l1, l2⟩ := up_small hn hX1 hX2
  obtain ⟨q1, q2, q3⟩ := mk_low (upD_pos X) hG hs
  have hln : ln n ≤ 34 := ln_le (Nat.lt_of_lt_of_le hn (by decide +kernel))
  unfold wrQ
  rw [v1, v2, v3, q1, q2, q3]
  obtain ⟨d1, d2, d3⟩ := dy_up hg hd hm hX1 hX2 neg
  exact ⟨d1, d2, d3, l1, l2, hln⟩

theorem class_nan {e f b : Nat} (hxm : exN e f b = maskN e) (he : 2 ≤ e) (hf0 : frN f b ≠ 0) : classN e (exN e f b) (frN f b) = 5 := by
  have h : maskN e ≠ 0 := by
    have := pw_le he
    rw [show pw 2 = 4 by unfold pw; rfl] at this
    rw [maskN_eq]
    omega
  unfold classN
  rw [hxm, if_neg h, if_pos rfl, if_neg hf0]

theorem class_inf {e f b : Nat} (hxm : exN e f b = maskN e) (he : 2 ≤ e) (hf0 : frN f b = 0) : classN e (exN e f b) (frN f b) = 4 := by
  have h : maskN e ≠ 0 := by
    have := pw_le he
    rw [show pw 2 = 4 by unfold pw; rfl] at this
    rw [maskN_eq]
    omega
  unfold classN
  rw [hxm, if_neg h, if_pos rfl, if_pos hf0]

theorem class_finite {e f b : Nat} (hxm : exN e f b ≠ maskN e) : classN e (exN e f b) (frN f b) ≠ 5 ∧ classN e (exN e f b) (frN f b) ≠ 4 := by
  unfold classN
  rw [if_neg hxm]
  repeat' split
  all_goals exact ⟨by decide, by decide⟩

/-- Quiet, as the program reckons it. -/
theorem quiet_turn {f b : Nat} (hf : 1 ≤ f) (hf2 : f ≤ 52) (hb : b < 18446744073709551616) :
    (bits .and .u64 (b : Int) (maskN f : Int) != bits .and .u64 (bits .and .u64 (b : Int) (maskN f : Int)) (maskN (f - 1) : Int)) = quB f b := by
  have h1 := and_mask (b := b) (sz := f) (by omega) hb
  have hlt : b % pw f < pw f := Nat.mod_lt _ (pw_pos f)
  have hp : pw f = 2 * pw (f - 1) := by
    obtain ⟨k, rfl⟩ : ∃ k, f = k + 1 := ⟨f - 1, by omega⟩
    rw [pw_succ]
    rfl
  have hle := pw_le (show f ≤ 52 from hf2)
  rw [show pw 52 = 4503599627370496 by unfold pw; rfl] at hle
  rw [h1, and_mask (by omega) (by omega)]
  have hfr : frN f b = b % pw f := by unfold frN takeN; rw [pw_zero, Nat.div_one]
  unfold quB
  rw [hfr]
  have hpos := pw_pos (f - 1)
  generalize b % pw f = r at *
  generalize pw (f - 1) = P at *
  by_cases hr : r < P
  · rw [Nat.mod_eq_of_lt hr, Nat.div_eq_of_lt hr]
    simp
  · have hd : r / P = 1 := Nat.div_eq_of_lt_le (by omega) (by omega)
    have hmod : r % P = r - P := by rw [Nat.mod_eq_sub_mod (by omega), Nat.mod_eq_of_lt (by omega)]
    rw [hd, hmod]
    simp
    omega

theorem join_inf {G H : Nat} (hG : 2 ≤ G) (hG2 : G ≤ 11) (hH : H ≤ 52) :
    joinN G H false (maskN G) 0 = infN G H ∧ joinN G H true (maskN G) 0 = 2 ^ (G + H) + infN G H ∧ IntKind.u64.wrap (((2 ^ (G + H) : Nat) : Int) + (infN G H : Int)) = ((2 ^ (G + H) + infN G H : Nat) : Int) ∧ IntKind.u64.wrap (infN G H : Int) = (infN G H : Int) := by
  have e : infN G H = maskN G * pw H := by rw [inf_mask_mul, pw_is]
  refine ⟨?_, ?_, ?_, ?_⟩
  · unfold joinN putN
    rw [if_neg (by decide), e]
    omega
  · unfold joinN putN
    rw [if_pos rfl, e, pw_is (G + H)]
    omega
  · obtain ⟨p1, p2, p3⟩ := pow_bounds (E := G) (F := H) hG hG2 hH
    have h63 : (2 : Nat) ^ 63 = 9223372036854775808 := by decide
    rw [IntKind.wrap_u64]
    unfold infN
    rw [h63] at p3
    have p0 := Nat.two_pow_pos H
    generalize 2 ^ (G + H) = S at *
    generalize 2 ^ H = P at *
    omega
  · obtain ⟨p1, p2, p3⟩ := pow_bounds (E := G) (F := H) hG hG2 hH
    have h63 : (2 : Nat) ^ 63 = 9223372036854775808 := by decide
    rw [IntKind.wrap_u64]
    unfold infN
    rw [h63] at p3
    have p0 := Nat.two_pow_pos H
    generalize 2 ^ (G + H) = S at *
    generalize 2 ^ H = P at *
    omega

end Go.Proofs.YtaddnoneoflimaaGreatDoor

