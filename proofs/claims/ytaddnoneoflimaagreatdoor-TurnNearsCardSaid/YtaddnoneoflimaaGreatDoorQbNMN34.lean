/-
  Plain: a float's worth as a fraction, in what Ratio and Dyadic answer. No program in sight.
-/
import Derived.Test.YtaddnoneoflimaaGreatDoorQbNMN33
import Derived.Test.YtaddnoneoflimaaGreatDoorQbNNbU
import Derived.Test.YtaddnoneoflimaaGreatDoorQbNMN19
import Derived.Deep.RegionHeld3
import Derived.Test.YtaddnoneoflimaaGreatDoorQbNBase
import Derived.BigQuiet
import Derived.Deep.QuietTactic
namespace Go.Proofs.YtaddnoneoflimaaGreatDoor

open Go.RowKit Go.Lb

theorem ra_up (n : Nat) (X : Int) : raN (limbs n) X = upN n X ∧ raD X = upD X := by
  unfold raN raD upN upD
  rw [val_limbs', show (max 0 X).toNat = X.toNat by omega, show (max 0 (-X)).toNat = (-X).toNat by omega]
  exact ⟨rfl, rfl⟩

theorem ratA_up {n : Nat} {X : Int} {s : Bool} (hd : dchk s (limbs n) X = 0) (l1 : ln (upN n X) ≤ 34) (l2 : ln (upD X) ≤ 34) (w : World) : RatA s (limbs n) X w = Rtn s (upN n X) (upD X) 0 w := by
  obtain ⟨e1, e2⟩ := ra_up n X
  unfold ln at l1 l2
  have hB : raB s (limbs n) X = true := by
    unfold raB
    rw [e1, e2]
    exact decide_eq_true ⟨hd, (bigE_ok (by omega)).1, (bigE_ok (by omega)).1⟩
  unfold RatA raE
  rw [hB, if_pos rfl, if_pos rfl, if_pos rfl, e1, e2, if_neg (by simp [hd])]
  rfl

theorem dy_up {E F n m : Nat} {X : Int} {s : Bool} (hf : formE (E : Int) (F : Int) = 0) (hd : dchk s (limbs n) X = 0) (hm : m < 5) (h1 : -1074 ≤ X) (h2 : X ≤ 1023) (neg : Bool) :
    dyErr (E : Int) (F : Int) s (limbs n) X m = 0 ∧ dyBits (E : Int) (F : Int) s (limbs n) X neg m = sgBits E F (upN n X) (upD X) s neg m ∧ dyFlags (E : Int) (F : Int) s (limbs n) X m = sgFlags E F (upN n X) (upD X) s m := by
  have hE : dyErr (E : Int) (F : Int) s (limbs n) X m = 0 := by
    unfold dyErr twoB
    rw [if_neg (by simp [hf]), if_neg (by simp [hd]), if_neg (by omega)]
  unfold dyBits dyFlags
  rw [if_pos hE, if_pos hE, Int.toNat_natCast, Int.toNat_natCast, val_limbs']
  unfold dyN dyD
  rw [near_in h1 h2, Nat.one_mul]
  exact ⟨hE, rfl, rfl⟩

theorem ratB_low {s : Bool} {N D : Nat} (l1 : ln N ≤ 16384) (l2 : ln D ≤ 16384) (hD : D ≠ 0) (hG : Nat.gcd N D = 1) (hs : s = true → N ≠ 0) : ratB s (limbs N) (limbs D) = true := by
  have hz : ∀ N, ln N ≤ 16384 → chk (limbs N) = 0 := fun N h => by
    unfold chk
    rw [if_neg (by unfold ln at h; omega), if_neg]
    rintro ⟨h1, h2⟩
    exact fine_top (fine_limbs N) (by omega) h2
  refine decide_eq_true ⟨hz _ l1, hz _ l2, fun h => ?_, ?_, fun h => ?_⟩
  · have := val_limbs' D
    rw [List.eq_nil_of_length_eq_zero h] at this
    exact hD this.symm
  · rw [val_limbs', val_limbs']
    exact hG
  · rw [val_limbs']
    exact hs h

end Go.Proofs.YtaddnoneoflimaaGreatDoor

/-
  Plain: what turning asks of a float's bits, and what it answers. No program in sight.
-/
namespace Go.Proofs.YtaddnoneoflimaaGreatDoor

open Go.RowKit Go.Lb

/-- Is it no number? Is it infinite? Is one that is no number quiet? -/
def naB (e f b : Nat) : Bool := decide (exN e f b = maskN e ∧ frN f b ≠ 0)

def enB (e f b : Nat) : Bool := decide (exN e f b = maskN e ∧ frN f b = 0)

def quB (f b : Nat) : Bool := decide (frN f b / pw (f - 1) = 1)

theorem low_parts (E F b : Nat) : b % 2 ^ (E + F) = exN E F b * 2 ^ F + frN F b := by
  unfold exN frN takeN
  rw [pw_is, pw_is, pw_is, Nat.pow_zero, Nat.div_one, Nat.add_comm E F, Nat.pow_add, Nat.mod_mul, Nat.mul_comm (2 ^ F) (_ % _), Nat.add_comm]

theorem inf_mask_mul (E F : Nat) : infN E F = maskN E * 2 ^ F := by
  rw [maskN_eq, pw_is, Nat.sub_mul, Nat.one_mul, ← Nat.pow_add]
  rfl

theorem ex_le (E F b : Nat) : exN E F b ≤ maskN E := by
  have h := takeN_lt b F E
  have h2 := pw_pos E
  rw [maskN_eq]
  unfold exN
  omega

theorem frN_lt2 (F b : Nat) : frN F b < 2 ^ F := by
  have h := takeN_lt b 0 F
  rw [pw_is] at h
  exact h

theorem nan_test (E F b : Nat) : decide (infN E F < b % 2 ^ (E + F)) = naB E F b := by
  rw [low_parts, inf_mask_mul]
  have h1 := ex_le E F b
  have h2 := frN_lt2 F b
  unfold naB
  generalize exN E F b = x at *
  generalize frN F b = r at *
  generalize maskN E = m at *
  rw [decide_eq_decide]
  by_cases h : x = m
  · subst h
    constructor
    · intro _; exact ⟨rfl, by omega⟩
    · rintro ⟨_, h⟩; omega
  · have h3 : (x + 1) * 2 ^ F ≤ m * 2 ^ F := Nat.mul_le_mul_right _ (by omega)
    rw [Nat.succ_mul] at h3
    constructor
    · intro _; omega
    · rintro ⟨h, _⟩; omega

/-- To's answers: the error; of floats that may be the bits and the flags. -/
def toE (e f g h : Int) (b m : Nat) : Int := if formE e f ≠ 0 ∨ formE g h ≠ 0 then 5 else if fitsE e f b ≠ 0 then 6 else if 4 < m then 7 else 0

def toB (E F G H b m : Nat) : Nat := if naB E F b = true then nanN G H else if enB E F b = true then joinN G H (sgB E F b) (maskN G) 0 else dyBits (G : Int) (H : Int) (valS (E : Int) (F : Int) b) (limbs (valN (E : Int) (F : Int) b)) (valX (E : Int) (F : Int) b) (sgB E F b) m

def toG (E F G H b m : Nat) : Nat := if naB E F b = true then (if quB F b = true then 0 else 16) else if enB E F b = true then 0 else dyFlags (G : Int) (H : Int) (valS (E : Int) (F : Int) b) (limbs (valN (E : Int) (F : Int) b)) (valX (E : Int) (F : Int) b) m

def toBi (e f g h : Int) (b m : Nat) : Nat := if toE e f g h b m = 0 then toB e.toNat f.toNat g.toNat h.toNat b m else 0

def toGi (e f g h : Int) (b m : Nat) : Nat := if toE e f g h b m = 0 then toG e.toNat f.toNat g.toNat h.toNat b m else 0

/-- A finite float's worth, rounded, by its own fraction or as a dyadic. -/
theorem dy_worth {E F G H b m : Nat} (hE : 2 ≤ E) (h11 : E ≤ 11) (hF : F ≤ 52) (hg : formE (G : Int) (H : Int) = 0) (h : fitsE (E : Int) (F : Int) b = 0) (hb : b < pw (1 + E + F)) (hx : exN E F b ≠ maskN E) (hm : m < 5) (neg : Bool) :
    dyErr (G : Int) (H : Int) (valS (E : Int) (F : Int) b) (limbs (valN (E : Int) (F : Int) b)) (valX (E : Int) (F : Int) b) m = 0 ∧
    dyBits (G : Int) (H : Int) (valS (E : Int) (F : Int) b) (limbs (valN (E : Int) (F : Int) b)) (valX (E : Int) (F : Int) b) neg m = sgBits G H (wrQ E F b).num.natAbs (wrQ E F b).den (decide ((wrQ E F b).num < 0)) neg m ∧
    dyFlags (G : Int) (H : Int) (valS (E : Int) (F : Int) b) (limbs (valN (E : Int) (F : Int) b)) (valX (E : Int) (F : Int) b) m = sgFlags G H (wrQ E F b).num.natAbs (wrQ E F b).den (decide ((wrQ E F b).num < 0)) m ∧
    ln (wrQ E F b).num.natAbs ≤ 34 ∧ ln (wrQ E F b).den ≤ 34 ∧ (limbs (valN (E : Int) (F : Int) b)).length ≤ 34 := by
  obtain ⟨_, n, X, s, v1, v2, v3, hd, hn, hX1, hX2, hG, hs, _⟩ := worth_facts (m := m) hE h11 hF h hb hx
  obtain ⟨l1, l2⟩ := up_small hn hX1 hX2
  obtain ⟨q1, q2, q3⟩ := mk_low (upD_pos X) hG hs
  have hln : ln n ≤ 34 := ln_le (Nat.lt_of_lt_of_le hn (by decide +kernel))
  unfold wrQ
  rw [v1, v2, v3, q1, q2, q3]
  obtain ⟨d1, d2, d3⟩ := dy_up hg hd hm hX1 hX2 neg
  exact ⟨d1, d2, d3, l1, l2, hln⟩

theorem class_nan {e f b : Nat} (hxm : exN e f b = maskN e) (he : 2 ≤ e) (hf0 : frN f b ≠ 0) : classN e (exN e f b) (frN f b) = 5 := by
  have h : maskN e ≠ 0 := by
    have := pw_le he
    rw [show pw 2 = 4 by unfold pw; rfl] at this
    rw [maskN_eq]
    omega
  unfold classN
  rw [hxm, if_neg h, if_pos rfl, if_neg hf0]

theorem class_inf {e f b : Nat} (hxm : exN e f b = maskN e) (he : 2 ≤ e) (hf0 : frN f b = 0) : classN e (exN e f b) (frN f b) = 4 := by
  have h : maskN e ≠ 0 := by
    have := pw_le he
    rw [show pw 2 = 4 by unfold pw; rfl] at this
    rw [maskN_eq]
    omega
  unfold classN
  rw [hxm, if_neg h, if_pos rfl, if_pos hf0]

theorem class_finite {e f b : Nat} (hxm : exN e f b ≠ maskN e) : classN e (exN e f b) (frN f b) ≠ 5 ∧ classN e (exN e f b) (frN f b) ≠ 4 := by
  unfold classN
  rw [if_neg hxm]
  repeat' split
  all_goals exact ⟨by decide, by decide⟩

/-- Quiet, as the program reckons it. -/
theorem quiet_turn {f b : Nat} (hf : 1 ≤ f) (hf2 : f ≤ 52) (hb : b < 18446744073709551616) :
    (bits .and .u64 (b : Int) (maskN f : Int) != bits .and .u64 (bits .and .u64 (b : Int) (maskN f : Int)) (maskN (f - 1) : Int)) = quB f b := by
  have h1 := and_mask (b := b) (sz := f) (by omega) hb
  have hlt : b % pw f < pw f := Nat.mod_lt _ (pw_pos f)
  have hp : pw f = 2 * pw (f - 1) := by
    obtain ⟨k, rfl⟩ : ∃ k, f = k + 1 := ⟨f - 1, by omega⟩
    rw [pw_succ]
    rfl
  have hle := pw_le (show f ≤ 52 from hf2)
  rw [show pw 52 = 4503599627370496 by unfold pw; rfl] at hle
  rw [h1, and_mask (by omega) (by omega)]
  have hfr : frN f b = b % pw f := by unfold frN takeN; rw [pw_zero, Nat.div_one]
  unfold quB
  rw [hfr]
  have hpos := pw_pos (f - 1)
  generalize b % pw f = r at *
  generalize pw (f - 1) = P at *
  by_cases hr : r < P
  · rw [Nat.mod_eq_of_lt hr, Nat.div_eq_of_lt hr]
    simp
  · have hd : r / P = 1 := Nat.div_eq_of_lt_le (by omega) (by omega)
    have hmod : r % P = r - P := by rw [Nat.mod_eq_sub_mod (by omega), Nat.mod_eq_of_lt (by omega)]
    rw [hd, hmod]
    simp
    omega

end Go.Proofs.YtaddnoneoflimaaGreatDoor

/-
  Contracts: numeralbig's SetUint64; numeralref05's Fits, Finite, Worth.
-/
namespace Go.Proofs.YtaddnoneoflimaaGreatDoor

open Go.RowKit Go.Lb

attribute [local go_sem] Go.World.cell?_alloc_some

set_option maxHeartbeats 1600000 in
theorem nbSetUint64_any (b base : Nat) (x : Nat) (w : World) (hz : Zc w b) (hb : base ≤ w.heap.size) (hx : x < 18446744073709551616) :
    Calls Tryz.prog 138 #[.pointer (some ⟨b, 0, none⟩), .int .u64 (x : Int)] w (StZ 23 b base (x : Int) w) := by
  have hbl := hz.lt
  unfold StZ
  rw [nonneg_dec (by omega : 0 ≤ (x : Int)), Int.natAbs_natCast]
  go_enter Tryz.func138, Tryz.ntmps138
  go_wp2_with (first
    | (go_at_call 234; refine (nbFromUint_any x _ rfl _ hx).mono ?_; rintro e w1 ⟨ao, k, c, rfl, hF, hb1⟩)
    | (go_at_call 233; refine (nbSet_any b false ao k c x w.heap.size _ (hz.stay hb1) hF).mono ?_; rintro e w2 ⟨rfl, rfl⟩))
  go_ret
  exact ⟨_, _, _, w1, rfl, hb1, hF.mono hb, fr_ne hF hbl, rfl⟩

theorem sign_twice {E F : Nat} (h : E + F < 63) : IntKind.u64.wrap (2 * ((2 ^ (E + F) : Nat) : Int)) = ((pw (1 + E + F) : Nat) : Int) := by
  have e : 2 * (2 ^ (E + F) : Nat) = pw (1 + E + F) := by rw [Nat.add_assoc, Nat.add_comm 1, pw_succ, pw_is]
  have l := pw_le (j := 1 + E + F) (k := 63) (by omega)
  have h63 : pw 63 = 9223372036854775808 := by unfold pw; rfl
  rw [IntKind.wrap_u64]
  omega

set_option maxRecDepth 100000 in
theorem nbFits5_any (E F b : Nat) (w : World) (hE : E ≤ 11) (hF : F ≤ 52) (hb : b < 18446744073709551616) :
    Calls Tryz.prog 291 #[.agg #[.int .i64 (E : Int), .int .i64 (F : Int)], .int .u64 (b : Int)] w fun en w' => en = .returned (.bool (decide (b < pw (1 + E + F)))) ∧ Below w.heap.size w w' := by
  have B := box2_new w (.int .i64 (E : Int)) (.int .i64 (F : Int)) 31
  have hW := more (Below.refl w.heap.size w) (.cells #[.int .i64 (E : Int), .int .i64 (F : Int)] 31)
  have ⟨a0, a1⟩ := B
  by_cases h : E + F < 63
  · have cS := fun W => nbSign5_any E F W hE hF
    have hw := sign_twice h
    generalize (2 ^ (E + F) : Nat) = S at *
    generalize pw (1 + E + F) = P at *
    have h63 : ¬ (E : Int) + (F : Int) ≥ 63 := by omega
    have hd : Hid (decide (b < P) = decide ((b : Int) < (P : Int))) := Lib.hid (decide_eq_decide.2 (by omega))
    go_enter Tryz.func291, Tryz.ntmps291
    go_wp2_with fail
    refine (cS _).mono ?_
    rintro en w1 ⟨rfl, hb1⟩
    go_wp2
    go_ret
    exact ⟨by rw [hd.out]; rfl, next hW hb1⟩
  · have h63 : (E : Int) + (F : Int) ≥ 63 := by omega
    have hd : Hid (decide (b < pw (1 + E + F)) = true) := Lib.hid (decide_eq_true (by
      have l := pw_le (j := 64) (k := 1 + E + F) (by omega)
      have h64 : pw 64 = 18446744073709551616 := by unfold pw; rfl
      omega))
    go_enter Tryz.func291, Tryz.ntmps291
    go_wp2
    go_ret
    exact ⟨by rw [hd.out]; rfl, hW⟩

set_option maxRecDepth 100000 in
theorem nbInf8_any (E F : Nat) (w : World) (hE : 2 ≤ E) (h11 : E ≤ 11) (hF1 : 1 ≤ F) (hF : F ≤ 52) :
    Calls Tryz.prog 402 #[.agg #[.int .i64 (E : Int), .int .i64 (F : Int)]] w fun en w' => en = .returned (.int .u64 (infN E F : Int)) ∧ Below w.heap.size w w' := by
  have hx : IntKind.u64.wrap (F : Int) = (F : Int) := by rw [IntKind.wrap_u64]; omega
  have hm : min F 64 = F := by omega
  have hw : IntKind.u64.wrap (2 ^ F) = ((2 ^ F : Nat) : Int) := by
    rw [pw_u64 hF, pw_is]
  have hs : IntKind.u64.wrap (((2 ^ (E + F) : Nat) : Int) - ((2 ^ F : Nat) : Int)) = (infN E F : Int) := by
    obtain ⟨p1, p2, p3⟩ := pow_bounds (E := E) (F := F) hE h11 hF
    have h63 : (2 : Nat) ^ 63 = 9223372036854775808 := by decide
    rw [IntKind.wrap_u64]
    unfold infN
    omega
  have cS := fun W => nbSign5_any E F W h11 hF
  generalize infN E F = I at *
  generalize (2 ^ (E + F) : Nat) = S at *
  generalize (2 ^ F : Nat) = P at *
  go_enter Tryz.func402, Tryz.ntmps402
  go_wp2
  have A := box2_new w (.int .i64 E) (.int .i64 F) 31
  have ⟨a0, a1⟩ := A
  have hW0 := more (Below.refl w.heap.size w) (.cells #[.int .i64 E, .int .i64 F] 31)
  go_region_held3 (fun w' => w'.cell? ⟨w.heap.size, 0, none⟩ = some (.int .i64 E) ∧ w'.cell? ⟨w.heap.size, 1, none⟩ = some (.int .i64 F) ∧ Below w.heap.size w w')
    ((go_split_ands; refine ⟨?_, ?_, ?_⟩ <;> (first | assumption | exact Below.drew (by assumption) | exact cellStay (by assumption) hbB | exact next (by assumption) hbB | (go_keep; done))))
    (first | (go_at_call 305; (with_reducible refine (cS _).mono ?_); rintro en wB ⟨rfl, hbB⟩))
  go_split_ands
  go_wp2
  refine bodyPost_ret (v := .int .u64 (I : Int)) (by simp [results, Tryz.results402, go_sem]) rfl ⟨rfl, by assumption⟩

set_option maxRecDepth 100000 in
theorem nbNaN8_any (E F : Nat) (w : World) (hE : 2 ≤ E) (h11 : E ≤ 11) (hF1 : 1 ≤ F) (hF : F ≤ 52) :
    Calls Tryz.prog 329 #[.agg #[.int .i64 (E : Int), .int .i64 (F : Int)]] w fun en w' => en = .returned (.int .u64 (nanN E F : Int)) ∧ Below w.heap.size w w' := by
  have hi : IntKind.i64.wrap ((F : Int) - 1) = (F : Int) - 1 := IntWalk.i64_in _ (by omega)
  have hx : IntKind.u64.wrap ((F : Int) - 1) = (F : Int) - 1 := by rw [IntKind.wrap_u64]; omega
  have ht : ((F : Int) - 1).toNat = F - 1 := by omega
  have hm : min (F - 1) 64 = F - 1 := by omega
  have hw := pw_u64 (f := F - 1) (by omega)
  have hs : IntKind.u64.wrap ((infN E F : Int) + ((pw (F - 1) : Nat) : Int)) = (nanN E F : Int) := by
    obtain ⟨p1, p2, p3⟩ := pow_bounds (E := E) (F := F) hE h11 hF
    have h63 : (2 : Nat) ^ 63 = 9223372036854775808 := by decide
    have hl := pw_le (show F - 1 ≤ 52 by omega)
    rw [show pw 52 = 4503599627370496 by unfold pw; rfl] at hl
    have e : nanN E F = infN E F + pw (F - 1) := by rw [nanN_eq, inf_mask_mul, pw_is F]
    rw [IntKind.wrap_u64, e]
    unfold infN
    omega
  have cI := fun W => nbInf8_any E F W hE h11 hF1 hF
  generalize nanN E F = V at *
  generalize infN E F = I at *
  generalize pw (F - 1) = P at *
  go_enter Tryz.func329, Tryz.ntmps329
  go_wp2
  have A := box2_new w (.int .i64 E) (.int .i64 F) 31
  have ⟨a0, a1⟩ := A
  have hW0 := more (Below.refl w.heap.size w) (.cells #[.int .i64 E, .int .i64 F] 31)
  go_region_held3 (fun w' => w'.cell? ⟨w.heap.size, 0, none⟩ = some (.int .i64 E) ∧ w'.cell? ⟨w.heap.size, 1, none⟩ = some (.int .i64 F) ∧ Below w.heap.size w w')
    ((go_split_ands; refine ⟨?_, ?_, ?_⟩ <;> (first | assumption | exact Below.drew (by assumption) | exact cellStay (by assumption) hbB | exact next (by assumption) hbB | (go_keep; done))))
    (first | (go_at_call 402; (with_reducible refine (cI _).mono ?_); rintro en wB ⟨rfl, hbB⟩))
  go_split_ands
  go_wp2
  refine bodyPost_ret (v := .int .u64 (V : Int)) (by simp [results, Tryz.results329, go_sem]) rfl ⟨rfl, by assumption⟩

set_option maxRecDepth 100000 in
theorem nbIsNaN8_any (E F b : Nat) (w : World) (hE : 2 ≤ E) (h11 : E ≤ 11) (hF1 : 1 ≤ F) (hF : F ≤ 52) (hb : b < 18446744073709551616) :
    Calls Tryz.prog 328 #[.agg #[.int .i64 (E : Int), .int .i64 (F : Int)], .int .u64 (b : Int)] w fun en w' => en = .returned (.bool (naB E F b)) ∧ Below w.heap.size w w' := by
  have hT := nan_test E F b
  have hw : IntKind.u64.wrap (((2 ^ (E + F) : Nat) : Int) - 1) = (maskN (E + F) : Int) := by
    obtain ⟨p1, p2, p3⟩ := pow_bounds (E := E) (F := F) hE h11 hF
    have h63 : (2 : Nat) ^ 63 = 9223372036854775808 := by decide
    have hp := Nat.two_pow_pos (E + F)
    rw [IntKind.wrap_u64, maskN_eq, pw_is]
    omega
  have ha := and_mask (b := b) (sz := E + F) (by omega) hb
  rw [pw_is] at ha
  have cS := fun W => nbSign5_any E F W h11 hF
  have cI := fun W => nbInf8_any E F W hE h11 hF1 hF
  have hd : Hid (decide ((infN E F : Int) < ((b % 2 ^ (E + F) : Nat) : Int)) = naB E F b) := Lib.hid (by rw [← hT, decide_eq_decide]; omega)
  generalize naB E F b = r at *
  generalize infN E F = I at *
  generalize b % 2 ^ (E + F) = low at *
  generalize (2 ^ (E + F) : Nat) = S at *
  generalize maskN (E + F) = M at *
  clear hT
  go_enter Tryz.func328, Tryz.ntmps328
  go_wp2
  have A := box2_new w (.int .i64 E) (.int .i64 F) 31
  have ⟨a0, a1⟩ := A
  have hW0 := more (Below.refl w.heap.size w) (.cells #[.int .i64 E, .int .i64 F] 31)
  go_region_held3 (fun w' => w'.cell? ⟨w.heap.size, 0, none⟩ = some (.int .i64 E) ∧ w'.cell? ⟨w.heap.size, 1, none⟩ = some (.int .i64 F) ∧ Below w.heap.size w w')
    ((go_split_ands; refine ⟨?_, ?_, ?_⟩ <;> (first | assumption | exact Below.drew (by assumption) | exact cellStay (by assumption) hbB | exact next (by assumption) hbB | (go_keep; done))))
    (first | (go_at_call 305; (with_reducible refine (cS _).mono ?_); rintro en wB ⟨rfl, hbB⟩) | (go_at_call 402; (with_reducible refine (cI _).mono ?_); rintro en wB ⟨rfl, hbB⟩))
  go_split_ands
  go_wp2
  refine bodyPost_ret (v := .bool (decide ((I : Int) < (low : Int)))) (by simp [results, Tryz.results328, go_sem]) rfl ⟨by rw [hd.out], by assumption⟩

end Go.Proofs.YtaddnoneoflimaaGreatDoor

