/-
  Plain: words added at a place; a product of long words out of smaller ones. No program in sight. Plain: whole numbers and fractions in cells, told by what they are worth. No program in sight. Plain: more of whole numbers and fractions in cells. No program in sight.
-/
import Derived.Test.YtaddnoneoflimaaGreatDoorQbTBigL
import Derived.Test.YtaddnoneoflimaaGreatDoorQbTBgB
import Derived.Deep.RegionWith
namespace Go.Lb

open Go.RowKit Go.Proofs.YtaddnoneoflimaaGreatDoor

theorem len_add {m n h : Nat} (hm : m < 4294967296 ^ h) (hn : n < 4294967296 ^ h) : (limbs (m + n)).length ≤ h + 1 := by
  refine limbs_length_le ?_
  rw [Nat.pow_succ]
  omega

theorem len_mul {xs ys : List Nat} (hx : Ok xs) (hy : Ok ys) : (limbs (val xs * val ys)).length ≤ xs.length + ys.length := by
  have h1 := val_lt hx
  have h2 := val_lt hy
  by_cases h0 : val ys = 0
  · rw [h0, Nat.mul_zero, limbs_zero]; exact Nat.zero_le _
  · refine limbs_length_le ?_
    rw [Nat.pow_add]
    exact Nat.lt_of_lt_of_le (Nat.mul_lt_mul_of_pos_right h1 (Nat.pos_of_ne_zero h0)) (Nat.mul_le_mul_left _ (Nat.le_of_lt h2))

end Go.Lb

namespace Go.Lb

open Go.RowKit Go.Proofs.YtaddnoneoflimaaGreatDoor

/-- How many words a number has. -/
def ln (N : Nat) : Nat := (limbs N).length

theorem ln_mono {A B : Nat} (h : B ≤ A) : ln B ≤ ln A := limbs_mono h

theorem ln_mul (A B : Nat) : ln (A * B) ≤ ln A + ln B := by
  have h := len_mul (ok_limbs A) (ok_limbs B)
  rwa [val_limbs', val_limbs'] at h

theorem ln_lt (A : Nat) : A < 4294967296 ^ ln A := by
  have h := val_lt (ok_limbs A)
  rwa [val_limbs'] at h

theorem ln_le {A k : Nat} (h : A < 4294967296 ^ k) : ln A ≤ k := limbs_length_le h

theorem ln_add {A B k : Nat} (hA : ln A ≤ k) (hB : ln B ≤ k) : ln (A + B) ≤ k + 1 :=
  len_add (Nat.lt_of_lt_of_le (ln_lt A) (Nat.pow_le_pow_right (by decide) hA)) (Nat.lt_of_lt_of_le (ln_lt B) (Nat.pow_le_pow_right (by decide) hB))

theorem ln_add' (A B : Nat) : ln (A + B) ≤ ln A + ln B + 1 := ln_add (Nat.le_add_right _ _) (Nat.le_add_left _ _)

theorem ln_div (A B : Nat) : ln (A / B) ≤ ln A := ln_mono (Nat.div_le_self A B)

theorem ln_mod (A B : Nat) : ln (A % B) ≤ ln A := ln_mono (Nat.mod_le A B)

theorem ln_two (k : Nat) : ln (2 ^ k) ≤ k / 32 + 1 := by
  refine ln_le ?_
  rw [show (4294967296 : Nat) = 2 ^ 32 from rfl, ← Nat.pow_mul]
  exact Nat.pow_lt_pow_right (by decide) (by omega)

theorem ln_shl (A k : Nat) : ln (A * 2 ^ k) ≤ ln A + (k / 32 + 1) := Nat.le_trans (ln_mul _ _) (Nat.add_le_add_left (ln_two k) _)

theorem ln_one : ln 1 = 1 := by decide

theorem ln_small {A : Nat} (h : A < 4294967296) : ln A ≤ 1 := ln_le (by rw [Nat.pow_one]; exact h)

theorem ln_small2 {A : Nat} (h : A < 18446744073709551616) : ln A ≤ 2 := ln_le (by rw [show (4294967296 : Nat) ^ 2 = 18446744073709551616 from rfl]; exact h)

/-- A whole number in cells. -/
def Iz (e : TypeId) (w : World) (base b : Nat) (z : Int) : Prop := ∃ ao k c, In e w base b (decide (z < 0)) ao k c z.natAbs

theorem Iz.stay {e : TypeId} {w w' : World} {base b : Nat} {z : Int} (h : Iz e w base b z) (hb : Below w.heap.size w w') : Iz e w' base b z := by
  obtain ⟨ao, k, c, h⟩ := h
  exact ⟨ao, k, c, h.stay hb⟩

theorem Iz.mono {e : TypeId} {w : World} {base base' b : Nat} {z : Int} (h : Iz e w base b z) (hb : base' ≤ base) : Iz e w base' b z := by
  obtain ⟨ao, k, c, h⟩ := h
  exact ⟨ao, k, c, h.mono hb⟩

theorem Iz.zc {e : TypeId} {w : World} {base b : Nat} {z : Int} (h : Iz e w base b z) : Zc w b := by
  obtain ⟨ao, k, c, h⟩ := h
  exact h.zc

theorem Iz.lt {e : TypeId} {w : World} {base b : Nat} {z : Int} (h : Iz e w base b z) : b < w.heap.size := h.zc.lt

theorem In.len {e : TypeId} {w : World} {base b : Nat} {s : Bool} {ao : Option Addr} {k c N : Nat} (h : In e w base b s ao k c N) : k = ln N := h.fr.sl.len.symm

/-- A method that sets a number: its answer. -/
def StZ (e : TypeId) (b base : Nat) (z : Int) (w : World) (en : Ending) (w' : World) : Prop := StI e b base (decide (z < 0)) z.natAbs w en w'

/-- A call that makes a number. -/
def MkZ (e : TypeId) (z : Int) (w : World) (en : Ending) (w' : World) : Prop :=
  ∃ b, en = .returned (.pointer (some ⟨b, 0, none⟩)) ∧ Iz e w' w.heap.size b z ∧ Below w.heap.size w w'

theorem MkI.z {e : TypeId} {s : Bool} {N : Nat} {w w' : World} {en : Ending} (h : MkI e s N w en w') {z : Int} (hs : s = decide (z < 0)) (hN : N = z.natAbs) : MkZ e z w en w' := by
  obtain ⟨b, ao, k, c, he, hi, hb⟩ := h
  subst hs hN
  exact ⟨b, he, ⟨ao, k, c, hi⟩, hb⟩

theorem StZ.in_ {e : TypeId} {b base : Nat} {z : Int} {w w' : World} {en : Ending} (h : StZ e b base z w en w') (hz : Zc w b) (hb : base ≤ b) :
    en = .returned (.pointer (some ⟨b, 0, none⟩)) ∧ Iz e w' base b z ∧ w.grownBy w' (some b) := by
  obtain ⟨ao, k, c, he, hi, hg⟩ := StI.in_ h hz hb
  exact ⟨he, ⟨ao, k, c, hi⟩, hg⟩

theorem iz_new {e t : TypeId} (w : World) : Iz e (w.alloc (.cells #[.bool false, .slice none 0 0] t)) w.heap.size w.heap.size 0 :=
  ⟨none, 0, 0, by simp, by simp, by simp [go_sem], by simp [go_sem], fr_nil _ _ _, by simp [blkOf], Nat.le_refl _⟩

theorem nzB_nat (s : Bool) (z : Int) (h : s = decide (z < 0)) : nzB s z.natAbs = decide (z < 0) := by
  subst h
  unfold nzB
  by_cases h0 : z < 0
  · rw [decide_eq_true h0, decide_eq_true (by omega)]; rfl
  · rw [decide_eq_false h0]; rfl

/-- A size with a sign. -/
def sgv (s : Bool) (N : Nat) : Int := if s = true then -(N : Int) else N

theorem sgv_of (z : Int) : sgv (decide (z < 0)) z.natAbs = z := by
  unfold sgv
  by_cases h : z < 0
  · rw [decide_eq_true h, if_pos rfl]; omega
  · rw [decide_eq_false h, if_neg (by decide)]; omega

theorem sgv_abs (s : Bool) (N : Nat) : (sgv s N).natAbs = N ∧ decide (sgv s N < 0) = nzB s N := by
  unfold sgv nzB
  cases s
  · refine ⟨by simp, ?_⟩
    rw [if_neg (by decide), decide_eq_false (by omega)]; rfl
  · rw [if_pos rfl]
    refine ⟨by omega, ?_⟩
    by_cases h : N = 0
    · subst h; rfl
    · rw [decide_eq_true (by omega : -(N : Int) < 0), decide_eq_true h]; rfl

theorem sgv_add (s : Bool) (A B : Nat) : sgv s A + sgv s B = sgv s (A + B) := by
  unfold sgv
  cases s
  · simp
  · simp; omega

theorem sgv_sub {s t : Bool} (hst : s ≠ t) {A B : Nat} (h : B ≤ A) : sgv s A + sgv t B = sgv s (A - B) ∧ sgv t B + sgv s A = sgv s (A - B) := by
  cases s <;> cases t
  · exact absurd rfl hst
  · unfold sgv; simp; omega
  · unfold sgv; simp; omega
  · exact absurd rfl hst

theorem StZ_sgv {e : TypeId} {b base : Nat} {s : Bool} {N : Nat} {w : World} : StZ e b base (sgv s N) w = StI e b base (nzB s N) N w := by
  unfold StZ
  funext en w'
  rw [(sgv_abs s N).1, (sgv_abs s N).2]

/-- The product of two with their signs. -/
theorem sgn_mul (x y : Int) : nzB (decide (x < 0) != decide (y < 0)) (x.natAbs * y.natAbs) = decide (x * y < 0) ∧ x.natAbs * y.natAbs = (x * y).natAbs := by
  refine ⟨?_, (Int.natAbs_mul x y).symm⟩
  unfold nzB
  by_cases hx : x < 0
  · by_cases hy : y < 0
    · have : 0 < x * y := Int.mul_pos_of_neg_of_neg hx hy
      rw [decide_eq_true hx, decide_eq_true hy, decide_eq_false (by omega : ¬ x * y < 0)]; rfl
    · by_cases hy0 : y = 0
      · subst hy0; simp
      · have : x * y < 0 := Int.mul_neg_of_neg_of_pos hx (by omega)
        have h0 : x.natAbs * y.natAbs ≠ 0 := Nat.mul_ne_zero (by omega) (by omega)
        rw [decide_eq_true hx, decide_eq_false hy, decide_eq_true this, decide_eq_true h0]; rfl
  · by_cases hy : y < 0
    · by_cases hx0 : x = 0
      · subst hx0; simp
      · have : x * y < 0 := Int.mul_neg_of_pos_of_neg (by omega) hy
        have h0 : x.natAbs * y.natAbs ≠ 0 := Nat.mul_ne_zero (by omega) (by omega)
        rw [decide_eq_false hx, decide_eq_true hy, decide_eq_true this, decide_eq_true h0]; rfl
    · have : 0 ≤ x * y := Int.mul_nonneg (by omega) (by omega)
      rw [decide_eq_false hx, decide_eq_false hy, decide_eq_false (by omega : ¬ x * y < 0)]; rfl

/-- The remainder and quotient toward nought, by sizes and signs. -/
theorem sgn_quo (x y : Int) : nzB (decide (x < 0) != decide (y < 0)) (x.natAbs / y.natAbs) = decide (x.tdiv y < 0) ∧ x.natAbs / y.natAbs = (x.tdiv y).natAbs ∧ nzB (decide (x < 0)) (x.natAbs % y.natAbs) = decide (x.tmod y < 0) ∧ x.natAbs % y.natAbs = (x.tmod y).natAbs := by
  have hq : x.natAbs / y.natAbs = (x.tdiv y).natAbs := (Int.natAbs_tdiv x y).symm
  have hr : x.natAbs % y.natAbs = (x.tmod y).natAbs := (Int.natAbs_tmod x y).symm
  refine ⟨?_, hq, ?_, hr⟩
  · unfold nzB
    rw [hq]
    by_cases hx : x < 0
    · by_cases hy : y < 0
      · have := Int.tdiv_nonneg_of_nonpos_of_nonpos (a := x) (b := y) (by omega) (by omega)
        rw [decide_eq_true hx, decide_eq_true hy, decide_eq_false (by omega : ¬ x.tdiv y < 0)]; rfl
      · have := Int.tdiv_nonneg (a := -x) (b := y) (by omega) (by omega)
        rw [Int.neg_tdiv] at this
        rw [decide_eq_true hx, decide_eq_false hy]
        by_cases h0 : x.tdiv y = 0
        · rw [h0]; rfl
        · rw [decide_eq_true (by omega : x.tdiv y < 0), decide_eq_true (by omega : (x.tdiv y).natAbs ≠ 0)]; rfl
    · by_cases hy : y < 0
      · have := Int.tdiv_nonpos_of_nonneg_of_nonpos (a := x) (b := y) (by omega) (by omega)
        rw [decide_eq_false hx, decide_eq_true hy]
        by_cases h0 : x.tdiv y = 0
        · rw [h0]; rfl
        · rw [decide_eq_true (by omega : x.tdiv y < 0), decide_eq_true (by omega : (x.tdiv y).natAbs ≠ 0)]; rfl
      · have := Int.tdiv_nonneg (a := x) (b := y) (by omega) (by omega)
        rw [decide_eq_false hx, decide_eq_false hy, decide_eq_false (by omega : ¬ x.tdiv y < 0)]; rfl
  · unfold nzB
    rw [hr]
    by_cases hx : x < 0
    · have h1 : x.tmod y ≤ 0 := by
        have := Int.tmod_nonneg (a := -x) y (by omega)
        rw [Int.neg_tmod] at this
        omega
      rw [decide_eq_true hx]
      by_cases h0 : x.tmod y = 0
      · rw [h0]; rfl
      · rw [decide_eq_true (by omega : x.tmod y < 0), decide_eq_true (by omega : (x.tmod y).natAbs ≠ 0)]; rfl
    · have := Int.tmod_nonneg (a := x) y (by omega)
      rw [decide_eq_false hx, decide_eq_false (by omega : ¬ x.tmod y < 0)]; rfl

/-- A number over another one, in lowest terms. -/
theorem mk_parts (z : Int) {D : Nat} (hD : D ≠ 0) : (mkRat z D).num.natAbs = z.natAbs / Nat.gcd z.natAbs D ∧ (mkRat z D).den = D / Nat.gcd z.natAbs D ∧ decide ((mkRat z D).num < 0) = decide (z < 0) := by
  have hg : 0 < Nat.gcd z.natAbs D := Nat.gcd_pos_of_pos_right _ (Nat.pos_of_ne_zero hD)
  have hn : (mkRat z D).num = z / ((Nat.gcd z.natAbs D : Nat) : Int) := by rw [Rat.num_mkRat, if_neg hD, Nat.gcd_comm]
  have hdv : ((Nat.gcd z.natAbs D : Nat) : Int) ∣ z := by rw [← Int.dvd_natAbs, Int.ofNat_dvd]; exact Nat.gcd_dvd_left _ _
  obtain ⟨r, hr⟩ := hdv
  refine ⟨?_, by rw [Rat.den_mkRat, if_neg hD, Nat.gcd_comm], ?_⟩
  · rw [hn, Int.natAbs_ediv_of_dvd ⟨r, hr⟩, Int.natAbs_natCast]
  · have hg' : (0 : Int) < ((Nat.gcd z.natAbs D : Nat) : Int) := by omega
    rw [hn]
    generalize ((Nat.gcd z.natAbs D : Nat) : Int) = g at *
    have e : z / g = r := by rw [hr]; exact Int.mul_ediv_cancel_left _ (by omega)
    rw [e]
    refine decide_eq_decide.2 ⟨fun h => ?_, fun h => ?_⟩
    · rw [hr]; exact Int.mul_neg_of_pos_of_neg hg' h
    · rcases Int.lt_or_le r 0 with h1 | h1
      · exact h1
      · have := Int.mul_nonneg (Int.le_of_lt hg') h1
        omega

/-- What QuoRem answers: two numbers set. -/
def QrZ (e : TypeId) (b br : Nat) (q r : Int) (w : World) (en : Ending) (w' : World) : Prop :=
  ∃ aq kq cq ar kr cr w1, en = .returned (.tuple #[.pointer (some ⟨b, 0, none⟩), .pointer (some ⟨br, 0, none⟩)]) ∧ Below w.heap.size w w1 ∧ Fr e w1 w.heap.size aq kq cq (limbs q.natAbs) ∧ Fr e w1 w.heap.size ar kr cr (limbs r.natAbs) ∧ w' = setIn (setIn w1 br (decide (r < 0)) (.slice ar kr cr)) b (decide (q < 0)) (.slice aq kq cq)

theorem Zc.setOther {w : World} {b p : Nat} (h : Zc w b) (hne : b ≠ p) (s : Bool) (v : Value) : Zc (Lb.setIn w p s v) b :=
  Zc.of ((setIn_other hne s v).trans h.c0) ((setIn_other hne s v).trans h.c1) ((setIn_z ..).trans h.z0) ((setIn_z ..).trans h.z1)

theorem QrZ.in_ {e : TypeId} {b br base : Nat} {q r : Int} {w w' : World} {en : Ending} (h : QrZ e b br q r w en w') (hz : Zc w b) (hr : Zc w br) (ne : br ≠ b) (h0 : base ≤ w.heap.size) (h1 : base ≤ b) (h2 : base ≤ br) :
    en = .returned (.tuple #[.pointer (some ⟨b, 0, none⟩), .pointer (some ⟨br, 0, none⟩)]) ∧ Iz e w' base b q ∧ Iz e w' base br r := by
  obtain ⟨aq, kq, cq, ar, kr, cr, w1, he, hb, fq, fr, rfl⟩ := h
  have ir := setIn_in (hr.stay hb) (decide (r < 0)) (fr.mono h0) (fr_ne fr hr.lt) h2
  have fq1 := fr_grown fq (setIn_grown w1 br (decide (r < 0)) (.slice ar kr cr)) hr.lt
  have iq := setIn_in ((hz.stay hb).setOther (Ne.symm ne) (decide (r < 0)) (.slice ar kr cr)) (decide (q < 0)) (fq1.mono h0) (fr_ne fq hz.lt) h1
  exact ⟨he, ⟨aq, kq, cq, iq⟩, ⟨ar, kr, cr, ir.other (setIn_grown _ b _ _) ne (fr_ne fr hz.lt)⟩⟩

theorem QrZ.below {e : TypeId} {b br B : Nat} {q r : Int} {w0 w w' : World} {en : Ending} (h : QrZ e b br q r w en w') (hb0 : Below B w0 w) (hB : B ≤ w.heap.size) (h1 : B ≤ b) (h2 : B ≤ br) : Below B w0 w' := by
  obtain ⟨aq, kq, cq, ar, kr, cr, w1, he, hb, fq, fr, rfl⟩ := h
  have H1 : Below B w0 w1 := hb0.trans (hb.mono hB)
  have H2 := H1.grown (setIn_grown w1 br (decide (r < 0)) (.slice ar kr cr)) (Nat.le_trans hB hb.size) (fun k hk => by cases hk; exact h2)
  exact H2.grown (setIn_grown _ b (decide (q < 0)) (.slice aq kq cq)) (Nat.le_trans hB (Nat.le_trans hb.size (setIn_grown w1 br _ _).size)) (fun k hk => by cases hk; exact h1)

theorem StZ.below {e : TypeId} {b base B : Nat} {z : Int} {w0 w w' : World} {en : Ending} (h : StZ e b base z w en w') (hb0 : Below B w0 w) (hB : B ≤ w.heap.size) (h1 : B ≤ b) : Below B w0 w' := by
  obtain ⟨ao, k, c, w1, he, hb, hf, hne, rfl⟩ := h
  exact (hb0.trans (hb.mono hB)).grown (setIn_grown w1 b _ _) (Nat.le_trans hB hb.size) (fun k hk => by cases hk; exact h1)

theorem sgn_shl (x : Int) (k : Nat) : nzB (decide (x < 0)) (x.natAbs * 2 ^ k) = decide (x * 2 ^ k < 0) ∧ x.natAbs * 2 ^ k = (x * 2 ^ k).natAbs := by
  have h := sgn_mul x ((2 ^ k : Nat) : Int)
  have hp := Nat.two_pow_pos k
  rw [decide_eq_false (by omega : ¬ ((2 ^ k : Nat) : Int) < 0), Int.natAbs_natCast] at h
  have e : ((2 ^ k : Nat) : Int) = (2 : Int) ^ k := by simp
  rw [e] at h
  simpa using h

theorem nonneg_dec {x : Int} (h : 0 ≤ x) : decide (x < 0) = false := decide_eq_false (by omega)

theorem iz_nat {e : TypeId} {w : World} {base b x : Nat} (h : Iz e w base b (x : Int)) : ∃ ao k c, In e w base b false ao k c x := by
  obtain ⟨ao, k, c, h⟩ := h
  rw [nonneg_dec (by omega), Int.natAbs_natCast] at h
  exact ⟨ao, k, c, h⟩

theorem sgnI_z (x : Int) : sgnI (decide (x < 0)) x.natAbs = x.sign := by
  unfold sgnI
  rcases Int.lt_trichotomy x 0 with h | h | h
  · rw [if_neg (by omega), decide_eq_true h, if_pos rfl, Int.sign_eq_neg_one_of_neg h]
  · subst h; rfl
  · rw [if_neg (by omega), decide_eq_false (by omega), if_neg (by decide), Int.sign_eq_one_of_pos h]

end Go.Lb

namespace Go.Lb

open Go.RowKit Go.Proofs.YtaddnoneoflimaaGreatDoor

theorem nonneg_nat (x : Nat) : decide ((x : Int) < 0) = false := decide_eq_false (by omega)

theorem StZ.grown {e : TypeId} {b base : Nat} {z : Int} {w w' : World} {en : Ending} (h : StZ e b base z w en w') : w.grownBy w' (some b) := by
  obtain ⟨ao, k, c, w1, he, hb, hf, hne, rfl⟩ := h
  exact grown_trans (grown_below hb _) (setIn_grown _ _ _ _)

end Go.Lb

/-
  Contracts of numeral/big: addWords, subWords, plain, addAt. (Printed by wip/gen/bigM.py.) Contracts of numeral/big: addAt, mulWords. (Printed by wip/gen/bigX.py.) Contracts of numeral/big: mulWords, of long words by three products of halves; of any. (Printed by wip/gen/bigX.py.)
-/
namespace Go.Proofs.YtaddnoneoflimaaGreatDoor

open Go.RowKit Go.Lb

theorem bgLvs_set (xs : List Nat) (i v : Nat) : (lvs xs).set i (lv v) = lvs (xs.set i v) := by simp [lvs]

theorem bgU64_limb {x : Nat} (hx : x < 4294967296) : IntKind.u64.wrap (x : Int) = (x : Int) := by
  rw [IntKind.wrap_u64]
  omega

theorem bgAdd_wraps {x y c : Nat} (hx : x < 4294967296) (hy : y < 4294967296) (hc : c ≤ 1) : IntKind.u64.wrap ((x : Int) + (c : Int)) = (x : Int) + (c : Int) ∧ IntKind.u64.wrap ((x : Int) + (c : Int) + (y : Int)) = (x : Int) + (c : Int) + (y : Int) := by
  constructor <;> (rw [IntKind.wrap_u64]; omega)

theorem bgSub_wraps {x y c : Nat} (hx : x < 4294967296) (hy : y < 4294967296) (hc : c ≤ 1) : IntKind.u64.wrap (IntKind.u64.wrap ((x : Int) - (c : Int)) - (y : Int)) % 4294967296 = (sbD x y c : Int) ∧ IntKind.u64.wrap (IntKind.u64.wrap ((x : Int) - (c : Int)) - (y : Int)) / 9223372036854775808 = (sbC x y c : Int) := by
  unfold sbD sbC
  rw [IntKind.wrap_u64, IntKind.wrap_u64]
  constructor
  · omega
  · split <;> omega

theorem bgSub_wraps0 {x c : Nat} (hx : x < 4294967296) (hc : c ≤ 1) : IntKind.u64.wrap ((x : Int) - (c : Int)) % 4294967296 = (sbD x 0 c : Int) ∧ IntKind.u64.wrap ((x : Int) - (c : Int)) / 9223372036854775808 = (sbC x 0 c : Int) := by
  unfold sbD sbC
  rw [IntKind.wrap_u64]
  constructor
  · omega
  · split <;> omega

set_option maxRecDepth 100000 in
set_option maxHeartbeats 4000000 in
theorem bgAddW_any (a1 a2 : Option Addr) (n1 n2 c1 c2 : Nat) (xs ys : List Nat) (w : World) (h1 : Sl w a1 n1 c1 xs) (h2 : Sl w a2 n2 c2 ys) (hn1 : n1 ≤ 1073741824) (hn2 : n2 ≤ 1073741824) :
    Calls Tryz.prog 400 #[.slice a1 n1 c1, .slice a2 n2 c2] w (Wd 23 (val xs + val ys) w) := by
  obtain ⟨i0, hi0, hz0, hz1, hz2⟩ := info_parts u32_infoL
  by_cases hlt : n1 < n2
  · have hl1 : (n1 : Int) < (n2 : Int) := by omega
    have hle1 := h2.le
    have hcap1 := h2.cap
    have hlen1 := h2.len
    have hlen2 := h1.len
    have hle2 := h1.le
    have hcap2 := h1.cap
    go_enter Tryz.func400, Tryz.ntmps400
    go_wp2_with (at_make; refine wpList_make_full _ rfl _ _ 76 rfl w.heap.size 23 i0 _ 1 Tryz.underlying76 hi0 hz0 hz1 _ _ _ _ (n2 + 1) rfl rfl rfl rfl (by rw [hz2]; omega) (by unfold maxLen; omega) (Nat.le_refl _) ?_; intro w1 hown hg1; rw [made_lvs] at hown; have hb1 := (Below.refl w.heap.size w).grown hg1 (Nat.le_refl _) (by simp))
    go_loopw [6, 7] (fun cv iv wr => ∃ (i c : Nat) (zs : List Nat), i ≤ n2 ∧ cv = .int .u64 c ∧ iv = .int .i64 i ∧ Hid (Ad ys xs i zs c) ∧ wr.ownsRow w.heap.size 23 1 (.slice (some ⟨w.heap.size, 0, none⟩) (n2 + 1) (n2 + 1)) (n2 + 1) (lvs (zs ++ List.replicate (n2 + 1 - i) 0)) ∧ Below w.heap.size w wr) (fun _ iv _ => n2 - (intOf iv).toNat)
    case atStart => exact ⟨0, 0, [], by omega, rfl, rfl, Lib.hid (ad_zero ys xs), by simpa using hown, hb1⟩
    case round =>
      obtain ⟨i, c, zs, hi, rfl, rfl, HB, hownr, hbr⟩ := hrel
      have hc1 := HB.out.one
      have hzl := HB.out.len
      by_cases hin : i < n2
      · obtain ⟨b, o, rfl, hb, hc⟩ := (h2.below hbr).at_ (by omega)
        have hcell := hc i hin
        have hx := nth_lt h2.ok i
        have hy := nth_lt h1.ok i
        have j1 : (i : Int) < (n2 : Int) := by omega
        have j3 : (i : Int) < (n2 : Int) + 1 := by omega
        have HN := Lib.hid (HB.out.next h2.ok h1.ok)
        have hfz := hownr.frozenAt i
        have hst := own_cell hownr (j := i) (by omega)
        obtain ⟨o1, r1⟩ := hownr.stored i (lv ((nth ys i + nth xs i + c) % 4294967296))
        rw [set_front hzl (by omega)] at o1
        have hb3 := hbr.grown r1 hbr.size (by simp)
        obtain ⟨z2, z3⟩ := bgAdd_wraps hx hy hc1
        have z1 := bgU64_limb hx
        by_cases hin2 : i < n1
        · obtain ⟨b', o', rfl, hb', hc'⟩ := (h1.below hbr).at_ (by omega)
          have hcell2 := hc' i hin2
          have j2 : (i : Int) < (n1 : Int) := by omega
          have z4 := bgU64_limb hy
          have e1 : Hid (Value.int IntKind.u32 (((nth ys i : Int) + (c : Int) + (nth xs i : Int)) % 4294967296) = lv ((nth ys i + nth xs i + c) % 4294967296)) := Lib.hid (by unfold lv; congr 1 <;> omega)
          have e2 : Hid (((nth ys i : Int) + (c : Int) + (nth xs i : Int)) / 4294967296 = (((nth ys i + nth xs i + c) / 4294967296 : Nat) : Int)) := Lib.hid (by omega)
          clear hc hc' r1 HB
          go_wp2
          rw [e1.out, e2.out]
          exact ⟨⟨i + 1, _, _, by omega, rfl, by go_num, HN, o1, hb3⟩, by simp [intOf]; omega⟩
        · have j2 : ¬ (i : Int) < (n1 : Int) := by omega
          have hz : nth xs i = 0 := nth_over (by omega)
          rw [hz] at o1 HN hb3
          have e1 : Hid (Value.int IntKind.u32 (((nth ys i : Int) + (c : Int)) % 4294967296) = lv ((nth ys i + 0 + c) % 4294967296)) := Lib.hid (by unfold lv; congr 1 <;> omega)
          have e2 : Hid (((nth ys i : Int) + (c : Int)) / 4294967296 = (((nth ys i + 0 + c) / 4294967296 : Nat) : Int)) := Lib.hid (by omega)
          clear hc r1 HB hz z3
          go_wp2
          rw [e1.out, e2.out]
          exact ⟨⟨i + 1, _, _, by omega, rfl, by go_num, HN, o1, hb3⟩, by simp [intOf]; omega⟩
      · obtain rfl : n2 = i := by omega
        obtain ⟨hsum, hok⟩ := HB.out.sum (by omega) (by omega)
        have hfz := hownr.frozenAt n2
        have hst := own_cell hownr (j := n2) (by omega)
        obtain ⟨o1, r1⟩ := hownr.stored n2 (lv c)
        rw [set_front hzl (by omega), show n2 + 1 - (n2 + 1) = 0 by omega, List.replicate_zero, List.append_nil] at o1
        have hb3 := hbr.grown r1 hbr.size (by simp)
        have z1 : (c : Int) % 4294967296 = (c : Int) := by omega
        have Hs := Lib.hid hsum
        clear hsum r1 HB
        go_wp2_with fail
        refine (bgTrim_own _ o1 hok).mono ?_
        rintro e w2 ⟨k2, rfl, hF, rfl⟩
        rw [Hs.out, Nat.add_comm (val ys) (val xs)] at hF
        go_wp2
        go_ret
        exact ⟨_, _, _, rfl, hF, hb3⟩
  · have hl1 : ¬ (n1 : Int) < (n2 : Int) := by omega
    have hle1 := h1.le
    have hcap1 := h1.cap
    have hlen1 := h1.len
    have hlen2 := h2.len
    have hle2 := h2.le
    have hcap2 := h2.cap
    go_enter Tryz.func400, Tryz.ntmps400
    go_wp2_with (at_make; refine wpList_make_full _ rfl _ _ 76 rfl w.heap.size 23 i0 _ 1 Tryz.underlying76 hi0 hz0 hz1 _ _ _ _ (n1 + 1) rfl rfl rfl rfl (by rw [hz2]; omega) (by unfold maxLen; omega) (Nat.le_refl _) ?_; intro w1 hown hg1; rw [made_lvs] at hown; have hb1 := (Below.refl w.heap.size w).grown hg1 (Nat.le_refl _) (by simp))
    go_loopw [6, 7] (fun cv iv wr => ∃ (i c : Nat) (zs : List Nat), i ≤ n1 ∧ cv = .int .u64 c ∧ iv = .int .i64 i ∧ Hid (Ad xs ys i zs c) ∧ wr.ownsRow w.heap.size 23 1 (.slice (some ⟨w.heap.size, 0, none⟩) (n1 + 1) (n1 + 1)) (n1 + 1) (lvs (zs ++ List.replicate (n1 + 1 - i) 0)) ∧ Below w.heap.size w wr) (fun _ iv _ => n1 - (intOf iv).toNat)
    case atStart => exact ⟨0, 0, [], by omega, rfl, rfl, Lib.hid (ad_zero xs ys), by simpa using hown, hb1⟩
    case round =>
      obtain ⟨i, c, zs, hi, rfl, rfl, HB, hownr, hbr⟩ := hrel
      have hc1 := HB.out.one
      have hzl := HB.out.len
      by_cases hin : i < n1
      · obtain ⟨b, o, rfl, hb, hc⟩ := (h1.below hbr).at_ (by omega)
        have hcell := hc i hin
        have hx := nth_lt h1.ok i
        have hy := nth_lt h2.ok i
        have j1 : (i : Int) < (n1 : Int) := by omega
        have j3 : (i : Int) < (n1 : Int) + 1 := by omega
        have HN := Lib.hid (HB.out.next h1.ok h2.ok)
        have hfz := hownr.frozenAt i
        have hst := own_cell hownr (j := i) (by omega)
        obtain ⟨o1, r1⟩ := hownr.stored i (lv ((nth xs i + nth ys i + c) % 4294967296))
        rw [set_front hzl (by omega)] at o1
        have hb3 := hbr.grown r1 hbr.size (by simp)
        obtain ⟨z2, z3⟩ := bgAdd_wraps hx hy hc1
        have z1 := bgU64_limb hx
        by_cases hin2 : i < n2
        · obtain ⟨b', o', rfl, hb', hc'⟩ := (h2.below hbr).at_ (by omega)
          have hcell2 := hc' i hin2
          have j2 : (i : Int) < (n2 : Int) := by omega
          have z4 := bgU64_limb hy
          have e1 : Hid (Value.int IntKind.u32 (((nth xs i : Int) + (c : Int) + (nth ys i : Int)) % 4294967296) = lv ((nth xs i + nth ys i + c) % 4294967296)) := Lib.hid (by unfold lv; congr 1 <;> omega)
          have e2 : Hid (((nth xs i : Int) + (c : Int) + (nth ys i : Int)) / 4294967296 = (((nth xs i + nth ys i + c) / 4294967296 : Nat) : Int)) := Lib.hid (by omega)
          clear hc hc' r1 HB
          go_wp2
          rw [e1.out, e2.out]
          exact ⟨⟨i + 1, _, _, by omega, rfl, by go_num, HN, o1, hb3⟩, by simp [intOf]; omega⟩
        · have j2 : ¬ (i : Int) < (n2 : Int) := by omega
          have hz : nth ys i = 0 := nth_over (by omega)
          rw [hz] at o1 HN hb3
          have e1 : Hid (Value.int IntKind.u32 (((nth xs i : Int) + (c : Int)) % 4294967296) = lv ((nth xs i + 0 + c) % 4294967296)) := Lib.hid (by unfold lv; congr 1 <;> omega)
          have e2 : Hid (((nth xs i : Int) + (c : Int)) / 4294967296 = (((nth xs i + 0 + c) / 4294967296 : Nat) : Int)) := Lib.hid (by omega)
          clear hc r1 HB hz z3
          go_wp2
          rw [e1.out, e2.out]
          exact ⟨⟨i + 1, _, _, by omega, rfl, by go_num, HN, o1, hb3⟩, by simp [intOf]; omega⟩
      · obtain rfl : n1 = i := by omega
        obtain ⟨hsum, hok⟩ := HB.out.sum (by omega) (by omega)
        have hfz := hownr.frozenAt n1
        have hst := own_cell hownr (j := n1) (by omega)
        obtain ⟨o1, r1⟩ := hownr.stored n1 (lv c)
        rw [set_front hzl (by omega), show n1 + 1 - (n1 + 1) = 0 by omega, List.replicate_zero, List.append_nil] at o1
        have hb3 := hbr.grown r1 hbr.size (by simp)
        have z1 : (c : Int) % 4294967296 = (c : Int) := by omega
        have Hs := Lib.hid hsum
        clear hsum r1 HB
        go_wp2_with fail
        refine (bgTrim_own _ o1 hok).mono ?_
        rintro e w2 ⟨k2, rfl, hF, rfl⟩
        rw [Hs.out] at hF
        go_wp2
        go_ret
        exact ⟨_, _, _, rfl, hF, hb3⟩

set_option maxRecDepth 100000 in
set_option maxHeartbeats 4000000 in
theorem bgSubW_any (a1 a2 : Option Addr) (n1 n2 c1 c2 : Nat) (xs ys : List Nat) (w : World) (h1 : Sl w a1 n1 c1 xs) (h2 : Sl w a2 n2 c2 ys) (hn1 : n1 ≤ 1073741824) (hnn : n2 ≤ n1) (hle : val ys ≤ val xs) :
    Calls Tryz.prog 436 #[.slice a1 n1 c1, .slice a2 n2 c2] w (Wd 23 (val xs - val ys) w) := by
  obtain ⟨i0, hi0, hz0, hz1, hz2⟩ := info_parts u32_infoL
  have hle1 := h1.le
  have hcap1 := h1.cap
  have hlen1 := h1.len
  have hlen2 := h2.len
  have hle2 := h2.le
  have hcap2 := h2.cap
  have HL := Lib.hid hle
  clear hle
  go_enter Tryz.func436, Tryz.ntmps436
  go_wp2_with (at_make; refine wpList_make_full _ rfl _ _ 76 rfl w.heap.size 23 i0 _ 1 Tryz.underlying76 hi0 hz0 hz1 _ _ _ _ (n1) rfl rfl rfl rfl (by rw [hz2]; omega) (by unfold maxLen; omega) (Nat.le_refl _) ?_; intro w1 hown hg1; rw [made_lvs] at hown; have hb1 := (Below.refl w.heap.size w).grown hg1 (Nat.le_refl _) (by simp))
  go_loopw [6, 7] (fun cv iv wr => ∃ (i c : Nat) (zs : List Nat), i ≤ n1 ∧ cv = .int .u64 c ∧ iv = .int .i64 i ∧ Hid (Sb xs ys i zs c) ∧ wr.ownsRow w.heap.size 23 1 (.slice (some ⟨w.heap.size, 0, none⟩) n1 n1) n1 (lvs (zs ++ List.replicate (n1 - i) 0)) ∧ Below w.heap.size w wr) (fun _ iv _ => n1 - (intOf iv).toNat)
  case atStart => exact ⟨0, 0, [], by omega, rfl, rfl, Lib.hid (sb_zero xs ys), by simpa using hown, hb1⟩
  case round =>
    obtain ⟨i, c, zs, hi, rfl, rfl, HB, hownr, hbr⟩ := hrel
    have hc1 := HB.out.one
    have hzl := HB.out.len
    by_cases hin : i < n1
    · obtain ⟨b, o, rfl, hb, hc⟩ := (h1.below hbr).at_ (by omega)
      have hcell := hc i hin
      have hx := nth_lt h1.ok i
      have hy := nth_lt h2.ok i
      have j1 : (i : Int) < (n1 : Int) := by omega
      have HN := Lib.hid (HB.out.next h1.ok h2.ok)
      have hfz := hownr.frozenAt i
      have hst := own_cell hownr (j := i) (by omega)
      obtain ⟨o1, r1⟩ := hownr.stored i (lv (sbD (nth xs i) (nth ys i) c))
      rw [set_front hzl (by omega)] at o1
      have hb3 := hbr.grown r1 hbr.size (by simp)
      have z1 := bgU64_limb hx
      by_cases hin2 : i < n2
      · obtain ⟨b', o', rfl, hb', hc'⟩ := (h2.below hbr).at_ (by omega)
        have hcell2 := hc' i hin2
        have j2 : (i : Int) < (n2 : Int) := by omega
        have z4 := bgU64_limb hy
        have E := Lib.hid (bgSub_wraps hx hy hc1)
        clear hc hc' r1 HB
        go_wp2
        rw [E.out.1, E.out.2]
        exact ⟨⟨i + 1, _, _, by omega, rfl, by go_num, HN, o1, hb3⟩, by simp [intOf]; omega⟩
      · have j2 : ¬ (i : Int) < (n2 : Int) := by omega
        have hz : nth ys i = 0 := nth_over (by omega)
        rw [hz] at o1 HN hb3
        have E := Lib.hid (bgSub_wraps0 hx hc1)
        clear hc r1 HB hz
        go_wp2
        rw [E.out.1, E.out.2]
        exact ⟨⟨i + 1, _, _, by omega, rfl, by go_num, HN, o1, hb3⟩, by simp [intOf]; omega⟩
    · obtain rfl : n1 = i := by omega
      have hdf := HB.out.diff (by omega) (by omega) HL.out
      have hok := HB.out.ok
      rw [Nat.sub_self, List.replicate_zero, List.append_nil] at hownr
      have Hs := Lib.hid hdf
      clear hdf HB
      go_wp2_with fail
      refine (bgTrim_own _ hownr hok).mono ?_
      rintro e w2 ⟨k2, rfl, hF, rfl⟩
      rw [Hs.out] at hF
      go_wp2
      go_ret
      exact ⟨_, _, _, rfl, hF, hbr⟩

end Go.Proofs.YtaddnoneoflimaaGreatDoor

namespace Go.Proofs.YtaddnoneoflimaaGreatDoor

open Go.RowKit Go.Lb

end Go.Proofs.YtaddnoneoflimaaGreatDoor

namespace Go.Proofs.YtaddnoneoflimaaGreatDoor

open Go.RowKit Go.Lb

end Go.Proofs.YtaddnoneoflimaaGreatDoor

