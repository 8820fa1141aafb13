/-
  Plain: what a float with a sign reaches: the mirror of what its magnitude reaches.
-/
import Derived.Test.YtfjgmpfpadfknaaGreatDoorQbNMN37
namespace Go.Proofs.YtfjgmpfpadfknaaGreatDoor
open Go.RowKit Go.Lb
set_option exponentiation.threshold 5000
def ngD (g : Bool) (D : Ds) : Ds := ⟨g && decide (D.N ≠ 0), D.N, D.x, 0⟩
theorem ng_dy {g : Bool} {D : Ds} (h : Dy false D.N D.x) : Dy (ngD g D).s (ngD g D).N (ngD g D).x :=
 ⟨fun h0 => ⟨by show (g && decide (D.N ≠ 0)) = false; rw [show D.N = 0 from h0]; simp, (h.zero h0).2⟩, h.odd, h.lo, h.hi, h.len⟩
theorem ng_wI (g : Bool) (D : Ds) (b : Int) : wI (ngD g D).s (ngD g D).N (ngD g D).x b = sgI g (upW D.N D.x b) := by
 show wI (g && decide (D.N ≠ 0)) D.N D.x b = _
 by_cases h0 : D.N = 0
 · rw [h0, wI_zero, upW_zero]; exact (sgI_zero.2 rfl).symm
 · rw [decide_eq_true h0, Bool.and_true]; rfl
theorem sgI_add (g : Bool) (m n : Nat) : sgI g (m + n) = sgI g m + sgI g n := by
 unfold sgI
 cases g <;> simp <;> omega
theorem dy_same {D E : Ds} {b : Int} {v w : Int} (h : Wo D b v) (k : Wo E b w) (hv : v = w) (he : D.e = E.e) : D = E := by
 obtain ⟨h1, h2, h3⟩ := dy_one h.dy k.dy h.low k.low (by rw [h.wo, k.wo, hv])
 cases D; cases E
 simp at h1 h2 h3 he
 subst h1 h2 h3 he
 rfl
theorem ng_wo {g : Bool} {D : Ds} {b : Int} (h : Dy false D.N D.x) (hb : D.N ≠ 0 → b ≤ D.x) : Wo (ngD g D) b (sgI g (upW D.N D.x b)) := ⟨ng_dy h, hb, ng_wI g D b⟩
theorem nonneg_wo {D : Ds} {b : Int} {n : Nat} (h : Wo D b (n : Int)) : D.s = false ∧ upW D.N D.x b = n := by
 have h1 := h.wo
 have h2 := wI_abs D.s D.N D.x b
 rw [h1] at h2
 have h3 : upW D.N D.x b = n := by omega
 refine ⟨?_, h3⟩
 by_cases h0 : D.N = 0
 · exact (h.dy.zero h0).1
 · cases hs : D.s
   · rfl
   · exfalso
     have hp := upW_pos (x := D.x) (b := b) h0
     rw [hs] at h1
     unfold wI sgI at h1
     rw [if_pos rfl] at h1
     omega
theorem ng_add {g : Bool} {P Q : Ds} {b : Int} {K : Nat} (h1 : Dy false P.N P.x) (h2 : Dy false Q.N Q.x) (g1 : Bd P.N P.x b K) (g2 : Bd Q.N Q.x b K) (hK : K + 1 ≤ 524288) (hb1 : -1073741824 ≤ b) (hb2 : b + K + 1 ≤ 1073741824) :
 addA (ngD g P).s (limbs P.N) P.x (ngD g Q).s (limbs Q.N) Q.x = ngD g (addA false (limbs P.N) P.x false (limbs Q.N) Q.x) ∧ (addA false (limbs P.N) P.x false (limbs Q.N) Q.x).s = false := by
 obtain ⟨e0, d0, b0⟩ := sum_bd h1 h2 g1 g2 hK hb1 hb2 _ rfl
 obtain ⟨e1, d1, b1⟩ := sum_bd (ng_dy (g := g) h1) (ng_dy (g := g) h2) g1 g2 hK hb1 hb2 _ rfl
 have w0 := addA_worth h1 h2 g1.low g2.low e0
 have w1 := addA_worth (ng_dy (g := g) h1) (ng_dy (g := g) h2) g1.low g2.low e1
 rw [ng_wI, ng_wI, ← sgI_add] at w1
 have w0' : Wo (addA false (limbs P.N) P.x false (limbs Q.N) Q.x) b ((upW P.N P.x b + upW Q.N Q.x b : Nat) : Int) := by
  have : wI false P.N P.x b + wI false Q.N Q.x b = ((upW P.N P.x b + upW Q.N Q.x b : Nat) : Int) := by unfold wI sgI; simp
  rw [← this]; exact w0
 obtain ⟨hs, hu⟩ := nonneg_wo w0'
 rw [hs] at d0
 refine ⟨dy_same w1 (ng_wo (g := g) d0 b0.low) ?_ e1, hs⟩
 rw [hu]
theorem ng_half {g : Bool} {D : Ds} {b : Int} {K : Nat} (h : Dy false D.N D.x) (hb : Bd D.N D.x b K) (hK : K ≤ 524287) (h1 : -1000000 ≤ b) (h2 : b + K ≤ 1000000) :
 mulA (ngD g D).s (limbs D.N) D.x false (limbs 1) (-1) = ngD g (mkA false D.N (D.x - 1)) ∧ (mkA false D.N (D.x - 1)).s = false := by
 have hl1 : (limbs 1).length ≤ 16384 := by decide +kernel
 have d1 : Dy false 1 (-1) := ⟨fun h => absurd h (by decide), fun _ => rfl, by omega, by omega, hl1⟩
 have u1 : upW 1 (-1) (-1) = 1 := by unfold upW; simp
 have g1 : Bd 1 (-1) (-1) 1 := ⟨fun _ => Int.le_refl _, by rw [u1]; decide⟩
 have e1 := mulA_ok (ng_dy (g := g) h) d1 hb g1 (by omega) (by omega) (by omega)
 have w1 := mulA_worth (ng_dy (g := g) h) d1 hb.low g1.low e1
 rw [ng_wI] at w1
 have w1' : wI false 1 (-1) (-1) = 1 := by unfold wI; rw [u1]; rfl
 rw [w1', Int.mul_one] at w1
 have hup : upW D.N (D.x - 1) (b + -1) = upW D.N D.x b := by
  unfold upW
  congr 2
  omega
 have hlow : D.N ≠ 0 → b + -1 ≤ D.x - 1 := fun h => by have := hb.low h; omega
 have e2 : (mkA false D.N (D.x - 1)).e = 0 := by
  by_cases h0 : D.N = 0
  · rw [h0, mkA_zero]; rfl
  · exact (mkA_ok (b := b + -1) (hlow h0) (by rw [hup]; exact hb.top) (by omega) (by omega) (by omega)).2
 have w2 := mkA_worth (s := false) h.len hlow e2
 have w3 : Wo (mkA false D.N (D.x - 1)) (b + -1) ((upW D.N D.x b : Nat) : Int) := by
  have : wI false D.N (D.x - 1) (b + -1) = ((upW D.N D.x b : Nat) : Int) := by unfold wI sgI; rw [hup]; simp
  rw [← this]; exact w2
 obtain ⟨hs, hu⟩ := nonneg_wo w3
 have d2 := w3.dy
 rw [hs] at d2
 refine ⟨dy_same w1 (ng_wo (g := g) d2 w3.low) (by rw [hu]) e1, hs⟩
theorem ex_of_mg {e f a b : Nat} (h : mgN e f a = mgN e f b) : exN e f a = exN e f b ∧ frN f a = frN f b := by
 have hp := pw_pos f
 have la : frN f a < pw f := by rw [frN_eq]; exact Nat.mod_lt _ hp
 have lb : frN f b < pw f := by rw [frN_eq]; exact Nat.mod_lt _ hp
 rw [mg_parts, mg_parts] at h
 have h1 : exN e f a = exN e f b := by
  have e1 : (exN e f a * pw f + frN f a) / pw f = exN e f a := by rw [Nat.mul_comm, Nat.mul_add_div hp, Nat.div_eq_of_lt la, Nat.add_zero]
  have e2 : (exN e f b * pw f + frN f b) / pw f = exN e f b := by rw [Nat.mul_comm, Nat.mul_add_div hp, Nat.div_eq_of_lt lb, Nat.add_zero]
  rw [← e1, h, e2]
 exact ⟨h1, by rw [h1] at h; omega⟩
theorem mg_mg (e f b : Nat) : mgN e f (mgN e f b) = mgN e f b := Nat.mod_mod _ _
theorem sg_mg (e f b : Nat) : sgB e f (mgN e f b) = false := by
 have h := mg_lt e f b
 have hl : mgN e f b < pw (1 + e + f) := by rw [pw_one_more]; omega
 have := @sg_iff e f (mgN e f b) hl
 rw [this]
 exact decide_eq_false (by omega)
theorem val_turned {e f b : Nat} (hf : formE (e : Int) (f : Int) = 0) (hb : b < pw (1 + e + f)) (hx : exN e f b ≠ maskN e) :
 valD (e : Int) (f : Int) b = ngD (sgB e f b) (valD (e : Int) (f : Int) (mgN e f b)) ∧ (valD (e : Int) (f : Int) (mgN e f b)).s = false ∧ exN e f (mgN e f b) ≠ maskN e := by
 obtain ⟨q1, q2, q3, q4⟩ := formE_ok hf
 obtain ⟨x1, x2⟩ := ex_of_mg (mg_mg e f b)
 have hm : mgN e f b < pw (1 + e + f) := by have := mg_lt e f b; rw [pw_one_more]; omega
 have hx' : exN e f (mgN e f b) ≠ maskN e := by rw [x1]; exact hx
 obtain ⟨e1, w1⟩ := valD_ok (fits_bits hf hb) hx (by omega) (by omega)
 obtain ⟨e2, w2⟩ := valD_ok (fits_bits hf hm) hx' (by omega) (by omega)
 have hg : gN e f (mgN e f b) = gN e f b := by unfold gN vN vX; rw [x1, x2]
 rw [sg_mg, hg] at w2
 have w2' : Wo (valD (e : Int) (f : Int) (mgN e f b)) (baseI e f) ((gN e f b : Nat) : Int) := w2
 obtain ⟨hs, hu⟩ := nonneg_wo w2'
 have d2 := w2'.dy
 rw [hs] at d2
 exact ⟨dy_same w1 (ng_wo (g := sgB e f b) d2 w2'.low) (by rw [hu]) e1, hs, hx'⟩
theorem mg_less {e f b : Nat} (hb : b < pw (1 + e + f)) (h0 : mgN e f b ≠ 0) : mgN e f (b - 1) = mgN e f b - 1 ∧ sgB e f (b - 1) = sgB e f b ∧ b - 1 < pw (1 + e + f) := by
 have hm := mg_lt e f b
 have h1 := mg_eq hb
 obtain ⟨k1, k2, k3⟩ := sg_mk (e := e) (f := f) (M := mgN e f b - 1) (by omega) (sgB e f b)
 have h2 : b - 1 = mgN e f b - 1 + if sgB e f b = true then pw (e + f) else 0 := by omega
 rw [h2]
 exact ⟨k3, k2, k1⟩
theorem ref_reach {e f b : Nat} (hf : formE (e : Int) (f : Int) = 0) (hb : b < pw (1 + e + f)) (hx : exN e f b ≠ maskN e) :
 addA (valS (e : Int) (f : Int) b) (limbs (valN (e : Int) (f : Int) b)) (valX (e : Int) (f : Int) b) (sgB e f b) (limbs 1) (unI e f b) = ngD (sgB e f b) (faD e f (mgN e f b)) ∧
 (faD e f (mgN e f b)).s = false ∧ (bfD e f (mgN e f b)).s = false ∧ (valD (e : Int) (f : Int) (mgN e f b)).s = false ∧
 (if mgN e f b ≠ 0 then valD (e : Int) (f : Int) (b - 1) else valD (e : Int) (f : Int) b) = ngD (sgB e f b) (bfD e f (mgN e f b)) := by
 obtain ⟨v1, v2, v3⟩ := val_turned hf hb hx
 have hm := mg_lt e f b
 have hm1 : mgN e f b < pw (1 + e + f) := by rw [pw_one_more]; omega
 obtain ⟨d1, g1⟩ := val_bd hf hm1 v3
 obtain ⟨d2, g2⟩ := un_bd hf v3
 obtain ⟨b1, b2, b3, b4⟩ := base_small hf
 have hu : unI e f b = unI e f (mgN e f b) := by unfold unI; rw [(ex_of_mg (mg_mg e f b)).1]
 have d1' : Dy false (valD (e : Int) (f : Int) (mgN e f b)).N (valD (e : Int) (f : Int) (mgN e f b)).x := by rw [← v2]; exact d1
 obtain ⟨a1, a2⟩ := ng_add (g := sgB e f b) (P := valD (e : Int) (f : Int) (mgN e f b)) (Q := spD e f (mgN e f b)) d1' d2 g1 g2 (by omega) (by omega) (by omega)
 have hfa : faD e f (mgN e f b) = addA false (limbs (valN (e : Int) (f : Int) (mgN e f b))) (valX (e : Int) (f : Int) (mgN e f b)) false (limbs 1) (unI e f (mgN e f b)) := by
  unfold faD
  rw [show valS (e : Int) (f : Int) (mgN e f b) = false from v2]
 have hv : valS (e : Int) (f : Int) b = (ngD (sgB e f b) (valD (e : Int) (f : Int) (mgN e f b))).s ∧ valN (e : Int) (f : Int) b = valN (e : Int) (f : Int) (mgN e f b) ∧ valX (e : Int) (f : Int) b = valX (e : Int) (f : Int) (mgN e f b) :=
  ⟨congrArg Ds.s v1, congrArg Ds.N v1, congrArg Ds.x v1⟩
 refine ⟨?_, ?_, ?_, v2, ?_⟩
 · rw [hv.1, hv.2.1, hv.2.2, hu, hfa]
   have hq : (ngD (sgB e f b) (spD e f (mgN e f b))).s = sgB e f b := by unfold ngD spD; simp
   rw [hq] at a1
   exact a1
 · rw [hfa]; exact a2
 · unfold bfD
   by_cases h0 : mgN e f b = 0
   · rw [if_pos h0]; exact v2
   · rw [if_neg h0]
     obtain ⟨m1, m2, m3⟩ := mg_less hb h0
     have hp2 : mgN e f b - 1 < pw (1 + e + f) := by omega
     have hx2 := before_fin hm v3
     have := (val_turned hf hp2 hx2).2.1
     rwa [mag_self (by omega)] at this
 · unfold bfD
   by_cases h0 : mgN e f b = 0
   · rw [if_neg (by simp [h0]), if_pos h0]; exact v1
   · rw [if_pos h0, if_neg h0]
     obtain ⟨m1, m2, m3⟩ := mg_less hb h0
     have hx2 := before_fin hm v3
     have hx3 : exN e f (b - 1) ≠ maskN e := by
      rw [(ex_of_mg (a := b - 1) (b := mgN e f b - 1) (by rw [m1]; exact (mag_self (by omega)).symm)).1]
      exact hx2
     have := (val_turned hf m3 hx3).1
     rwa [m1, m2] at this
theorem mean_s {P Q : Ds} {b : Int} {K : Nat} (h1 : Dy false P.N P.x) (h2 : Dy false Q.N Q.x) (s1 : P.s = false) (s2 : Q.s = false) (g1 : Bd P.N P.x b K) (g2 : Bd Q.N Q.x b K) (hK : K + 1 ≤ 100000) (hb1 : -100000 ≤ b) (hb2 : b ≤ 100000) :
 (meA P Q).s = false ∧ ∀ g, mulA (addA (ngD g P).s (limbs P.N) P.x (ngD g Q).s (limbs Q.N) Q.x).s (limbs (addA (ngD g P).s (limbs P.N) P.x (ngD g Q).s (limbs Q.N) Q.x).N) (addA (ngD g P).s (limbs P.N) P.x (ngD g Q).s (limbs Q.N) Q.x).x false (limbs 1) (-1) = ngD g (meA P Q) := by
 obtain ⟨e0, d0, b0⟩ := sum_bd h1 h2 g1 g2 (by omega) (by omega) (by omega) _ rfl
 have ha := fun g => ng_add (g := g) h1 h2 g1 g2 (by omega) (by omega) (by omega)
 have hs := (ha true).2
 rw [hs] at d0
 have hh := fun g => ng_half (g := g) d0 b0 (by omega) (by omega) (by omega)
 have hm : meA P Q = mkA false (addA false (limbs P.N) P.x false (limbs Q.N) Q.x).N ((addA false (limbs P.N) P.x false (limbs Q.N) Q.x).x - 1) := by
  unfold meA
  rw [s1, s2, hs]
 refine ⟨by rw [hm]; exact (hh true).2, fun g => ?_⟩
 rw [(ha g).1, hm]
 exact (hh g).1
theorem rc_s {e f b : Nat} (hf : formE (e : Int) (f : Int) = 0) (hp : b < pw (e + f)) (hx : exN e f b ≠ maskN e) (m : Nat) :
 (rcI e f b m).s = false ∧ (rcO e f b m).s = false ∧ Dy false (valD (e : Int) (f : Int) b).N (valD (e : Int) (f : Int) b).x ∧ Dy false (bfD e f b).N (bfD e f b).x ∧ Dy false (faD e f b).N (faD e f b).x ∧
 (∀ g, mulA (addA (ngD g (bfD e f b)).s (limbs (bfD e f b).N) (bfD e f b).x (ngD g (valD (e : Int) (f : Int) b)).s (limbs (valN (e : Int) (f : Int) b)) (valX (e : Int) (f : Int) b)).s (limbs (addA (ngD g (bfD e f b)).s (limbs (bfD e f b).N) (bfD e f b).x (ngD g (valD (e : Int) (f : Int) b)).s (limbs (valN (e : Int) (f : Int) b)) (valX (e : Int) (f : Int) b)).N) (addA (ngD g (bfD e f b)).s (limbs (bfD e f b).N) (bfD e f b).x (ngD g (valD (e : Int) (f : Int) b)).s (limbs (valN (e : Int) (f : Int) b)) (valX (e : Int) (f : Int) b)).x false (limbs 1) (-1) = ngD g (meA (bfD e f b) (valD (e : Int) (f : Int) b))) ∧
 (∀ g, mulA (addA (ngD g (valD (e : Int) (f : Int) b)).s (limbs (valN (e : Int) (f : Int) b)) (valX (e : Int) (f : Int) b) (ngD g (faD e f b)).s (limbs (faD e f b).N) (faD e f b).x).s (limbs (addA (ngD g (valD (e : Int) (f : Int) b)).s (limbs (valN (e : Int) (f : Int) b)) (valX (e : Int) (f : Int) b) (ngD g (faD e f b)).s (limbs (faD e f b).N) (faD e f b).x).N) (addA (ngD g (valD (e : Int) (f : Int) b)).s (limbs (valN (e : Int) (f : Int) b)) (valX (e : Int) (f : Int) b) (ngD g (faD e f b)).s (limbs (faD e f b).N) (faD e f b).x).x false (limbs 1) (-1) = ngD g (meA (valD (e : Int) (f : Int) b) (faD e f b))) := by
 have hp1 : b < pw (1 + e + f) := by rw [pw_one_more]; omega
 obtain ⟨_, hf1, hf2, hf3, _⟩ := ref_reach hf hp1 hx
 rw [mag_self hp] at hf1 hf2 hf3
 obtain ⟨d1, g1⟩ := val_bd hf hp1 hx
 obtain ⟨b1, b2, b3, b4⟩ := base_small hf
 obtain ⟨_, d3, g3, d4, g4⟩ := reach_facts hf hp hx
 have g1' := g1.up (show f + 2 * biasN e ≤ f + 2 * biasN e + 1 by omega)
 have d1' : Dy false (valD (e : Int) (f : Int) b).N (valD (e : Int) (f : Int) b).x := by rw [← hf3]; exact d1
 rw [hf1] at d3
 rw [hf2] at d4
 obtain ⟨k1, k2⟩ := mean_s d4 d1' hf2 hf3 g4 g1' (by omega) (by omega) (by omega)
 obtain ⟨k3, k4⟩ := mean_s d1' d3 hf3 hf1 g1' g3 (by omega) (by omega) (by omega)
 refine ⟨?_, ?_, d1', d4, d3, k2, k4⟩
 · unfold rcI
   by_cases m2 : m = 2
   · rw [if_pos m2]; exact hf3
   · rw [if_neg m2]
     by_cases m3 : m = 3
     · rw [if_pos m3]; exact hf2
     · rw [if_neg m3]; exact k1
 · unfold rcO
   by_cases m2 : m = 2
   · rw [if_pos m2]; exact hf1
   · rw [if_neg m2]
     by_cases m3 : m = 3
     · rw [if_pos m3]; exact hf3
     · rw [if_neg m3]; exact k3
theorem up_cop {s : Bool} {N : Nat} {X : Int} (h : Dy s N X) : Nat.gcd (upN N X) (upD X) = 1 := by
 unfold upN upD
 by_cases h0 : 0 ≤ X
 · rw [show (-X).toNat = 0 by omega, Nat.pow_zero, Nat.gcd_one_right]
 · by_cases hN : N = 0
   · have := (h.zero hN).2
     omega
   · rw [show X.toNat = 0 by omega, Nat.pow_zero, Nat.mul_one]
     have h2 : Nat.Coprime N 2 := by
      have := h.odd hN
      unfold Nat.Coprime
      rw [Nat.gcd_comm, Nat.gcd_rec, this]
      rfl
     exact Nat.Coprime.pow_right _ h2
theorem neg_low {N D : Nat} (hD : D ≠ 0) (hG : Nat.gcd N D = 1) : (-(sgQ' false N D)).num.natAbs = N ∧ (-(sgQ' false N D)).den = D ∧ decide ((-(sgQ' false N D)).num < 0) = decide (N ≠ 0) := by
 have h1 : -(sgQ' false N D) = sgQ' (decide (N ≠ 0)) N D := by
  unfold sgQ'
  rw [Rat.neg_mkRat]
  by_cases h0 : N = 0
  · rw [h0]; simp
  · rw [if_neg (by decide), if_pos (by simpa using h0)]
 rw [h1]
 exact mk_low hD hG (fun h => of_decide_eq_true h)
theorem low6 {N : Nat} {X b : Int} {K : Nat} (h : Dy false N X) (g : Bd N X b K) (hb : -2000 ≤ b) (hb0 : b ≤ 0) (hK : K ≤ 4000) :
 ratB false (limbs (upN N X)) (limbs (upD X)) = true ∧ (limbs (upN N X)).length ≤ 1000 ∧ (limbs (upD X)).length ≤ 1000 ∧
 (-(sgQ' false (upN N X) (upD X))).num.natAbs = upN N X ∧ (-(sgQ' false (upN N X) (upD X))).den = upD X ∧ decide ((-(sgQ' false (upN N X) (upD X))).num < 0) = decide (N ≠ 0) := by
 have u1 : upN N X < 2 ^ K := by
  refine Nat.lt_of_le_of_lt ?_ g.top
  unfold upN upW
  exact Nat.mul_le_mul_left _ (Nat.pow_le_pow_right (by decide) (by omega))
 have hX : -2000 ≤ X := by
  by_cases h0 : N = 0
  · have := (h.zero h0).2; omega
  · have := g.low h0; omega
 have u2 : upD X < 2 ^ 2001 := by
  unfold upD
  exact Nat.pow_lt_pow_right (by decide) (by omega)
 have l1 : (limbs (upN N X)).length ≤ 1000 := Nat.le_trans (len_pow (k := 125) u1 (by omega)) (by decide)
 have l2 : (limbs (upD X)).length ≤ 1000 := Nat.le_trans (len_pow (k := 63) u2 (by decide)) (by decide)
 have hc := up_cop h
 obtain ⟨n1, n2, n3⟩ := neg_low (upD_pos X) hc
 have hz : decide (upN N X ≠ 0) = decide (N ≠ 0) := by
  refine decide_eq_decide.2 ⟨fun hh h0 => hh (by unfold upN; rw [h0, Nat.zero_mul]), fun hh => ?_⟩
  unfold upN
  exact Nat.mul_ne_zero hh (Nat.ne_of_gt (Nat.two_pow_pos _))
 refine ⟨?_, l1, l2, n1, n2, n3.trans hz⟩
 unfold ratB
 refine decide_eq_true ⟨chk_lm6 (by omega), chk_lm6 (by omega), ?_, ?_, fun h => by cases h⟩
 · rw [limbs_pos (upD_pos X)]; simp
 · rw [val_limbs', val_limbs']; exact hc
end Go.Proofs.YtfjgmpfpadfknaaGreatDoor
