/-
  Plain: rounding does not change where both are multiplied (fl_same); a number far beyond all floats, or far below them, rounds alike whatever its power (sg_near). No program in sight. Plain: a fraction in its lowest terms, out of its sign and two numbers (mk_low); a fraction times a power of ten, across (tn_cross). No program in sight.
-/
import Derived.Test.YtoiifhmepniniaaGreatDoorQbCMC12
set_option maxHeartbeats 4000000
set_option maxRecDepth 100000
namespace Go.Proofs.YtoiifhmepniniaaGreatDoor
open Go.RowKit Go.Lb
theorem sgM_same {E F N D N' D' : Nat} (hN : N ≠ 0) (hD : D ≠ 0) (hN' : N' ≠ 0) (hD' : D' ≠ 0) (h : N * D' = N' * D) (neg : Bool) (m : Nat) : sgM E F N D neg m = sgM E F N' D' neg m := by
 unfold sgM lwE
 rw [lgE_same hN hD hN' hD' h]
 exact rd_same (scD_pos (Nat.pos_of_ne_zero hD) _) (scD_pos (Nat.pos_of_ne_zero hD') _) (sc_cross h _) neg m
theorem sgX_same {E F N D N' D' : Nat} (hN : N ≠ 0) (hD : D ≠ 0) (hN' : N' ≠ 0) (hD' : D' ≠ 0) (h : N * D' = N' * D) : sgX E F N D = sgX E F N' D' := by
 unfold sgX lwE
 rw [lgE_same hN hD hN' hD' h]
 exact ex_same (scD_pos (Nat.pos_of_ne_zero hD) _) (scD_pos (Nat.pos_of_ne_zero hD') _) (sc_cross h _)
theorem sgK_same {F N D N' D' : Nat} (hN : N ≠ 0) (hD : D ≠ 0) (hN' : N' ≠ 0) (hD' : D' ≠ 0) (h : N * D' = N' * D) (neg : Bool) (m : Nat) : sgK F N D neg m = sgK F N' D' neg m := by
 unfold sgK
 rw [lgE_same hN hD hN' hD' h]
 exact rd_same (scD_pos (Nat.pos_of_ne_zero hD) _) (scD_pos (Nat.pos_of_ne_zero hD') _) (sc_cross h _) neg m
theorem fl_same {E F N D N' D' : Nat} (hN : N ≠ 0) (hD : D ≠ 0) (hN' : N' ≠ 0) (hD' : D' ≠ 0) (h : N * D' = N' * D) (neg : Bool) (m : Nat) : flB E F N D neg m = flB E F N' D' neg m ∧ flG E F N D neg m = flG E F N' D' neg m := by
 have h1 := sgM_same (E := E) (F := F) hN hD hN' hD' h neg m
 have h2 := sgX_same (E := E) (F := F) hN hD hN' hD' h
 have h3 := sgK_same (F := F) hN hD hN' hD' h neg m
 have h4 := lgE_same hN hD hN' hD' h
 have h5 : lwE E N D = lwE E N' D' := by unfold lwE; rw [h4]
 have h6 : Lb.sgB E F N D neg m = Lb.sgB E F N' D' neg m := by unfold Lb.sgB; rw [h1, h5]
 have h7 : ovB E F N D neg m = ovB E F N' D' neg m := by unfold ovB; rw [h6, h5]
 have h8 : tiny E F N D neg m = tiny E F N' D' neg m := by unfold tiny; rw [h4, h3]
 constructor
 · unfold flB; rw [h7, h6]
 · unfold flG; rw [h7, h2, h8]
theorem sgs_same {E F N D N' D' : Nat} (hD : D ≠ 0) (hD' : D' ≠ 0) (h : N * D' = N' * D) (s neg : Bool) (m : Nat) : sgBits E F N D s neg m = sgBits E F N' D' s neg m ∧ sgFlags E F N D s m = sgFlags E F N' D' s m := by
 by_cases hN : N = 0
 · have hN' : N' = 0 := by
    rw [hN, Nat.zero_mul] at h
    rcases Nat.mul_eq_zero.1 h.symm with h1 | h1
    · exact h1
    · exact absurd h1 hD
   rw [hN, hN']
   exact ⟨rfl, rfl⟩
 · have hN' : N' ≠ 0 := by
    intro hh
    rw [hh, Nat.zero_mul] at h
    rcases Nat.mul_eq_zero.1 h with h1 | h1
    · exact hN h1
    · exact hD' h1
   obtain ⟨h1, h2⟩ := fl_same (E := E) (F := F) hN hD hN' hD' h s m
   unfold sgBits sgFlags
   rw [if_neg hN, if_neg hN', if_neg hN, if_neg hN', h1, h2]
   exact ⟨rfl, rfl⟩
theorem bs_leQ {E : Nat} (h1 : 2 ≤ E) (h2 : E ≤ 11) : 1 ≤ bsN E ∧ bsN E ≤ 1023 := by
 unfold bsN
 have h3 : 2 ^ 1 ≤ 2 ^ (E - 1) := Nat.pow_le_pow_right (by decide) (by omega)
 have h4 : 2 ^ (E - 1) ≤ 2 ^ 10 := Nat.pow_le_pow_right (by decide) (by omega)
 omega
def sgQ' (s : Bool) (N D : Nat) : Rat := mkRat (if s = true then -(N : Int) else (N : Int)) D
theorem mk_low {s : Bool} {N D : Nat} (hD : D ≠ 0) (hG : Nat.gcd N D = 1) (hs : s = true → N ≠ 0) : (sgQ' s N D).num.natAbs = N ∧ (sgQ' s N D).den = D ∧ decide ((sgQ' s N D).num < 0) = s := by
 have hz : (if s = true then -(N : Int) else (N : Int)).natAbs = N := by cases s <;> simp
 obtain ⟨e1, e2, e3⟩ := mk_parts (if s = true then -(N : Int) else (N : Int)) hD
 rw [hz, hG, Nat.div_one] at e1 e2
 refine ⟨e1, e2, Eq.trans e3 ?_⟩
 cases s
 · exact decide_eq_false (by simp)
 · have := hs rfl
   exact decide_eq_true (by simp; omega)
def upN (M : Nat) (X : Int) : Nat := M * 2 ^ X.toNat
def upD (X : Int) : Nat := 2 ^ (-X).toNat
theorem upD_pos (X : Int) : upD X ≠ 0 := Nat.ne_of_gt (Nat.two_pow_pos _)
theorem upN_ne {M : Nat} (h : M ≠ 0) (X : Int) : upN M X ≠ 0 := Nat.mul_ne_zero h (Nat.ne_of_gt (Nat.two_pow_pos _))
theorem up_sc (M : Nat) (X : Int) (F j : Nat) (g : Int) (hg : g = X + F + j) : ∃ K, 0 < K ∧ scN (upN M X) (-g) = M * K ∧ scD (upD X) (-g) = 2 ^ (F + j) * K := by
 refine ⟨2 ^ (X.toNat + (-g).toNat), Nat.two_pow_pos _, ?_, ?_⟩
 · unfold scN upN
   rw [Nat.mul_assoc, ← Nat.pow_add]
 · unfold scD upD
   rw [← Nat.pow_add, ← Nat.pow_add]
   congr 1
   omega
theorem lg_up {M F : Nat} {X : Int} (h1 : 2 ^ F ≤ M) (h2 : M < 2 ^ (F + 1)) : lgE (upN M X) (upD X) = X + F := by
 have hp := Nat.two_pow_pos F
 have hM : M ≠ 0 := by omega
 refine lg_uniq (upD_pos X) (lg_spec (upN_ne hM X) (upD_pos X)) ?_
 obtain ⟨K, hK, e1, e2⟩ := up_sc M X F 0 (X + F) (by omega)
 unfold LgP
 rw [e1, e2, Nat.add_zero]
 refine ⟨Nat.mul_le_mul_right _ h1, ?_⟩
 rw [← Nat.mul_assoc]
 refine Nat.mul_lt_mul_of_pos_right ?_ hK
 rw [Nat.pow_succ] at h2
 omega
theorem lg_up_low {M F : Nat} {X : Int} (h0 : M ≠ 0) (h1 : M < 2 ^ F) : lgE (upN M X) (upD X) < X + F := by
 by_cases h : lgE (upN M X) (upD X) < X + F
 · exact h
 · exfalso
   obtain ⟨a, _⟩ := lg_spec (upN_ne h0 X) (upD_pos X)
   obtain ⟨K, hK, e1, e2⟩ := up_sc M X F (lgE (upN M X) (upD X) - (X + F)).toNat (lgE (upN M X) (upD X)) (by omega)
   rw [e1, e2] at a
   have := Nat.le_of_mul_le_mul_right a hK
   have h3 : 2 ^ F ≤ 2 ^ (F + (lgE (upN M X) (upD X) - (X + F)).toNat) := Nat.pow_le_pow_right (by decide) (by omega)
   omega
structure Flt (E F e r M : Nat) (X : Int) : Prop where
 hr : r < 2 ^ F
 he : e < 2 * bsN E + 1
 hm : M = if e = 0 then r else 2 ^ F + r
 hx : X = if e = 0 then 1 - (bsN E : Int) - F else (e : Int) - bsN E - F
theorem Flt.lw {E F e r M : Nat} {X : Int} (h : Flt E F e r M X) (h0 : M ≠ 0) : lwE E (upN M X) (upD X) = X + F := by
 have hr := h.hr
 have hm := h.hm
 have hx := h.hx
 unfold lwE
 by_cases he : e = 0
 · rw [if_pos he] at hm hx
   have := lg_up_low (X := X) h0 (by omega : M < 2 ^ F)
   omega
 · rw [if_neg he] at hm hx
   have := lg_up (F := F) (M := M) (X := X) (by omega) (by rw [Nat.pow_succ]; omega)
   omega
theorem Flt.sc {E F e r M : Nat} {X : Int} (h : Flt E F e r M X) (h0 : M ≠ 0) : ∃ K, 0 < K ∧ scN (upN M X) (F - lwE E (upN M X) (upD X)) = M * K ∧ scD (upD X) (F - lwE E (upN M X) (upD X)) = K := by
 rw [h.lw h0, show (F : Int) - (X + F) = -X by omega]
 refine ⟨2 ^ (X.toNat + (-X).toNat), Nat.two_pow_pos _, ?_, ?_⟩
 · unfold scN upN
   rw [Nat.mul_assoc, ← Nat.pow_add]
 · unfold scD upD
   rw [← Nat.pow_add]
   congr 1
   omega
theorem rd_whole (M : Nat) {K : Nat} (hK : 0 < K) (neg : Bool) (m : Nat) : rdN (M * K) K neg m = M ∧ exB (M * K) K = true := by
 constructor
 · unfold rdN
   rw [if_pos (Nat.mul_mod_left M K), Nat.mul_div_cancel _ hK]
 · unfold exB
   exact decide_eq_true (Nat.mul_mod_left M K)
theorem inf_eq {E : Nat} (hE : 2 ≤ E) (F : Nat) : infN E F = (2 * bsN E + 1) * 2 ^ F := by
 unfold infN bsN
 have h1 : 2 ^ E = 2 * 2 ^ (E - 1) := by
  rw [show 2 * 2 ^ (E - 1) = 2 ^ (E - 1) * 2 by omega, ← Nat.pow_succ]
  congr 1
  omega
 have := Nat.two_pow_pos (E - 1)
 rw [Nat.pow_add, h1, show 2 * (2 ^ (E - 1) - 1) + 1 = 2 * 2 ^ (E - 1) - 1 by omega, Nat.sub_mul, Nat.one_mul]
theorem Flt.bits {E F e r M : Nat} {X : Int} (h : Flt E F e r M X) (hE : 2 ≤ E) (h0 : M ≠ 0) (neg : Bool) (m : Nat) :
 flB E F (upN M X) (upD X) neg m = e * 2 ^ F + r ∧ flG E F (upN M X) (upD X) neg m = 0 := by
 obtain ⟨K, hK, k1, k2⟩ := h.sc h0
 obtain ⟨q1, q2⟩ := rd_whole M hK neg m
 have hlw := h.lw h0
 have hr := h.hr
 have hm := h.hm
 have hx := h.hx
 have he := h.he
 have hM : sgM E F (upN M X) (upD X) neg m = M := by unfold sgM; rw [k1, k2, q1]
 have hX : sgX E F (upN M X) (upD X) = true := by unfold sgX; rw [k1, k2, q2]
 have hB : Lb.sgB E F (upN M X) (upD X) neg m = e * 2 ^ F + r := by
  unfold Lb.sgB
  rw [hM, hlw]
  by_cases h1 : e = 0
  · rw [if_pos h1] at hm hx
    have : (X + F + bsN E - 1).toNat = 0 := by omega
    rw [this, hm, h1]
    omega
  · rw [if_neg h1] at hm hx
    obtain ⟨d, rfl⟩ : ∃ d, e = d + 1 := ⟨e - 1, by omega⟩
    have : (X + F + bsN E - 1).toNat = d := by omega
    rw [this, hm, Nat.add_mul, Nat.one_mul]
    omega
 have hI : e * 2 ^ F + r < infN E F := by
  rw [inf_eq hE]
  have h2 : (e + 1) * 2 ^ F ≤ (2 * bsN E + 1) * 2 ^ F := Nat.mul_le_mul_right _ (by omega)
  rw [Nat.add_mul, Nat.one_mul] at h2
  omega
 have hO : ovB E F (upN M X) (upD X) neg m = false := by
  unfold ovB
  rw [hlw, hB]
  refine decide_eq_false ?_
  rintro (h | h)
  · by_cases h1 : e = 0
    · rw [if_pos h1] at hx
      have : bsN E ≠ 0 := by
       unfold bsN
       have : 2 ^ 1 ≤ 2 ^ (E - 1) := Nat.pow_le_pow_right (by decide) (by omega)
       omega
      omega
    · rw [if_neg h1] at hx
      omega
  · omega
 unfold flB flG
 rw [hO, hB, hX]
 exact ⟨rfl, rfl⟩
theorem Flt.round {E F e r M N D : Nat} {X : Int} (h : Flt E F e r M X) (hE : 2 ≤ E) (hD : D ≠ 0) (hx : N * upD X = upN M X * D) (s neg : Bool) (m : Nat) (hz : M = 0 → neg = s) :
 sgBits E F N D (if M = 0 then false else s) neg m = e * 2 ^ F + r + (if s = true then 2 ^ (E + F) else 0) ∧ sgFlags E F N D (if M = 0 then false else s) m = 0 := by
 have hs := sgs_same (E := E) (F := F) hD (upD_pos X) hx (if M = 0 then false else s) neg m
 rw [hs.1, hs.2]
 by_cases h0 : M = 0
 · have hN : upN M X = 0 := by unfold upN; rw [h0, Nat.zero_mul]
   have hm := h.hm
   have he : e = 0 ∧ r = 0 := by
    by_cases h1 : e = 0
    · rw [if_pos h1] at hm; omega
    · rw [if_neg h1] at hm
      have := Nat.two_pow_pos F
      omega
   unfold sgBits sgFlags
   rw [if_pos hN, if_pos hN, he.1, he.2, hz h0]
   exact ⟨by omega, rfl⟩
 · have hN := upN_ne h0 X
   rw [if_neg h0]
   obtain ⟨b1, b2⟩ := h.bits hE h0 s m
   unfold sgBits sgFlags
   rw [if_neg hN, if_neg hN, b1, b2]
   refine ⟨?_, rfl⟩
   cases s <;> simp
def vN (e f b : Nat) : Nat := if exN e f b = 0 then frN f b else pw f + frN f b
def vX (e f b : Nat) : Int := if exN e f b = 0 then 1 - (biasN e : Int) - (f : Int) else (exN e f b : Int) - (biasN e : Int) - (f : Int)
def valOk (e f : Int) (b : Nat) : Bool := decide (fitsE e f b = 0 ∧ exN e.toNat f.toNat b ≠ maskN e.toNat)
def valE (e f : Int) (b : Nat) : Int := if fitsE e f b ≠ 0 then fitsE e f b else if exN e.toNat f.toNat b = maskN e.toNat then 8 else mkE (limbs (vN e.toNat f.toNat b)) (vX e.toNat f.toNat b)
def valN (e f : Int) (b : Nat) : Nat := if valOk e f b = true then mkN (limbs (vN e.toNat f.toNat b)) (vX e.toNat f.toNat b) else 0
def valX (e f : Int) (b : Nat) : Int := if valOk e f b = true then mkX (limbs (vN e.toNat f.toNat b)) (vX e.toNat f.toNat b) else 0
def valS (e f : Int) (b : Nat) : Bool := if valOk e f b = true then mkS (sgB e.toNat f.toNat b) (limbs (vN e.toNat f.toNat b)) (vX e.toNat f.toNat b) else false
def Valued (e f : Int) (b : Nat) (w : World) (en : Ending) (w' : World) : Prop :=
 ∃ ao n c, en = .returned (.tuple #[.agg #[.bool (valS e f b), .slice ao n c, .int .i64 (valX e f b)], .int .i64 (valE e f b)]) ∧ Fr 23 w' w.heap.size ao n c (limbs (valN e f b)) ∧ Below w.heap.size w w'
theorem val_no {e f : Int} {b : Nat} (h : valOk e f b = false) : valN e f b = 0 ∧ valX e f b = 0 ∧ valS e f b = false := by
 unfold valN valX valS
 rw [h]
 exact ⟨rfl, rfl, rfl⟩
theorem valued_none {e f : Int} {b : Nat} {w w' : World} {er : Int} (h : valOk e f b = false) (he : valE e f b = er) (hW : Below w.heap.size w w') :
 Valued e f b w (.returned (.tuple #[.agg #[.bool false, .slice none 0 0, .int .i64 0], .int .i64 er])) w' := by
 obtain ⟨h1, h2, h3⟩ := val_no h
 exact ⟨none, 0, 0, by rw [h2, h3, he], by rw [h1]; exact fr_nil _ _ _, hW⟩
theorem val_fits {e f : Int} {b : Nat} (h : fitsE e f b ≠ 0) : valOk e f b = false ∧ valE e f b = fitsE e f b := by
 refine ⟨decide_eq_false fun hh => h hh.1, ?_⟩
 unfold valE
 rw [if_pos h]
theorem val_endless {e f b : Nat} (h : fitsE (e : Int) (f : Int) b = 0) (hx : exN e f b = maskN e) : valOk (e : Int) (f : Int) b = false ∧ valE (e : Int) (f : Int) b = 8 := by
 refine ⟨decide_eq_false fun hh => hh.2 (by simpa using hx), ?_⟩
 unfold valE
 rw [if_neg (by simp [h]), if_pos (by simpa using hx)]
theorem val_yes {e f b : Nat} (h : fitsE (e : Int) (f : Int) b = 0) (hx : exN e f b ≠ maskN e) :
 valN (e : Int) (f : Int) b = mkN (limbs (vN e f b)) (vX e f b) ∧ valX (e : Int) (f : Int) b = mkX (limbs (vN e f b)) (vX e f b) ∧ valS (e : Int) (f : Int) b = mkS (sgB e f b) (limbs (vN e f b)) (vX e f b) ∧ valE (e : Int) (f : Int) b = mkE (limbs (vN e f b)) (vX e f b) := by
 have ho : valOk (e : Int) (f : Int) b = true := decide_eq_true ⟨h, by simpa using hx⟩
 unfold valN valX valS valE
 rw [if_pos ho, if_pos ho, if_pos ho, if_neg (by simp [h]), if_neg (by simpa using hx)]
 simp
theorem value_no (e f : Int) (b : Nat) (w : World) (h : fitsE e f b ≠ 0) (hb : b < 18446744073709551616) :
 Calls Tryz.prog 74 #[.agg #[.int .i64 e, .int .i64 f], .int .u64 b] w (Valued e f b w) := by
 have hz : (fitsE e f b != 0) = true := by simp [h]
 have Ho := Lib.hid (val_fits h).1
 have He := Lib.hid (val_fits h).2
 go_enter Tryz.func74, Tryz.ntmps74
 go_wp2_with (go_at_call 109; refine (split_no e f b _ h hb).mono ?_; rintro en w1 ⟨rfl, hb1⟩; have B := (box3_new _ _ _ _ _).stay hb1; rw [World.size_alloc] at B; have ⟨b0, b1, b2, z0, z1, z2⟩ := B; have hl := B.lt; have hW := next (more (more (Below.refl _ _) _) _) hb1)
 obtain ⟨t0, t1, t2⟩ := B.set (.bool false) (.slice none 0 0) (.int .i64 0)
 refine bodyPost_ret (v := .tuple #[.agg #[.bool false, .slice none 0 0, .int .i64 0], .int .i64 (fitsE e f b)]) (by simp [results, Tryz.results74, go_sem, t0, t1, t2, hl]) rfl (valued_none Ho.out He.out (more (((hW.setCell (by simp) _).setCell (by simp) _).setCell (by simp) _) _))
theorem natOf_i (n : Nat) (x : Int) (hx : x = (n : Int)) (w : World) (hn : n < 18446744073709551616) :
 Calls Tryz.prog 115 #[.int .u64 x] w fun e w' => ∃ ao k c, e = .returned (.agg #[.slice ao k c]) ∧ Fr 23 w' w.heap.size ao k c (limbs n) ∧ Below w.heap.size w w' := by
 subst hx
 exact natOf_any n w hn
theorem exMake_i (neg : Bool) (ao : Option Addr) (n c : Nat) (ys : List Nat) (x y : Int) (hy : y = x) (w : World) (h : Sl w ao n c ys) (hT : Tab w) :
 Calls Tryz.prog 114 #[.bool neg, .agg #[.slice ao n c], .int .i64 y] w (Made neg ys x w) := by
 subst hy
 exact exMake_any neg ao n c ys y w h hT
structure ValK (sg : Bool) (h p : Nat) (w w' : World) : Prop where
 p0 : w'.cell? ⟨p, 0, none⟩ = some (.bool sg)
 tab : Tab w'
 bel : Below w.heap.size w w'
 res : Res3 w' (h + 1)
 ne : p ≠ h + 1
 le : w.heap.size ≤ h
 tl : 1 < w.heap.size
theorem ValK.stay {sg : Bool} {h p : Nat} {w wp w' : World} (k : ValK sg h p w wp) (hb : Below wp.heap.size wp w') : ValK sg h p w w' :=
 ⟨cellStay k.p0 hb, k.tab.below hb, next k.bel hb, k.res.stay hb, k.ne, k.le, k.tl⟩
theorem ValK.drew {sg : Bool} {h p : Nat} {w wp : World} (k : ValK sg h p w wp) : ValK sg h p w wp.drew := k.stay ((Below.refl _ _).drew)
theorem ValK.set {sg : Bool} {h p : Nat} {w wp : World} (k : ValK sg h p w wp) (u v x : Value) : ValK sg h p w (((wp.setCell ⟨h + 1, 0, none⟩ u).setCell ⟨h + 1, 1, none⟩ v).setCell ⟨h + 1, 2, none⟩ x) := by
 have hle := k.le
 have htl := k.tl
 exact ⟨(cell_set3 k.ne u v x).trans k.p0, fun j hj => (cell_set3 (by omega) u v x).trans (k.tab j hj), ((k.bel.setCell (by simp; omega) _).setCell (by simp; omega) _).setCell (by simp; omega) _, k.res.set u v x, k.ne, k.le, k.tl⟩
theorem ValK.conj {sg : Bool} {h p : Nat} {w w' : World} (k : ValK sg h p w w') :
 w'.cell? ⟨p, 0, none⟩ = some (.bool sg) ∧ w'.cell? ⟨h + 1, 0, none⟩ = some (cellOf w' (h + 1) 0) ∧ w'.cell? ⟨h + 1, 1, none⟩ = some (cellOf w' (h + 1) 1) ∧ w'.cell? ⟨h + 1, 2, none⟩ = some (cellOf w' (h + 1) 2) ∧
 w'.frozen? ⟨h + 1, 0, none⟩ = false ∧ w'.frozen? ⟨h + 1, 1, none⟩ = false ∧ w'.frozen? ⟨h + 1, 2, none⟩ = false ∧ ValK sg h p w w' :=
 ⟨k.p0, k.res.c0, k.res.c1, k.res.c2, k.res.z0, k.res.z1, k.res.z2, k⟩
theorem Tab.lt {w : World} (h : Tab w) : 1 < w.heap.size := World.block_lt_of_cell? _ _ (h 0 (by decide))
theorem frN_lt (f b : Nat) : frN f b < pw f := takeN_lt b 0 f
theorem mant_or {f m : Nat} (hf : f ≤ 52) (hm : m < pw f) : bits BinOp.or IntKind.u64 (m : Int) (IntKind.u64.wrap (2 ^ f)) = ((pw f + m : Nat) : Int) := by
 have hp : pw f ≤ 4503599627370496 := by have := pw_le hf; rw [show pw 52 = 4503599627370496 by unfold pw; rfl] at this; exact this
 have hw : IntKind.u64.wrap (2 ^ f) = ((pw f : Nat) : Int) := by
  rw [show (2 : Int) ^ f = ((pw f : Nat) : Int) by unfold pw; rw [Int.natCast_pow]; rfl]
  exact IntWalk.u64_in _ (by omega)
 rw [hw, u64_or_nat _ _ (by omega) (by omega), Nat.or_comm]
 have := Nat.two_pow_add_eq_or_of_lt (i := f) (b := m) (by unfold pw at hm; exact hm) 1
 rw [Nat.mul_one] at this
 unfold pw
 rw [← this]
theorem bias_two {e : Nat} (h1 : 2 ≤ e) (h : e ≤ 11) : wrap64 (2 - wrap64 (2 ^ (e - 1))) = 1 - (biasN e : Int) := by
 have hfin : ∀ k : Fin 12, wrap64 (2 - wrap64 (2 ^ (k.val - 1))) = 1 - ((2 ^ (k.val - 1) - 1 : Nat) : Int) := by decide +kernel
 unfold biasN
 exact hfin ⟨e, by omega⟩
theorem vN_lt {e f b : Nat} (hf : f ≤ 52) : vN e f b < 9007199254740992 := by
 have hp : pw f ≤ 4503599627370496 := by have := pw_le hf; rw [show pw 52 = 4503599627370496 by unfold pw; rfl] at this; exact this
 have := frN_lt f b
 unfold vN
 split <;> omega
theorem value_normal (e f b : Nat) (w : World) (h : formE (e : Int) (f : Int) = 0) (hb : b < 18446744073709551616) (hp : b < pw (1 + e + f)) (hx0 : exN e f b ≠ 0) (hxm : exN e f b ≠ maskN e) (hT : Tab w) :
 Calls Tryz.prog 74 #[.agg #[.int .i64 e, .int .i64 f], .int .u64 b] w (Valued (e : Int) (f : Int) b w) := by
 obtain ⟨h1, h2, h3, h4⟩ := formE_ok h
 have g1 : 2 ≤ e := by omega
 have g2 : e ≤ 11 := by omega
 have g3 : f ≤ 52 := by omega
 have hble := biasN_le g2
 have hmb : exN e f b ≤ 2047 := by have := exN_lt e f b; have := pw_le g2; have e11 : pw 11 = 2048 := (by unfold pw; rfl); omega
 have hc : classN e (exN e f b) (frN f b) = 3 := by unfold classN; rw [if_neg hx0, if_neg hxm]
 have cl := class_any e f b
 rw [hc] at cl
 have hvn := vN_lt (e := e) (b := b) g3
 have hmant : bits BinOp.or IntKind.u64 (frN f b : Int) (IntKind.u64.wrap (2 ^ f)) = ((vN e f b : Nat) : Int) := by rw [mant_or g3 (frN_lt f b)]; unfold vN; rw [if_neg hx0]
 have hexp : wrap64 (wrap64 (wrap64 (2 - wrap64 (2 ^ (e - 1))) - (f : Int)) + ((exN e f b : Int) - 1)) = vX e f b := by 
  unfold vX
  rw [if_neg hx0, bias_two g1 g2, IntWalk.wrap64_in (1 - (biasN e : Int) - f) ⟨by omega, by omega⟩, IntWalk.wrap64_in _ ⟨by omega, by omega⟩]
  omega
 have Hm := Lib.hid hmant
 have Hx := Lib.hid hexp
 have Hy := Lib.hid (val_yes (fitsE_ok h hp) hxm)
 have htl := hT.lt
 clear h1 h2 h3 h4 hc hmant hexp hx0 hxm
 go_enter Tryz.func74, Tryz.ntmps74
 go_wp2_with (first
  | (go_at_call 109; refine (split_any e f b _ h hb hp).mono ?_; rintro en w1 ⟨rfl, hb1⟩; have A := ((box2_new w (.int .i64 (e : Int)) (.int .i64 (f : Int)) 31).alloc _).stay hb1; have ⟨a0, a1⟩ := A; have B := (box3_new _ _ _ _ _).stay hb1; rw [World.size_alloc] at B; have ⟨b0, b1, b2, z0, z1, z2⟩ := B; have hl := A.lt; have hl2 := B.lt; have hW := next (more (more (Below.refl _ _) _) _) hb1)
  | (go_at_call 70; refine (cl _ h hb hp).mono ?_; rintro en w2 ⟨rfl, hb2⟩; have P := (box3_new w1 (.bool (sgB e f b)) (.int .i64 (exN e f b : Int)) (.int .u64 (frN f b : Int)) 162).stay hb2; have ⟨p0, p1, p2, _, _, _⟩ := P; replace A := (A.alloc _).stay hb2; have ⟨a0, a1⟩ := A; replace B := (B.alloc _).stay hb2; have ⟨b0, b1, b2, z0, z1, z2⟩ := B; replace hW := next (more hW _) hb2))
 go_quiet (fail)
 go_wp2
 have hK : ValK (sgB e f b) w.heap.size w1.heap.size w (w2.drewN nq) := ValK.stay ⟨p0, hT.below hW, hW, B.res, by omega, Nat.le_refl _, htl⟩ (below_drewN (Below.refl _ _) _)
 clear a0 a1 b0 b1 b2 z0 z1 z2 p0 p1 p2 hW hb1 hb2
 go_region_held3 (fun w' => w'.cell? ⟨w1.heap.size, 0, none⟩ = some (.bool (sgB e f b)) ∧ w'.cell? ⟨w.heap.size + 1, 0, none⟩ = some (cellOf w' (w.heap.size + 1) 0) ∧ w'.cell? ⟨w.heap.size + 1, 1, none⟩ = some (cellOf w' (w.heap.size + 1) 1) ∧ w'.cell? ⟨w.heap.size + 1, 2, none⟩ = some (cellOf w' (w.heap.size + 1) 2) ∧ w'.frozen? ⟨w.heap.size + 1, 0, none⟩ = false ∧ w'.frozen? ⟨w.heap.size + 1, 1, none⟩ = false ∧ w'.frozen? ⟨w.heap.size + 1, 2, none⟩ = false ∧ ValK (sgB e f b) w.heap.size w1.heap.size w w')
  ((first | exact ValK.conj hK.drew | (go_split_ands; exact ValK.conj (ValK.stay (by assumption) hbB)) | (go_split_ands; exact ValK.conj (ValK.set (by assumption) _ _ _)) | (go_keep; done)))
  (first | (go_at_call 115; (with_reducible refine (natOf_i (vN e f b) _ Hm.out _ (by omega)).mono ?_); rintro en wB ⟨ao, k, c, rfl, hFo, hbB⟩; have hbO := hbB) | (go_at_call 114; (with_reducible refine (exMake_i (sgB e f b) ao k c (limbs (vN e f b)) (vX e f b) _ Hx.out _ hFo.sl ?_).mono ?_); (go_split_ands; exact ValK.tab (by assumption)); rintro en wB ⟨am, nm, cm, rfl, hFm, hbB⟩))
 go_wp2
 have KO := ValK.stay hK.drew hbO
 have KB := KO.stay hbB
 obtain ⟨q1, q2, q3, q4⟩ := Hy.out
 have KS := KB.set (.bool (mkS (sgB e f b) (limbs (vN e f b)) (vX e f b))) (.slice am nm cm) (.int .i64 (mkX (limbs (vN e f b)) (vX e f b)))
 obtain ⟨t0, t1, t2⟩ := KB.res.box.set (.bool (mkS (sgB e f b) (limbs (vN e f b)) (vX e f b))) (.slice am nm cm) (.int .i64 (mkX (limbs (vN e f b)) (vX e f b)))
 have hlo := KO.res.box.lt
 have hfin := Fr.setCell (Fr.setCell (Fr.setCell hFm (p := ⟨w.heap.size + 1, 0, none⟩) hlo (.bool (mkS (sgB e f b) (limbs (vN e f b)) (vX e f b)))) (p := ⟨w.heap.size + 1, 1, none⟩) hlo (.slice am nm cm)) (p := ⟨w.heap.size + 1, 2, none⟩) hlo (.int .i64 (mkX (limbs (vN e f b)) (vX e f b)))
 refine bodyPost_ret (v := .tuple #[.agg #[.bool (mkS (sgB e f b) (limbs (vN e f b)) (vX e f b)), .slice am nm cm, .int .i64 (mkX (limbs (vN e f b)) (vX e f b))], .int .i64 (mkE (limbs (vN e f b)) (vX e f b))]) ?_ rfl ⟨am, nm, cm, by rw [q2, q3, q4], by rw [q1]; exact hfin.mono (by omega), KS.bel⟩
 clear KS hfin
 simp only [results, Tryz.results74]
 simp [go_sem, t0, t1, t2]
theorem value_small (e f b : Nat) (w : World) (h : formE (e : Int) (f : Int) = 0) (hb : b < 18446744073709551616) (hp : b < pw (1 + e + f)) (hx0 : exN e f b = 0) (hf0 : frN f b ≠ 0) (hxm : exN e f b ≠ maskN e) (hT : Tab w) :
 Calls Tryz.prog 74 #[.agg #[.int .i64 e, .int .i64 f], .int .u64 b] w (Valued (e : Int) (f : Int) b w) := by
 obtain ⟨h1, h2, h3, h4⟩ := formE_ok h
 have g1 : 2 ≤ e := by omega
 have g2 : e ≤ 11 := by omega
 have g3 : f ≤ 52 := by omega
 have hble := biasN_le g2
 have hmb : exN e f b ≤ 2047 := by have := exN_lt e f b; have := pw_le g2; have e11 : pw 11 = 2048 := (by unfold pw; rfl); omega
 have hc : classN e (exN e f b) (frN f b) = 2 := by unfold classN; rw [if_pos hx0, if_neg hf0]
 have cl := class_any e f b
 rw [hc] at cl
 have hvn := vN_lt (e := e) (b := b) g3
 have hmant : (frN f b : Int) = ((vN e f b : Nat) : Int) := by unfold vN; rw [if_pos hx0]
 have hexp : wrap64 (wrap64 (2 - wrap64 (2 ^ (e - 1))) - (f : Int)) = vX e f b := by 
  unfold vX
  rw [if_pos hx0, bias_two g1 g2, IntWalk.wrap64_in _ ⟨by omega, by omega⟩]
 have Hm := Lib.hid hmant
 have Hx := Lib.hid hexp
 have Hy := Lib.hid (val_yes (fitsE_ok h hp) hxm)
 have htl := hT.lt
 clear h1 h2 h3 h4 hc hmant hexp hx0 hxm hf0
 go_enter Tryz.func74, Tryz.ntmps74
 go_wp2_with (first
  | (go_at_call 109; refine (split_any e f b _ h hb hp).mono ?_; rintro en w1 ⟨rfl, hb1⟩; have A := ((box2_new w (.int .i64 (e : Int)) (.int .i64 (f : Int)) 31).alloc _).stay hb1; have ⟨a0, a1⟩ := A; have B := (box3_new _ _ _ _ _).stay hb1; rw [World.size_alloc] at B; have ⟨b0, b1, b2, z0, z1, z2⟩ := B; have hl := A.lt; have hl2 := B.lt; have hW := next (more (more (Below.refl _ _) _) _) hb1)
  | (go_at_call 70; refine (cl _ h hb hp).mono ?_; rintro en w2 ⟨rfl, hb2⟩; have P := (box3_new w1 (.bool (sgB e f b)) (.int .i64 (exN e f b : Int)) (.int .u64 (frN f b : Int)) 162).stay hb2; have ⟨p0, p1, p2, _, _, _⟩ := P; replace A := (A.alloc _).stay hb2; have ⟨a0, a1⟩ := A; replace B := (B.alloc _).stay hb2; have ⟨b0, b1, b2, z0, z1, z2⟩ := B; replace hW := next (more hW _) hb2))
 go_quiet (fail)
 go_wp2
 have hK : ValK (sgB e f b) w.heap.size w1.heap.size w (w2.drewN nq) := ValK.stay ⟨p0, hT.below hW, hW, B.res, by omega, Nat.le_refl _, htl⟩ (below_drewN (Below.refl _ _) _)
 clear a0 a1 b0 b1 b2 z0 z1 z2 p0 p1 p2 hW hb1 hb2
 go_region_held3 (fun w' => w'.cell? ⟨w1.heap.size, 0, none⟩ = some (.bool (sgB e f b)) ∧ w'.cell? ⟨w.heap.size + 1, 0, none⟩ = some (cellOf w' (w.heap.size + 1) 0) ∧ w'.cell? ⟨w.heap.size + 1, 1, none⟩ = some (cellOf w' (w.heap.size + 1) 1) ∧ w'.cell? ⟨w.heap.size + 1, 2, none⟩ = some (cellOf w' (w.heap.size + 1) 2) ∧ w'.frozen? ⟨w.heap.size + 1, 0, none⟩ = false ∧ w'.frozen? ⟨w.heap.size + 1, 1, none⟩ = false ∧ w'.frozen? ⟨w.heap.size + 1, 2, none⟩ = false ∧ ValK (sgB e f b) w.heap.size w1.heap.size w w')
  ((first | exact ValK.conj hK.drew | (go_split_ands; exact ValK.conj (ValK.stay (by assumption) hbB)) | (go_split_ands; exact ValK.conj (ValK.set (by assumption) _ _ _)) | (go_keep; done)))
  (first | (go_at_call 115; (with_reducible refine (natOf_i (vN e f b) _ Hm.out _ (by omega)).mono ?_); rintro en wB ⟨ao, k, c, rfl, hFo, hbB⟩; have hbO := hbB) | (go_at_call 114; (with_reducible refine (exMake_i (sgB e f b) ao k c (limbs (vN e f b)) (vX e f b) _ Hx.out _ hFo.sl ?_).mono ?_); (go_split_ands; exact ValK.tab (by assumption)); rintro en wB ⟨am, nm, cm, rfl, hFm, hbB⟩))
 go_wp2
 have KO := ValK.stay hK.drew hbO
 have KB := KO.stay hbB
 obtain ⟨q1, q2, q3, q4⟩ := Hy.out
 have KS := KB.set (.bool (mkS (sgB e f b) (limbs (vN e f b)) (vX e f b))) (.slice am nm cm) (.int .i64 (mkX (limbs (vN e f b)) (vX e f b)))
 obtain ⟨t0, t1, t2⟩ := KB.res.box.set (.bool (mkS (sgB e f b) (limbs (vN e f b)) (vX e f b))) (.slice am nm cm) (.int .i64 (mkX (limbs (vN e f b)) (vX e f b)))
 have hlo := KO.res.box.lt
 have hfin := Fr.setCell (Fr.setCell (Fr.setCell hFm (p := ⟨w.heap.size + 1, 0, none⟩) hlo (.bool (mkS (sgB e f b) (limbs (vN e f b)) (vX e f b)))) (p := ⟨w.heap.size + 1, 1, none⟩) hlo (.slice am nm cm)) (p := ⟨w.heap.size + 1, 2, none⟩) hlo (.int .i64 (mkX (limbs (vN e f b)) (vX e f b)))
 refine bodyPost_ret (v := .tuple #[.agg #[.bool (mkS (sgB e f b) (limbs (vN e f b)) (vX e f b)), .slice am nm cm, .int .i64 (mkX (limbs (vN e f b)) (vX e f b))], .int .i64 (mkE (limbs (vN e f b)) (vX e f b))]) ?_ rfl ⟨am, nm, cm, by rw [q2, q3, q4], by rw [q1]; exact hfin.mono (by omega), KS.bel⟩
 clear KS hfin
 simp only [results, Tryz.results74]
 simp [go_sem, t0, t1, t2]
theorem value_zero (e f b : Nat) (w : World) (h : formE (e : Int) (f : Int) = 0) (hb : b < 18446744073709551616) (hp : b < pw (1 + e + f)) (hx0 : exN e f b = 0) (hf0 : frN f b = 0) (hxm : exN e f b ≠ maskN e) (hT : Tab w) :
 Calls Tryz.prog 74 #[.agg #[.int .i64 e, .int .i64 f], .int .u64 b] w (Valued (e : Int) (f : Int) b w) := by
 obtain ⟨h1, h2, h3, h4⟩ := formE_ok h
 have g1 : 2 ≤ e := by omega
 have g2 : e ≤ 11 := by omega
 have g3 : f ≤ 52 := by omega
 have hble := biasN_le g2
 have hmb : exN e f b ≤ 2047 := by have := exN_lt e f b; have := pw_le g2; have e11 : pw 11 = 2048 := (by unfold pw; rfl); omega
 have hc : classN e (exN e f b) (frN f b) = 1 := by unfold classN; rw [if_pos hx0, if_pos hf0]
 have cl := class_any e f b
 rw [hc] at cl
 have hvn := vN_lt (e := e) (b := b) g3
 have hmant : (frN f b : Int) = ((vN e f b : Nat) : Int) := by unfold vN; rw [if_pos hx0]
 have hexp : wrap64 (wrap64 (2 - wrap64 (2 ^ (e - 1))) - (f : Int)) = vX e f b := by 
  unfold vX
  rw [if_pos hx0, bias_two g1 g2, IntWalk.wrap64_in _ ⟨by omega, by omega⟩]
 have Hm := Lib.hid hmant
 have Hx := Lib.hid hexp
 have Hy := Lib.hid (val_yes (fitsE_ok h hp) hxm)
 have htl := hT.lt
 clear h1 h2 h3 h4 hc hmant hexp hx0 hxm hf0
 go_enter Tryz.func74, Tryz.ntmps74
 go_wp2_with (first
  | (go_at_call 109; refine (split_any e f b _ h hb hp).mono ?_; rintro en w1 ⟨rfl, hb1⟩; have A := ((box2_new w (.int .i64 (e : Int)) (.int .i64 (f : Int)) 31).alloc _).stay hb1; have ⟨a0, a1⟩ := A; have B := (box3_new _ _ _ _ _).stay hb1; rw [World.size_alloc] at B; have ⟨b0, b1, b2, z0, z1, z2⟩ := B; have hl := A.lt; have hl2 := B.lt; have hW := next (more (more (Below.refl _ _) _) _) hb1)
  | (go_at_call 70; refine (cl _ h hb hp).mono ?_; rintro en w2 ⟨rfl, hb2⟩; have P := (box3_new w1 (.bool (sgB e f b)) (.int .i64 (exN e f b : Int)) (.int .u64 (frN f b : Int)) 162).stay hb2; have ⟨p0, p1, p2, _, _, _⟩ := P; replace A := (A.alloc _).stay hb2; have ⟨a0, a1⟩ := A; replace B := (B.alloc _).stay hb2; have ⟨b0, b1, b2, z0, z1, z2⟩ := B; replace hW := next (more hW _) hb2))
 go_quiet (fail)
 go_wp2
 have hK : ValK (sgB e f b) w.heap.size w1.heap.size w (w2.drewN nq) := ValK.stay ⟨p0, hT.below hW, hW, B.res, by omega, Nat.le_refl _, htl⟩ (below_drewN (Below.refl _ _) _)
 clear a0 a1 b0 b1 b2 z0 z1 z2 p0 p1 p2 hW hb1 hb2
 go_region_held3 (fun w' => w'.cell? ⟨w1.heap.size, 0, none⟩ = some (.bool (sgB e f b)) ∧ w'.cell? ⟨w.heap.size + 1, 0, none⟩ = some (cellOf w' (w.heap.size + 1) 0) ∧ w'.cell? ⟨w.heap.size + 1, 1, none⟩ = some (cellOf w' (w.heap.size + 1) 1) ∧ w'.cell? ⟨w.heap.size + 1, 2, none⟩ = some (cellOf w' (w.heap.size + 1) 2) ∧ w'.frozen? ⟨w.heap.size + 1, 0, none⟩ = false ∧ w'.frozen? ⟨w.heap.size + 1, 1, none⟩ = false ∧ w'.frozen? ⟨w.heap.size + 1, 2, none⟩ = false ∧ ValK (sgB e f b) w.heap.size w1.heap.size w w')
  ((first | exact ValK.conj hK.drew | (go_split_ands; exact ValK.conj (ValK.stay (by assumption) hbB)) | (go_split_ands; exact ValK.conj (ValK.set (by assumption) _ _ _)) | (go_keep; done)))
  (first | (go_at_call 115; (with_reducible refine (natOf_i (vN e f b) _ Hm.out _ (by omega)).mono ?_); rintro en wB ⟨ao, k, c, rfl, hFo, hbB⟩; have hbO := hbB) | (go_at_call 114; (with_reducible refine (exMake_i (sgB e f b) ao k c (limbs (vN e f b)) (vX e f b) _ Hx.out _ hFo.sl ?_).mono ?_); (go_split_ands; exact ValK.tab (by assumption)); rintro en wB ⟨am, nm, cm, rfl, hFm, hbB⟩))
 go_wp2
 have KO := ValK.stay hK.drew hbO
 have KB := KO.stay hbB
 obtain ⟨q1, q2, q3, q4⟩ := Hy.out
 have KS := KB.set (.bool (mkS (sgB e f b) (limbs (vN e f b)) (vX e f b))) (.slice am nm cm) (.int .i64 (mkX (limbs (vN e f b)) (vX e f b)))
 obtain ⟨t0, t1, t2⟩ := KB.res.box.set (.bool (mkS (sgB e f b) (limbs (vN e f b)) (vX e f b))) (.slice am nm cm) (.int .i64 (mkX (limbs (vN e f b)) (vX e f b)))
 have hlo := KO.res.box.lt
 have hfin := Fr.setCell (Fr.setCell (Fr.setCell hFm (p := ⟨w.heap.size + 1, 0, none⟩) hlo (.bool (mkS (sgB e f b) (limbs (vN e f b)) (vX e f b)))) (p := ⟨w.heap.size + 1, 1, none⟩) hlo (.slice am nm cm)) (p := ⟨w.heap.size + 1, 2, none⟩) hlo (.int .i64 (mkX (limbs (vN e f b)) (vX e f b)))
 refine bodyPost_ret (v := .tuple #[.agg #[.bool (mkS (sgB e f b) (limbs (vN e f b)) (vX e f b)), .slice am nm cm, .int .i64 (mkX (limbs (vN e f b)) (vX e f b))], .int .i64 (mkE (limbs (vN e f b)) (vX e f b))]) ?_ rfl ⟨am, nm, cm, by rw [q2, q3, q4], by rw [q1]; exact hfin.mono (by omega), KS.bel⟩
 clear KS hfin
 simp only [results, Tryz.results74]
 simp [go_sem, t0, t1, t2]
theorem value_inf (e f b : Nat) (w : World) (h : formE (e : Int) (f : Int) = 0) (hb : b < 18446744073709551616) (hp : b < pw (1 + e + f)) (hxm : exN e f b = maskN e) (hf0 : frN f b = 0) :
 Calls Tryz.prog 74 #[.agg #[.int .i64 e, .int .i64 f], .int .u64 b] w (Valued (e : Int) (f : Int) b w) := by
 obtain ⟨h1, h2, h3, h4⟩ := formE_ok h
 have g1 : 2 ≤ e := by omega
 have g2 : e ≤ 11 := by omega
 have g3 : f ≤ 52 := by omega
 have hx0 : exN e f b ≠ 0 := by
  have := pw_le (show 2 ≤ e by omega)
  rw [show pw 2 = 4 by unfold pw; rfl] at this
  rw [hxm, maskN_eq]
  omega
 have hc : classN e (exN e f b) (frN f b) = 4 := by unfold classN; rw [if_neg hx0, if_pos hxm, if_pos hf0]
 have cl := class_any e f b
 rw [hc] at cl
 have Ho := Lib.hid (val_endless (fitsE_ok h hp) hxm).1
 have He := Lib.hid (val_endless (fitsE_ok h hp) hxm).2
 clear h1 h2 h3 h4 hc hx0 hxm hf0
 go_enter Tryz.func74, Tryz.ntmps74
 go_wp2_with (first
  | (go_at_call 109; refine (split_any e f b _ h hb hp).mono ?_; rintro en w1 ⟨rfl, hb1⟩; have A := ((box2_new w (.int .i64 (e : Int)) (.int .i64 (f : Int)) 31).alloc _).stay hb1; have ⟨a0, a1⟩ := A; have B := (box3_new _ _ _ _ _).stay hb1; rw [World.size_alloc] at B; have ⟨b0, b1, b2, z0, z1, z2⟩ := B; have hl := A.lt; have hl2 := B.lt; have hW := next (more (more (Below.refl _ _) _) _) hb1)
  | (go_at_call 70; refine (cl _ h hb hp).mono ?_; rintro en w2 ⟨rfl, hb2⟩; have P := (box3_new w1 (.bool (sgB e f b)) (.int .i64 (exN e f b : Int)) (.int .u64 (frN f b : Int)) 162).stay hb2; have ⟨p0, p1, p2, _, _, _⟩ := P; replace A := (A.alloc _).stay hb2; have ⟨a0, a1⟩ := A; replace B := (B.alloc _).stay hb2; have ⟨b0, b1, b2, z0, z1, z2⟩ := B; replace hW := next (more hW _) hb2))
 go_quiet (fail)
 go_wp2
 have Bq : Box3 (w2.drewN nq) (w.heap.size + 1) (.bool false) (.slice none 0 0) (.int .i64 0) := B.stay (below_drewN (Below.refl _ _) _)
 obtain ⟨t0, t1, t2⟩ := Bq.set (.bool false) (.slice none 0 0) (.int .i64 0)
 have hWq := drewn hW nq
 refine bodyPost_ret (v := .tuple #[.agg #[.bool false, .slice none 0 0, .int .i64 0], .int .i64 8]) ?_ rfl (valued_none Ho.out He.out (((hWq.setCell (by simp) _).setCell (by simp) _).setCell (by simp) _))
 simp only [results, Tryz.results74]
 simp [go_sem, t0, t1, t2]
theorem value_nan (e f b : Nat) (w : World) (h : formE (e : Int) (f : Int) = 0) (hb : b < 18446744073709551616) (hp : b < pw (1 + e + f)) (hxm : exN e f b = maskN e) (hf0 : frN f b ≠ 0) :
 Calls Tryz.prog 74 #[.agg #[.int .i64 e, .int .i64 f], .int .u64 b] w (Valued (e : Int) (f : Int) b w) := by
 obtain ⟨h1, h2, h3, h4⟩ := formE_ok h
 have g1 : 2 ≤ e := by omega
 have g2 : e ≤ 11 := by omega
 have g3 : f ≤ 52 := by omega
 have hx0 : exN e f b ≠ 0 := by
  have := pw_le (show 2 ≤ e by omega)
  rw [show pw 2 = 4 by unfold pw; rfl] at this
  rw [hxm, maskN_eq]
  omega
 have hc : classN e (exN e f b) (frN f b) = 5 := by unfold classN; rw [if_neg hx0, if_pos hxm, if_neg hf0]
 have cl := class_any e f b
 rw [hc] at cl
 have Ho := Lib.hid (val_endless (fitsE_ok h hp) hxm).1
 have He := Lib.hid (val_endless (fitsE_ok h hp) hxm).2
 clear h1 h2 h3 h4 hc hx0 hxm hf0
 go_enter Tryz.func74, Tryz.ntmps74
 go_wp2_with (first
  | (go_at_call 109; refine (split_any e f b _ h hb hp).mono ?_; rintro en w1 ⟨rfl, hb1⟩; have A := ((box2_new w (.int .i64 (e : Int)) (.int .i64 (f : Int)) 31).alloc _).stay hb1; have ⟨a0, a1⟩ := A; have B := (box3_new _ _ _ _ _).stay hb1; rw [World.size_alloc] at B; have ⟨b0, b1, b2, z0, z1, z2⟩ := B; have hl := A.lt; have hl2 := B.lt; have hW := next (more (more (Below.refl _ _) _) _) hb1)
  | (go_at_call 70; refine (cl _ h hb hp).mono ?_; rintro en w2 ⟨rfl, hb2⟩; have P := (box3_new w1 (.bool (sgB e f b)) (.int .i64 (exN e f b : Int)) (.int .u64 (frN f b : Int)) 162).stay hb2; have ⟨p0, p1, p2, _, _, _⟩ := P; replace A := (A.alloc _).stay hb2; have ⟨a0, a1⟩ := A; replace B := (B.alloc _).stay hb2; have ⟨b0, b1, b2, z0, z1, z2⟩ := B; replace hW := next (more hW _) hb2))
 go_quiet (fail)
 go_wp2
 have Bq : Box3 (w2.drewN nq) (w.heap.size + 1) (.bool false) (.slice none 0 0) (.int .i64 0) := B.stay (below_drewN (Below.refl _ _) _)
 obtain ⟨t0, t1, t2⟩ := Bq.set (.bool false) (.slice none 0 0) (.int .i64 0)
 have hWq := drewn hW nq
 refine bodyPost_ret (v := .tuple #[.agg #[.bool false, .slice none 0 0, .int .i64 0], .int .i64 8]) ?_ rfl (valued_none Ho.out He.out (((hWq.setCell (by simp) _).setCell (by simp) _).setCell (by simp) _))
 simp only [results, Tryz.results74]
 simp [go_sem, t0, t1, t2]
theorem value_any (e f : Int) (b : Nat) (w : World) (hb : b < 18446744073709551616) (hT : Tab w) :
 Calls Tryz.prog 74 #[.agg #[.int .i64 e, .int .i64 f], .int .u64 b] w (Valued e f b w) := by
 by_cases hF : fitsE e f b = 0
 · have h : formE e f = 0 := by
    apply Classical.byContradiction
    intro hn
    rw [fitsE_form hn] at hF
    exact hn hF
   obtain ⟨h1, h2, h3, h4⟩ := formE_ok h
   obtain ⟨e, rfl⟩ := Int.eq_ofNat_of_zero_le (by omega : 0 ≤ e)
   obtain ⟨f, rfl⟩ := Int.eq_ofNat_of_zero_le (by omega : 0 ≤ f)
   have hp : b < pw (1 + e + f) := by
    apply Classical.byContradiction
    intro hn
    rw [fitsE_bits h hn] at hF
    cases hF
   by_cases hxm : exN e f b = maskN e
   · by_cases hf0 : frN f b = 0
     · exact value_inf e f b w h hb hp hxm hf0
     · exact value_nan e f b w h hb hp hxm hf0
   · by_cases hx0 : exN e f b = 0
     · by_cases hf0 : frN f b = 0
       · exact value_zero e f b w h hb hp hx0 hf0 hxm hT
       · exact value_small e f b w h hb hp hx0 hf0 hxm hT
     · exact value_normal e f b w h hb hp hx0 hxm hT
 · exact value_no e f b w hF hb
end Go.Proofs.YtoiifhmepniniaaGreatDoor
