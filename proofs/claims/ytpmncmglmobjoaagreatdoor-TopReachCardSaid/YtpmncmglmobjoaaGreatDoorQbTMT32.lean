/-
  Plain: the floats by Down and Up lie one on each side of a fraction, with none between; which of the two the others take. No program in sight.
-/
import Derived.Test.YtpmncmglmobjoaaGreatDoorQbTMT31
set_option maxHeartbeats 4000000
set_option maxRecDepth 100000
namespace Go.Proofs.YtpmncmglmobjoaaGreatDoor
open Go.RowKit Go.Lb
theorem fl_within {E F N D : Nat} {s : Bool} (hE : 2 ≤ E) (hN : N ≠ 0) (hD : D ≠ 0) (hl : lwE E N D ≤ bsN E) :
 scN N (F - lwE E N D) / scD D (F - lwE E N D) + (lwE E N D + bsN E - 1).toNat * 2 ^ F < infN E F ∧
 ∀ m, m < 5 → flB E F N D s m = Lb.sgB E F N D s m ∧ Lb.sgB E F N D s m ≤ infN E F ∧ sgM E F N D s m ≤ 2 ^ (F + 1) ∧
  (2 ^ F ≤ sgM E F N D s m ∨ lwE E N D = 1 - (bsN E : Int)) ∧
  ((Lb.sgX E F N D = true ∧ flG E F N D s m = 0) ∨ (Lb.sgX E F N D = false ∧ (flG E F N D s m = 1 ∨ flG E F N D s m = 3 ∨ flG E F N D s m = 5))) := by
 have hp := scD_pos (Nat.pos_of_ne_zero hD) ((F : Int) - lwE E N D)
 have hq : scN N (F - lwE E N D) / scD D (F - lwE E N D) < 2 ^ (F + 1) := by
  rw [Nat.div_lt_iff_lt_mul hp]
  rcases lw_cases E N D with h | ⟨h, _⟩
  · rw [h]
    exact (sc_norm hD (lg_spec hN hD) F).2
  · refine Nat.lt_of_lt_of_le (sc_low hD (lg_spec hN hD) h F) (Nat.mul_le_mul_right _ (Nat.pow_le_pow_right (by decide) (by omega)))
 have hinf := inf_eq hE F
 have hge := lw_ge E N D
 have hbs : 1 ≤ bsN E := by
  unfold bsN
  have : 2 ^ 1 ≤ 2 ^ (E - 1) := Nat.pow_le_pow_right (by decide) (by omega)
  omega
 have hm0 : (lwE E N D + bsN E - 1).toNat * 2 ^ F + 2 ^ (F + 1) ≤ infN E F := by
  rw [hinf, Nat.pow_succ, Nat.mul_comm (2 ^ F) 2, ← Nat.add_mul]
  exact Nat.mul_le_mul_right _ (by omega)
 refine ⟨by omega, fun m hm => ?_⟩
 have hM := sg_le (E := E) (F := F) hN hD s m
 have hB : Lb.sgB E F N D s m = sgM E F N D s m + (lwE E N D + bsN E - 1).toNat * 2 ^ F := rfl
 have hlow : 2 ^ F ≤ sgM E F N D s m ∨ lwE E N D = 1 - (bsN E : Int) := by
  rcases lw_cases E N D with h | ⟨_, h⟩
  · exact .inl (sg_ge hN hD s m h)
  · exact .inr h
 have hX : Lb.sgX E F N D = true → sgM E F N D s m = scN N (F - lwE E N D) / scD D (F - lwE E N D) := fun h => by
  have h0 : scN N (F - lwE E N D) % scD D (F - lwE E N D) = 0 := of_decide_eq_true h
  unfold sgM rdN
  rw [if_pos h0]
 have hst : stayB s m = true → sgM E F N D s m = scN N (F - lwE E N D) / scD D (F - lwE E N D) := fun h => by
  obtain ⟨h2, h3, h4⟩ := sides_rd (scN N (F - lwE E N D)) (scD D (F - lwE E N D)) s
  have h5 : m = 2 ∨ m = 3 ∧ s = true ∨ m = 4 ∧ s = false := of_decide_eq_true h
  unfold sgM
  rcases h5 with rfl | ⟨rfl, h6⟩ | ⟨rfl, h6⟩
  · exact h2
  · rw [h3, if_pos h6]; rfl
  · rw [h4, if_neg (by rw [h6]; decide)]; rfl
 refine ⟨?_, by omega, hM, hlow, ?_⟩
 · unfold flB
   by_cases ho : ovB E F N D s m = true
   · have h1 : (bsN E : Int) < lwE E N D ∨ infN E F ≤ Lb.sgB E F N D s m := of_decide_eq_true ho
     rw [if_pos ho]
     by_cases h2 : stayB s m = true
     · have := hst h2
       omega
     · rw [if_neg h2]
       omega
   · rw [if_neg ho]
 · unfold flG
   by_cases hx : Lb.sgX E F N D = true
   · left
     have h2 := hX hx
     refine ⟨hx, ?_⟩
     rw [if_neg, if_pos hx]
     intro ho
     have h1 : (bsN E : Int) < lwE E N D ∨ infN E F ≤ Lb.sgB E F N D s m := of_decide_eq_true ho
     omega
   · right
     refine ⟨by simpa using hx, ?_⟩
     rw [if_neg hx]
     split
     · simp
     · split <;> simp
theorem fits_bits {E F b : Nat} (hf : formE (E : Int) (F : Int) = 0) (hb : b < pw (1 + E + F)) : fitsE (E : Int) (F : Int) b = 0 := by
 unfold fitsE
 rw [if_neg (by simp [hf]), if_pos (by simpa using hb)]
theorem beyond_lt {E F N D : Nat} (hE : 2 ≤ E) (hN : N ≠ 0) (hD : D ≠ 0) (hl : (bsN E : Int) < lwE E N D) : 2 ^ (F + 1) * scD D (F - bsN E) ≤ scN N (F - bsN E) := by
 have hbs : 1 ≤ bsN E := by
  unfold bsN
  have : 2 ^ 1 ≤ 2 ^ (E - 1) := Nat.pow_le_pow_right (by decide) (by omega)
  omega
 have he : lwE E N D = lgE N D := by
  rcases lw_cases E N D with h | ⟨_, h⟩
  · exact h
  · omega
 obtain ⟨h1, _⟩ := lg_spec hN hD
 rw [← he] at h1
 obtain ⟨j, hj⟩ : ∃ j : Nat, (F : Int) - bsN E = -lwE E N D + (j : Int) := ⟨(F - bsN E + lwE E N D).toNat, by omega⟩
 have hs := sc_step N D (-lwE E N D) j
 rw [← hj] at hs
 have hp := scD_pos (Nat.pos_of_ne_zero hD) (-lwE E N D)
 have h2 : 2 ^ (F + 1) ≤ 2 ^ j := Nat.pow_le_pow_right (by decide) (by omega)
 refine Nat.le_of_mul_le_mul_right ?_ hp
 rw [hs, Nat.mul_right_comm]
 refine Nat.mul_le_mul_right _ ?_
 rw [Nat.mul_comm]
 exact Nat.mul_le_mul h1 h2
theorem gN_top {e f b : Nat} (he : 2 ≤ e) (hx : exN e f b ≠ maskN e) : gN e f b < 2 ^ (f + 2 * biasN e) := by
 have hm := mask_bias he
 have h0 : exN e f b ≤ maskN e := by
  have h1 := exN_lt e f b
  unfold maskN
  unfold pw at h1
  omega
 have hb : 1 ≤ biasN e := by
  unfold biasN
  have : 2 ^ 1 ≤ 2 ^ (e - 1) := Nat.pow_le_pow_right (by decide) (by omega)
  omega
 have h1 := vN_top e f b
 have h2 : vX e f b ≤ (biasN e : Int) - f := by
  unfold vX
  split <;> omega
 unfold gN upW baseI
 unfold pw at h1
 rw [show f + 2 * biasN e = f + 1 + (2 * biasN e - 1) by omega, Nat.pow_add]
 exact Nat.mul_lt_mul_of_lt_of_le h1 (Nat.pow_le_pow_right (by decide) (by omega)) (Nat.two_pow_pos _)
def hgB (neg odd : Bool) (c : Int) (left : Bool) (mode : Nat) : Bool :=
 if mode = 0 then decide (0 < c ∨ c = 0 ∧ odd = true) else if mode = 1 then decide (0 ≤ c) else if mode = 3 then left && !neg else if mode = 4 then left && neg else false
theorem fitsE_parts {e f : Int} {b : Nat} (h : fitsE e f b = 0) : formE e f = 0 ∧ b < pw (1 + e.toNat + f.toNat) := by
 unfold fitsE at h
 by_cases h0 : formE e f = 0
 · rw [if_neg (by simp [h0])] at h
   split at h
   · exact ⟨h0, by assumption⟩
   · cases h
 · rw [if_pos h0] at h
   exact absurd h h0
theorem pw_top {k : Nat} (h : k ≤ 63) : IntKind.u64.wrap (2 ^ k) = ((pw k : Nat) : Int) := by
 have hp : pw k ≤ 9223372036854775808 := by have := pw_le h; rw [show pw 63 = 9223372036854775808 by unfold pw; rfl] at this; exact this
 rw [show (2 : Int) ^ k = ((pw k : Nat) : Int) by unfold pw; rw [Int.natCast_pow]; rfl]
 exact IntWalk.u64_in _ (by omega)
theorem and_top {b k : Nat} (h : b < 2 * pw k) (hk : k ≤ 63) : bits .and .u64 (b : Int) (pw k : Int) = ((if b < pw k then 0 else pw k : Nat) : Int) := by
 have hp : pw k ≤ 9223372036854775808 := by have := pw_le hk; rw [show pw 63 = 9223372036854775808 by unfold pw; rfl] at this; exact this
 rw [u64_and_nat _ _ (by omega) (by omega)]
 congr 1
 by_cases hl : b < pw k
 · rw [if_pos hl]
   refine Nat.eq_of_testBit_eq fun i => ?_
   rw [Nat.testBit_and, Nat.zero_testBit]
   unfold pw at *
   rw [Nat.testBit_two_pow]
   by_cases hik : k = i
   · subst hik
     rw [Nat.testBit_lt_two_pow hl]
     rfl
   · simp [hik]
 · rw [if_neg hl]
   obtain ⟨r, hr⟩ : ∃ r, b = pw k + r := ⟨b - pw k, by omega⟩
   have hrl : r < pw k := by omega
   have hb : b = pw k ||| r := by
    have := Nat.two_pow_add_eq_or_of_lt (i := k) (b := r) (by unfold pw at hrl; exact hrl) 1
    rw [Nat.mul_one] at this
    rw [hr]
    unfold pw
    exact this
   refine Nat.eq_of_testBit_eq fun i => ?_
   rw [hb, Nat.testBit_and, Nat.testBit_or]
   unfold pw
   rw [Nat.testBit_two_pow]
   by_cases hik : k = i <;> simp [hik]
def nanB (e f b : Nat) : Bool := decide (exN e f b = maskN e ∧ frN f b ≠ 0)
theorem set3_other {w : World} {b p : Nat} {u v x : Value} (h : Box3 w b u v x) (hne : b ≠ p) (r0 r1 r2 : Value) : Box3 (((w.setCell ⟨p, 0, none⟩ r0).setCell ⟨p, 1, none⟩ r1).setCell ⟨p, 2, none⟩ r2) b u v x :=
 ⟨(cell_set3 hne r0 r1 r2).trans h.c0, (cell_set3 hne r0 r1 r2).trans h.c1, (cell_set3 hne r0 r1 r2).trans h.c2, by simp [h.z0], by simp [h.z1], by simp [h.z2]⟩
theorem Bd.parts {N : Nat} {x b : Int} {K : Nat} (h : Bd N x b K) (h0 : N ≠ 0) : N < 2 ^ K ∧ b ≤ x ∧ x < b + K := by
 have hlo := h.low h0
 have hup := h.top
 unfold upW at hup
 have h1 : 2 ^ (x - b).toNat ≤ N * 2 ^ (x - b).toNat := Nat.le_mul_of_pos_left _ (Nat.pos_of_ne_zero h0)
 have h2 := (Nat.pow_lt_pow_iff_right (by decide : 1 < 2)).1 (Nat.lt_of_le_of_lt h1 hup)
 have h3 : N ≤ N * 2 ^ (x - b).toNat := Nat.le_mul_of_pos_right _ (Nat.two_pow_pos _)
 exact ⟨Nat.lt_of_le_of_lt h3 hup, hlo, by omega⟩
theorem Bd.small {s : Bool} {N : Nat} {x b : Int} {K j : Nat} (h : Bd N x b K) (hy : Dy s N x) (hj : K ≤ 32 * j) : (limbs N).length ≤ j ∧ (b ≤ x ∨ x = 0) ∧ (x < b + K ∨ x = 0) := by
 by_cases h0 : N = 0
 · obtain ⟨_, hx⟩ := hy.zero h0
   rw [h0, limbs_zero]
   exact ⟨by simp, .inr hx, .inr hx⟩
 · obtain ⟨h1, h2, h3⟩ := h.parts h0
   exact ⟨len_pow h1 hj, .inl h2, .inl h3⟩
theorem sum_bd {s t : Bool} {N M : Nat} {x y b : Int} {K : Nat} (h1 : Dy s N x) (h2 : Dy t M y) (g1 : Bd N x b K) (g2 : Bd M y b K) (hK : K + 1 ≤ 524288) (hb1 : -1073741824 ≤ b) (hb2 : b + K + 1 ≤ 1073741824) (D : Ds) (hD : D = addA s (limbs N) x t (limbs M) y) :
 D.e = 0 ∧ Dy D.s D.N D.x ∧ Bd D.N D.x b (K + 1) := by
 have h0 := addA_ok h1 h2 g1 g2 hK hb1 hb2
 have hw := addA_worth h1 h2 g1.low g2.low h0
 rw [← hD] at h0 hw
 refine ⟨h0, hw.dy, hw.bd ?_⟩
 have e1 := wI_abs s N x b
 have e2 := wI_abs t M y b
 have t1 := g1.top
 have t2 := g2.top
 rw [Nat.pow_succ]
 generalize wI s N x b = u at *
 generalize wI t M y b = v at *
 omega
theorem val_bd {e f a : Nat} (hf : formE (e : Int) (f : Int) = 0) (pa : a < pw (1 + e + f)) (xa : exN e f a ≠ maskN e) :
 Dy (valS (e : Int) (f : Int) a) (valN (e : Int) (f : Int) a) (valX (e : Int) (f : Int) a) ∧ Bd (valN (e : Int) (f : Int) a) (valX (e : Int) (f : Int) a) (baseI e f) (f + 2 * biasN e) := by
 obtain ⟨q1, q2, q3, q4⟩ := formE_ok hf
 obtain ⟨_, wa⟩ := valD_ok (fits_bits hf pa) xa (by omega) (by omega)
 exact ⟨wa.dy, wa.bd (by rw [sgI_abs]; exact gN_top (by omega) xa)⟩
theorem base_small {e f : Nat} (hf : formE (e : Int) (f : Int) = 0) : -1100 ≤ baseI e f ∧ baseI e f ≤ 0 ∧ baseI e f + ((f + 2 * biasN e : Nat) : Int) ≤ 1024 ∧ f + 2 * biasN e ≤ 2098 := by
 obtain ⟨q1, q2, q3, q4⟩ := formE_ok hf
 have hb := bias_small (e := e) (by omega)
 have h1 : 1 ≤ biasN e := by
  unfold biasN
  have : 2 ^ 1 ≤ 2 ^ (e - 1) := Nat.pow_le_pow_right (by decide) (by omega)
  omega
 unfold baseI
 omega
section
attribute [local go_sem ↓] Go.wp_at_zero Go.wp_at_succ
theorem bgBy_sl (a1 a2 : Option Addr) (n1 n2 c1 c2 N G : Nat) (w : World) (h1 : Sl w a1 n1 c1 (limbs N)) (h2 : Sl w a2 n2 c2 (limbs G)) (hn : n1 ≤ 1073741824) (h0 : G ≠ 0) :
 Calls Tryz.prog 134 #[.slice a1 n1 c1, .slice a2 n2 c2] w fun e w' => ∃ ao k c, e = .returned (.slice ao k c) ∧ Sl w' ao k c (limbs (N / G)) ∧ k ≤ n1 ∧ Below w.heap.size w w' := by
 have hG : val (limbs G) = G := val_limbs' G
 have hN : val (limbs N) = N := val_limbs' N
 refine (bgBy_any a1 a2 n1 n2 c1 c2 (limbs N) (limbs G) w h1 h2 (fine_limbs _) (fine_limbs _) hn (by rw [hG]; exact h0)).mono ?_
 rintro e w' ⟨ao, k, c, rfl, hS, _, hb⟩
 rw [hN, hG] at hS
 refine ⟨ao, k, c, rfl, hS, ?_, hb⟩
 rw [← hS.len, ← h1.len]
 exact ln_div N G
end
section
attribute [local go_sem ↓] Go.wp_at_zero Go.wp_at_succ
theorem bgRSetInt_any (b base B1 b1 : Nat) (x : Int) (w : World) (hr : Res3 w b) (hbb : base ≤ b) (h1 : Iz 40 w B1 b1 x) (l1 : ln x.natAbs ≤ 4294967296) :
 Calls Tryz.prog 131 #[.pointer (some ⟨b, 0, none⟩), .pointer (some ⟨b1, 0, none⟩)] w (StQ 40 b base (x : Rat) w) := by
 have hbl := hr.lt
 have hS := bgSetZ_any b base B1 b1 x w hr.zc (by omega) h1 l1
 go_enter Tryz.func131, Tryz.ntmps131
 go_wp2_with fail
 refine hS.mono ?_
 rintro e w2 hS
 obtain ⟨ao, k, c, w1, rfl, hb1, hF, hne, rfl⟩ := hS
 have R1 := hr.stay hb1
 have hI := setIn_in R1.zc (decide (x < 0)) hF hne hbb
 have R2 := R1.setIn (decide (x < 0)) (.slice ao k c)
 have G := grown_trans (grown_below hb1 (some b)) (setIn_grown w1 b (decide (x < 0)) (.slice ao k c))
 generalize setIn w1 b (decide (x < 0)) (.slice ao k c) = w2 at *
 have cc2 := R2.c2
 have cz2 := R2.z2
 go_wp2
 go_ret
 refine ⟨rfl, ?_, grown_trans G (grown_set _ _ _ _)⟩
 exact ra_of (s := decide (x < 0)) (N := x.natAbs) (D := 1) hI R2 (ds := []) (fr_nil _ _ _) ⟨by decide, .inr ⟨rfl, rfl⟩⟩ (by simp [blkOf])
theorem bgRSetInt64_any (b base : Nat) (x : Int) (w : World) (hr : Res3 w b) (hbb : base ≤ b) (hx : -9223372036854775808 ≤ x ∧ x ≤ 9223372036854775807) :
 Calls Tryz.prog 83 #[.pointer (some ⟨b, 0, none⟩), .int .i64 x] w (StQ 40 b base (x : Rat) w) := by
 have hN := bgNewZ_any x w hx
 have hl : Hid (ln x.natAbs ≤ 4294967296) := Lib.hid (Nat.le_trans (ln_small2 (by omega)) (by decide))
 clear hx
 go_enter Tryz.func83, Tryz.ntmps83
 go_wp2_with fail
 refine hN.mono ?_
 rintro e w1 ⟨b1, rfl, hI, hb1⟩
 go_wp2_with fail
 refine (bgRSetInt_any b base _ b1 x w1 (hr.stay hb1) hbb hI hl.out).mono ?_
 rintro e w2 hS
 obtain rfl := hS.1
 go_wp2
 go_ret
 exact hS.pre hb1
end
section
attribute [local go_sem ↓] Go.wp_at_zero Go.wp_at_succ
theorem bgRbelow2_any (b base : Nat) (s : Bool) (N D : Nat) (w : World) (h : Ra 40 w base b s N D) :
 Calls Tryz.prog 132 #[.pointer (some ⟨b, 0, none⟩)] w fun e w' => ∃ ao k c, e = .returned (.slice ao k c) ∧ Sl w' ao k c (limbs D) ∧ Below w.heap.size w w' ∧ ∀ p, p < w.heap.size → Hd 40 w p → blkOf ao ≠ some p := by
 obtain ⟨_, ⟨ad, kd, cd, ds, h2, hf, ⟨hD, hd⟩, hn⟩, _⟩ := h
 by_cases hk : kd = 0
 · have hl : ds = [] := List.length_eq_zero_iff.1 (by rw [hf.sl.len]; exact hk)
   have hD1 : D = 1 := by
    rcases hd with hd | ⟨_, hd⟩
    · have := val_limbs' D
      rw [← hd, hl] at this
      exact absurd this (by simp [val]; omega)
    · exact hd
   subst hk
   have hl1 : Hid (limbs D = [1]) := Lib.hid (by rw [hD1]; decide)
   have ho := own_sl (bgOwn_one w 1) (by intro x hx; simp at hx; omega)
   clear hf hd hl hD1
   go_enter Tryz.func132, Tryz.ntmps132
   go_wp2
   go_ret
   exact ⟨_, _, _, rfl, by rw [hl1.out]; exact ho, more (Below.refl _ _) _, fun p hp _ h => by have : w.heap.size = p := Option.some.inj h; omega⟩
 · have hk1 : ((kd : Int) == 0) = false := by simp [hk]
   have hds : ds = limbs D := by
    rcases hd with hd | ⟨hd, _⟩
    · exact hd
    · exact absurd (by rw [← hf.sl.len, hd]; rfl) hk
   subst hds
   have hs := hf.sl
   have HB : Hid (∀ p, Hd 40 w p → blkOf ad ≠ some p) := Lib.hid (fun p hp => fr_hd hf hp)
   clear hf hd hk
   go_enter Tryz.func132, Tryz.ntmps132
   go_wp2
   go_ret
   exact ⟨_, _, _, rfl, hs, Below.refl _ _, fun p _ hp => HB.out p hp⟩
theorem bgRAdded_any (b base B1 B2 b1 b2 : Nat) (t : Bool) (x y z : Rat) (w : World) (hr : Res3 w b) (hnw : Hd 40 w b) (hbb : base ≤ b) (h1 : Rq 40 w B1 b1 x) (h2 : Rq 40 w B2 b2 y) (hz : z.den = y.den) (hzn : z.num = sgv (decide (y.num < 0) != t) y.num.natAbs) (l1 : ln x.num.natAbs ≤ 8388608) (l2 : ln x.den ≤ 8388608) (l3 : ln y.num.natAbs ≤ 8388608) (l4 : ln y.den ≤ 8388608) (hT : Tab w) :
 Calls Tryz.prog 84 #[.pointer (some ⟨b, 0, none⟩), .pointer (some ⟨b1, 0, none⟩), .pointer (some ⟨b2, 0, none⟩), .bool t] w (StQ 40 b base (x + z) w) := by
 have hbl := hr.lt
 have hP := added_parts x z
 rw [hz] at hP
 have hZ : addZ x z = sgv (decide (x.num < 0)) (x.num.natAbs * (y.den / Nat.gcd x.den y.den)) + sgv (decide (y.num < 0) != t) (y.num.natAbs * (x.den / Nat.gcd x.den y.den)) := by
  unfold addZ
  rw [hz, hzn]
  congr 1
  · conv => lhs; arg 1; rw [← sgv_of x.num]
    exact sgv_times _ _ _
  · exact sgv_times _ _ _
 have hB1 : Calls Tryz.prog 132 #[.pointer (some ⟨b1, 0, none⟩)] w fun e w' => ∃ ao k c, e = .returned (.slice ao k c) ∧ Sl w' ao k c (limbs x.den) ∧ Below w.heap.size w w' ∧ ∀ p, p < w.heap.size → Hd 40 w p → blkOf ao ≠ some p := bgRbelow2_any b1 B1 _ _ _ w h1
 have hB2 : ∀ W, Below w.heap.size w W → Calls Tryz.prog 132 #[.pointer (some ⟨b2, 0, none⟩)] W fun e w' => ∃ ao k c, e = .returned (.slice ao k c) ∧ Sl w' ao k c (limbs y.den) ∧ Below W.heap.size W w' ∧ ∀ p, p < W.heap.size → Hd 40 W p → blkOf ao ≠ some p := fun W hW => bgRbelow2_any b2 B2 _ _ _ W (Ra.stay h2 hW)
 obtain ⟨⟨a1, n1, c1, i1⟩, _, _⟩ := h1
 obtain ⟨⟨a2, n2, c2, i2⟩, _, _⟩ := h2
 have hn1 : n1 ≤ 8388608 := by rw [i1.len]; exact l1
 have hn2 : n2 ≤ 8388608 := by rw [i2.len]; exact l3
 have hg0 : Nat.gcd x.den y.den ≠ 0 := Nat.ne_of_gt (Nat.gcd_pos_of_pos_left _ x.den_pos)
 have hzero : addZ x z = 0 → x + z = 0 := addZ_zero
 have hdx0 : 0 < x.den / Nat.gcd x.den y.den := Nat.div_gcd_pos_of_pos_left _ x.den_pos
 have hdyl := Nat.le_of_dvd y.den_pos (Nat.gcd_dvd_right x.den y.den)
 have hgy := Nat.gcd_dvd_right x.den y.den
 have hy0 := y.den_pos
 have s1 := i1.fr.sl
 have s2 := i2.fr.sl
 obtain ⟨d0, d1, _, _, _, _, _⟩ := i1
 obtain ⟨e0, e1, _, _, _, _, _⟩ := i2
 have lx : ln (x.num.natAbs * (y.den / Nat.gcd x.den y.den)) ≤ 16777216 := Nat.le_trans (ln_mul _ _) (by have := ln_div y.den (Nat.gcd x.den y.den); omega)
 have ly : ln (y.num.natAbs * (x.den / Nat.gcd x.den y.den)) ≤ 16777216 := Nat.le_trans (ln_mul _ _) (by have := ln_div x.den (Nat.gcd x.den y.den); omega)
 generalize hxy : x + z = q at *
 generalize addZ x z = Z at *
 generalize decide (x.num < 0) = sx at *
 generalize decide (y.num < 0) = sy at *
 generalize x.num.natAbs = X at *
 generalize y.num.natAbs = Y at *
 generalize x.den = D at *
 generalize y.den = E at *
 generalize hgg : Nat.gcd D E = g at *
 clear hxy hz hzn
 have HG := Lib.hid hgg
 have HG0 := Lib.hid hg0
 have HP := Lib.hid hP
 have HZ := Lib.hid hZ
 have HZ0 := Lib.hid hzero
 have L2 := Lib.hid l2
 have L4 := Lib.hid l4
 have LX := Lib.hid lx
 have LY := Lib.hid ly
 have HDX := Lib.hid hdx0
 have HGY := Lib.hid hgy
 have HY0 := Lib.hid hy0
 clear hgg hg0 hP hZ hzero l1 l2 l3 l4 lx ly hdx0 hdyl hgy hy0
 go_enter Tryz.func84, Tryz.ntmps84
 go_wp2_with fail
 refine hB1.mono ?_
 rintro e w1 ⟨ap, kp, cp, rfl, Sp, hb1, hpb0⟩
 have hpb : ∀ bb o, ap = some ⟨bb, o, none⟩ → some bb ≠ some b := fun bb o e hh => hpb0 b hbl hnw (by rw [e]; exact hh)
 clear hpb0
 have hkp : kp ≤ 8388608 := by rw [← Sp.len]; exact L2.out
 go_wp2_with fail
 refine (hB2 _ hb1).mono ?_
 rintro e w2 ⟨aq, kq, cq, rfl, Sq, hb2, hqb0⟩
 have hqb : ∀ bb o, aq = some ⟨bb, o, none⟩ → some bb ≠ some b := fun bb o e hh => hqb0 b (Nat.lt_of_lt_of_le hbl hb1.size) (hnw.stay hbl hb1) (by rw [e]; exact hh)
 clear hqb0
 have hkq : kq ≤ 8388608 := by rw [← Sq.len]; exact L4.out
 have W2 := next hb1 hb2
 have hCm := bgCommon_any ap aq kp kq cp cq (limbs D) (limbs E) w2 (Sp.below hb2) Sq (fine_limbs _) (fine_limbs _) (by omega) (by omega) (hT.below W2)
 rw [val_limbs', val_limbs', HG.out] at hCm
 go_wp2_with fail
 refine hCm.mono ?_
 rintro e w3 ⟨ag, kg, cg, rfl, Fg, hb3⟩
 have W3 := next W2 hb3
 have Sp3 := Sp.below (next hb2 hb3)
 have Sq3 := Sq.below hb3
 have Sg3 := Fg.sl
 have Fg3 := Fg
 have W2s : w.heap.size ≤ w2.heap.size := W2.size
 clear hCm Fg Sp Sq hb1 hb2 hb3 W2 hB1 hB2
 obtain ⟨W4, hW4⟩ : ∃ W4 : World, W4 = (w3.alloc (.cells #[.bool false, .slice none 0 0] 86)).alloc (.cells #[.bool false, .slice none 0 0] 86) := ⟨_, rfl⟩
 have B34 : Below w3.heap.size w3 W4 := hW4 ▸ more (more (Below.refl _ _) _) _
 have hbl3 : b < w3.heap.size := Nat.lt_of_lt_of_le hbl W3.size
 have ZA : Zc W4 w3.heap.size := by rw [hW4]; exact (zc_new w3 _ _ _).stay (more (Below.refl _ _) _)
 have ZB : Zc W4 (w3.heap.size + 1) := by
  have := zc_new (w3.alloc (.cells #[.bool false, .slice none 0 0] 86)) 86 (.bool false) (.slice none 0 0)
  rw [World.size_alloc] at this
  rw [hW4]
  exact this
 have W4b := next W3 B34
 have hs4 : W4.heap.size = w3.heap.size + 2 := by rw [hW4]; simp
 have HS4 := Lib.hid hs4
 clear hs4
 go_wp2_with fail
 rw [← hW4]
 clear hW4
 obtain ⟨A, hA⟩ : ∃ A, A = w3.heap.size := ⟨_, rfl⟩
 rw [← hA] at ZA ZB ⊢
 have HA := Lib.hid hA
 have V4 := B34
 have hAl : A < W4.heap.size := ZA.lt
 have hBl : A + 1 < W4.heap.size := ZB.lt
 have hA3 : w3.heap.size ≤ A := by rw [← hA]; exact Nat.le_refl _
 have d0' := cellStay d0 W4b
 have d1' := cellStay d1 W4b
 have hb1A : b1 ≠ A := by have := World.block_lt_of_cell? w ⟨b1, 0, none⟩ d0; have := W3.size; simp at *; omega
 have hb2A : b2 ≠ A + 1 := by have := World.block_lt_of_cell? w ⟨b2, 0, none⟩ e0; have := W3.size; simp at *; omega
 have hby1 : ∀ W, Below w3.heap.size w3 W → Calls Tryz.prog 134 #[.slice aq kq cq, .slice ag kg cg] W fun e w' => ∃ ao k c, e = .returned (.slice ao k c) ∧ Sl w' ao k c (limbs (E / g)) ∧ k ≤ kq ∧ Below W.heap.size W w' := fun W hW => bgBy_sl aq ag kq kg cq cg E g W (Sq3.below hW) (Sg3.below hW) (by omega) HG0.out
 have hby2 : ∀ W, Below w3.heap.size w3 W → Calls Tryz.prog 134 #[.slice ap kp cp, .slice ag kg cg] W fun e w' => ∃ ao k c, e = .returned (.slice ao k c) ∧ Sl w' ao k c (limbs (D / g)) ∧ k ≤ kp ∧ Below W.heap.size W w' := fun W hW => bgBy_sl ap ag kp kg cp cg D g W (Sp3.below hW) (Sg3.below hW) (by omega) HG0.out
 have hM1 : ∀ W a k c, Below w3.heap.size w3 W → Sl W a k c (limbs (E / g)) → k ≤ kq → Calls Tryz.prog 95 #[.slice a1 n1 c1, .slice a k c] W (Wd 40 (X * (E / g)) W) := fun W a k c hW hs hk => by
  have := bgMulW_any a1 a n1 k c1 c _ _ W (s1.below (next W3 hW)) hs (by omega) (by omega)
  rwa [val_limbs', val_limbs'] at this
 have hM2 : ∀ W a k c, Below w3.heap.size w3 W → Sl W a k c (limbs (D / g)) → k ≤ kp → Calls Tryz.prog 95 #[.slice a2 n2 c2, .slice a k c] W (Wd 40 (Y * (D / g)) W) := fun W a k c hW hs hk => by
  have := bgMulW_any a2 a n2 k c2 c _ _ W (s2.below (next W3 hW)) hs (by omega) (by omega)
  rwa [val_limbs', val_limbs'] at this
 clear hA
 generalize X * (E / g) = M1 at *
 generalize Y * (D / g) = M2 at *
 go_region_held3 (fun w' => w'.cell? ⟨b1, 0, none⟩ = some (.bool sx) ∧ w'.cell? ⟨b1, 1, none⟩ = some (.slice a1 n1 c1))
  ((first | exact ⟨p2, p3⟩ | exact ⟨o2, o3⟩ | exact ⟨f2, f3⟩ | (go_keep; done)))
  (first
    | (go_at_call 134; (with_reducible refine (hby1 _ ?_).mono ?_); (exact V4.drew); rintro en wA ⟨a3, k3, c3, rfl, S3, l3, hbA⟩; have f2 := cellStay d0' (undrew hbA); have f3 := cellStay d1' (undrew hbA); have VA := next V4.drew hbA; have ZA1 := ZA.stay (undrew hbA); have ZB1 := ZB.stay (undrew hbA))
    | (go_at_call 95; (with_reducible refine (hM1 _ _ _ _ ?_ ?_ ?_).mono ?_); (exact VA); (exact S3); (exact l3); rintro en wB ⟨a4, k4, c4, rfl, F4, hbB⟩; have o2 := cellStay f2 hbB; have o3 := cellStay f3 hbB; have VB := next VA hbB; have ZA2 := ZA1.stay hbB; have ZB2 := ZB1.stay hbB; have F4' := F4.mono (Nat.le_trans (show W4.heap.size ≤ W4.drew.heap.size from Nat.le_refl _) hbA.size))
    | (go_at_call 94; (with_reducible refine (bgSet_any A sx a4 k4 c4 M1 _ _ ZA2 F4').mono ?_); rintro en wC ⟨rfl, rfl⟩; have p2 := (setIn_other hb1A (nzB sx M1) (.slice a4 k4 c4)).trans o2; have p3 := (setIn_other hb1A (nzB sx M1) (.slice a4 k4 c4)).trans o3))
 have IA := setIn_in ZA2 (nzB sx M1) (F4'.mono (Nat.le_of_lt hAl)) (fr_ne F4' hAl) (Nat.le_refl _)
 have GA := setIn_grown wB A (nzB sx M1) (.slice a4 k4 c4)
 have FA := fr_grown F4' GA hAl
 have hs7 : W4.heap.size ≤ wB.heap.size := Nat.le_trans (Nat.le_trans (show W4.heap.size ≤ W4.drew.heap.size from Nat.le_refl _) hbA.size) hbB.size
 have hs7 := Nat.le_trans hs7 GA.size
 have VC := VB.grown GA VB.size (fun k hk => by cases hk; exact hA3)
 have ZB3 := ZB2.setOther (Nat.succ_ne_self A) (nzB sx M1) (.slice a4 k4 c4)
 generalize setIn wB A (nzB sx M1) (.slice a4 k4 c4) = wC at *
 clear p2 p3 o2 o3 f2 f3 VA VB ZA1 ZB1 ZA2 ZB2 F4 F4' GA hbA hbB S3 l3 hby1 hM1 d0' d1' hb1A
 have WC := next W3 VC
 have q0 := cellStay e0 WC
 have q1 := cellStay e1 WC
 go_wp2_with fail
 go_region_held3 (fun w' => w'.cell? ⟨b2, 0, none⟩ = some (.bool sy) ∧ w'.cell? ⟨b2, 1, none⟩ = some (.slice a2 n2 c2))
  ((first | exact ⟨p2, p3⟩ | exact ⟨o2, o3⟩ | exact ⟨f2, f3⟩ | (go_keep; done)))
  (first
    | (go_at_call 134; (with_reducible refine (hby2 _ ?_).mono ?_); (exact VC.drew); rintro en wD ⟨a5, k5, c5, rfl, S5, l5, hbD⟩; have f2 := cellStay q0 (undrew hbD); have f3 := cellStay q1 (undrew hbD); have VD := next VC.drew hbD; have ZB5 := ZB3.stay (undrew hbD); have IA5 := IA.stay (undrew hbD); have FA5 := FA.below (undrew hbD))
    | (go_at_call 95; (with_reducible refine (hM2 _ _ _ _ ?_ ?_ ?_).mono ?_); (exact VD); (exact S5); (exact l5); rintro en wE ⟨a6, k6, c6, rfl, F6, hbE⟩; have o2 := cellStay f2 hbE; have o3 := cellStay f3 hbE; have VE := next VD hbE; have ZB6 := ZB5.stay hbE; have IA6 := IA5.stay hbE; have FA6 := FA5.below hbE; have F6' := F6.mono (Nat.le_trans (Nat.le_trans hs7 (show wC.heap.size ≤ wC.drew.heap.size from Nat.le_refl _)) hbD.size))
    | (go_at_call 94; (with_reducible refine (bgSet_any (A + 1) (!(sy == t)) a6 k6 c6 M2 _ _ ZB6 F6').mono ?_); rintro en wF ⟨rfl, rfl⟩; have p2 := (setIn_other hb2A (nzB (!(sy == t)) M2) (.slice a6 k6 c6)).trans o2; have p3 := (setIn_other hb2A (nzB (!(sy == t)) M2) (.slice a6 k6 c6)).trans o3))
 have IB := setIn_in ZB6 (nzB (!(sy == t)) M2) (F6'.mono (Nat.le_of_lt hBl)) (fr_ne F6' hBl) (Nat.le_refl _)
 have GB := setIn_grown wE (A + 1) (nzB (!(sy == t)) M2) (.slice a6 k6 c6)
 have IA7 := IA6.other GB (Nat.ne_of_lt (Nat.lt_succ_self A)) (fr_ne FA6 hBl)
 have VF := VE.grown GB VE.size (fun k hk => by cases hk; omega)
 generalize setIn wE (A + 1) (nzB (!(sy == t)) M2) (.slice a6 k6 c6) = wF at *
 clear p2 p3 o2 o3 f2 f3 VC VD VE ZB3 ZB5 ZB6 IA IA5 IA6 FA FA5 FA6 F6 F6' GB hbD hbE S5 l5 hM2 q0 q1 hb2A
 have hIA : Iz 40 wF A A (sgv sx M1) := ⟨a4, k4, c4, by rw [(sgv_abs sx M1).1, (sgv_abs sx M1).2]; exact IA7⟩
 have hIB : Iz 40 wF (A + 1) (A + 1) (sgv (sy != t) M2) := ⟨a6, k6, c6, by rw [(sgv_abs (sy != t) M2).1, (sgv_abs (sy != t) M2).2]; exact IB⟩
 have hAdd := bgIAdd_any A A A (A + 1) A (A + 1) _ _ wF hIA.zc (Nat.le_of_lt hIA.lt) hIA hIB (by rw [(sgv_abs sx M1).1]; have := LX.out; omega) (by rw [(sgv_abs (sy != t) M2).1]; have := LY.out; omega)
 rw [← HZ.out] at hAdd
 have hzl : Hid (ln Z.natAbs ≤ 33554433) := Lib.hid (by
  rw [HZ.out]
  refine Nat.le_trans (ln_mono (Int.natAbs_add_le _ _)) ?_
  rw [(sgv_abs sx M1).1, (sgv_abs (sy != t) M2).1]
  exact Nat.le_trans (ln_add' _ _) (by have := LX.out; have := LY.out; omega))
 go_wp2_with fail
 refine hAdd.mono ?_
 rintro e w8 hS
 obtain ⟨rfl, hIZ, hgZ⟩ := hS.in_ hIA.zc (Nat.le_refl _)
 have V8 := VF.grown hgZ VF.size (fun k hk => by cases hk; exact hA3)
 clear hAdd hS hIA hIB hgZ VF IA7 IB
 have W8 := next W3 V8
 obtain ⟨az, kz, cz, iz⟩ := hIZ
 have hkz := iz.nil
 have R8 := hr.stay W8
 by_cases hZ0 : Z = 0
 · obtain rfl : kz = 0 := hkz.1 (by rw [hZ0]; rfl)
   have c1z := iz.c1
   have hq0 := HZ0.out hZ0
   obtain ⟨W9, hW9⟩ : ∃ W9 : World, W9 = w8.alloc (.cells #[.int .u32 1] 40) := ⟨_, rfl⟩
   have hb9 : Below w8.heap.size w8 W9 := hW9 ▸ more (Below.refl _ _) _
   have hF : Fr 40 W9 w8.heap.size (some ⟨w8.heap.size, 0, none⟩) 1 1 (limbs 1) := by
    have := fr_own (bgOwn_one w8 1) (by intro x hx; simp at hx; omega) (Nat.le_refl _) (Nat.le_refl _) (Nat.le_refl _)
    rw [hW9]
    exact this
   have hS := bgRSet_any b base w8.heap.size false none (some ⟨w8.heap.size, 0, none⟩) 0 1 0 1 0 1 W9 (R8.stay hb9) (fr_nil _ _ _) hF (by decide) (Nat.lt_of_lt_of_le hbl W8.size) hb9.size hbb (by decide) (by decide) (hT.below (next W8 hb9))
   rw [hW9] at hS
   clear hF hkz hZ0 iz HZ0
   go_wp2_with fail
   refine hS.mono ?_
   rintro e w10 ⟨rfl, hRa, hgR⟩
   go_wp2
   go_ret
   rw [hq0]
   rw [hW9] at hb9
   exact ⟨rfl, hRa, grown_trans (grown_below (next W8 hb9) _) hgR⟩
 · have hk0 : kz ≠ 0 := fun h => hZ0 (by have := hkz.2 h; omega)
   have j1 : ((kz : Int) == 0) = false := by simp [hk0]
   have hlz : kz ≤ 33554433 := by rw [iz.len]; exact hzl.out
   have sz := iz.fr.sl
   have c0z := iz.c0
   have c1z := iz.c1
   have hCm := bgCommon_any az ag kz kg cz cg (limbs Z.natAbs) (limbs g) w8 sz (Sg3.below V8) (fine_limbs _) (fine_limbs _) (by omega) (by rw [← Sg3.len]; exact Nat.le_trans (ln_mono (Nat.le_of_dvd HY0.out HGY.out)) (by have := L4.out; omega)) (hT.below W8)
   rw [val_limbs', val_limbs'] at hCm
   have hh0 : Nat.gcd Z.natAbs g ≠ 0 := Nat.ne_of_gt (Nat.gcd_pos_of_pos_right _ (Nat.pos_of_ne_zero HG0.out))
   have hZn : nzB (decide (Z < 0)) (Z.natAbs / Nat.gcd Z.natAbs g) = decide (Z < 0) := by
    unfold nzB
    have : Z.natAbs / Nat.gcd Z.natAbs g ≠ 0 := Nat.ne_of_gt (Nat.div_gcd_pos_of_pos_left _ (by omega))
    rw [decide_eq_true this, Bool.and_true]
   have hd0 : D / g * (E / Nat.gcd Z.natAbs g) ≠ 0 := by
    have := Nat.div_pos (Nat.le_of_dvd HY0.out (Nat.dvd_trans (Nat.gcd_dvd_right Z.natAbs g) HGY.out)) (Nat.pos_of_ne_zero hh0)
    exact Nat.ne_of_gt (Nat.mul_pos HDX.out this)
   have hbA : b ≠ A := by have := W3.size; omega
   have HP' := HP
   generalize Nat.gcd Z.natAbs g = h at *
   generalize decide (Z < 0) = s at *
   have HH := Lib.hid hh0
   have HD0 := Lib.hid hd0
   have HZN := Lib.hid hZn
   clear hZ0 hkz hk0 iz hh0 hd0 hZn HZ0 HP hzl
   go_wp2_with fail
   refine hCm.mono ?_
   rintro e w9 ⟨ah, kh, ch, rfl, Fh, hb9⟩
   have V9 := next V8 hb9
   have W9 := next W8 hb9
   have R9 := hr.stay W9
   have c0' := cellStay c0z hb9
   have c1' := cellStay c1z hb9
   have hby3 := bgBy_sl az ah kz kh cz ch Z.natAbs h w9.drew (sz.below hb9).drew Fh.sl.drew (by omega) HH.out
   clear hCm c0z c1z
   go_wp2_with fail
   go_region_held3 (fun w' => w'.cell? ⟨A, 0, none⟩ = some (.bool s) ∧ w'.cell? ⟨A, 1, none⟩ = some (.slice az kz cz))
    ((first | exact ⟨p2, p3⟩ | exact ⟨o2, o3⟩ | exact ⟨f2, f3⟩ | (go_keep; done)))
    (first
      | (go_at_call 134; (with_reducible refine hby3.mono ?_); rintro en wA ⟨a7, k7, c7, rfl, S7, l7, hbA'⟩; have f2 := cellStay c0' (undrew hbA'); have f3 := cellStay c1' (undrew hbA'); have XA := next (Below.refl _ _).drew hbA'; have hk7 : k7 ≤ 4294967296 := (by omega))
      | (go_at_call 92; (with_reducible refine (bgCopied_any a7 k7 c7 _ _ S7 hk7).mono ?_); rintro en wB ⟨g8, rfl, ho8, hbB⟩; have o2 := cellStay f2 hbB; have o3 := cellStay f3 hbB; have XB := next XA hbB; have F8 := fr_copied ho8 S7 (fine_limbs _); have RB := R9.stay XB)
      | (go_at_call 94; (with_reducible refine (bgSet_any b s _ k7 k7 (val (limbs (Z.natAbs / h))) _ _ RB.zc F8).mono ?_); rintro en wC ⟨rfl, rfl⟩; have p2 := (setIn_other (Ne.symm hbA) (nzB s (val (limbs (Z.natAbs / h)))) (.slice (some ⟨g8, 0, none⟩) k7 k7)).trans o2; have p3 := (setIn_other (Ne.symm hbA) (nzB s (val (limbs (Z.natAbs / h)))) (.slice (some ⟨g8, 0, none⟩) k7 k7)).trans o3))
   rw [val_limbs'] at *
   have hw9 : b < w9.heap.size := Nat.lt_of_lt_of_le hbl W9.size
   have F8' := F8.mono (Nat.le_trans (show w9.heap.size ≤ w9.drew.heap.size from Nat.le_refl _) hbA'.size)
   have IZ := setIn_in RB.zc (nzB s (Z.natAbs / h)) (F8'.mono (Nat.le_trans hbb (Nat.le_of_lt hw9))) (fr_ne F8' hw9) hbb
   have GZ := setIn_grown wB b (nzB s (Z.natAbs / h)) (.slice (some ⟨g8, 0, none⟩) k7 k7)
   have RZ := RB.setIn (nzB s (Z.natAbs / h)) (.slice (some ⟨g8, 0, none⟩) k7 k7)
   have VB := next V9 XB
   have Spz := (Sp3.below VB).grown GZ hpb
   have Sqz := (Sq3.below VB).grown GZ hqb
   have Sgz := fr_grown (Fg3.below VB) GZ (Nat.lt_of_lt_of_le hbl W2s)
   have Shz := fr_grown (Fh.below XB) GZ (Nat.lt_of_lt_of_le hbl W8.size)
   have WB := next W9 XB
   generalize setIn wB b (nzB s (Z.natAbs / h)) (.slice (some ⟨g8, 0, none⟩) k7 k7) = wZ at *
   clear p2 p3 o2 o3 f2 f3 XA S7 F8 ho8 hbA' hbB hby3 c0' c1' hby2
   go_wp2_with fail
   refine (bgBy_sl ap ag kp kg cp cg D g wZ Spz Sgz.sl (by omega) HG0.out).mono ?_
   rintro e wP ⟨aP, kP, cP, rfl, SP, lP, hbP⟩
   go_wp2_with fail
   refine (bgBy_sl aq ah kq kh cq ch E h wP (Sqz.below hbP) (Shz.below hbP).sl (by omega) HH.out).mono ?_
   rintro e wQ ⟨aQ, kQ, cQ, rfl, SQ, lQ, hbQ⟩
   go_wp2_with fail
   refine (bgMulW_any aP aQ kP kQ cP cQ _ _ wQ (SP.below hbQ) SQ (by omega) (by omega)).mono ?_
   rintro e wR ⟨aR, kR, cR, rfl, FR, hbR⟩
   rw [val_limbs', val_limbs'] at FR
   have YR := next (next hbP hbQ) hbR
   have RR := RZ.stay YR
   have cc2 := RR.c2
   have cz2 := RR.z2
   have hwz : b < wZ.heap.size := RZ.lt
   have FR' := FR.mono (next hbP hbQ).size
   go_wp2
   go_ret
   refine ⟨rfl, ?_, grown_trans (grown_trans (grown_below WB _) (grown_trans GZ (grown_below YR _))) (grown_set _ _ _ _)⟩
   unfold Rq
   rw [HP'.out.1, HP'.out.2.1, HP'.out.2.2, ← HZN.out]
   exact ra_of (IZ.stay YR) RR (FR'.mono (Nat.le_trans hbb (Nat.le_of_lt hwz))) (DenW.limbs HD0.out) (fr_ne FR' hwz)
theorem bgRSub_any (b base B1 B2 b1 b2 : Nat) (x y : Rat) (w : World) (hr : Res3 w b) (hnw : Hd 40 w b) (hbb : base ≤ b) (h1 : Rq 40 w B1 b1 x) (h2 : Rq 40 w B2 b2 y) (l1 : ln x.num.natAbs ≤ 8388608) (l2 : ln x.den ≤ 8388608) (l3 : ln y.num.natAbs ≤ 8388608) (l4 : ln y.den ≤ 8388608) (hT : Tab w) :
 Calls Tryz.prog 44 #[.pointer (some ⟨b, 0, none⟩), .pointer (some ⟨b1, 0, none⟩), .pointer (some ⟨b2, 0, none⟩)] w (StQ 40 b base (x - y) w) := by
 have hA := bgRAdded_any b base B1 B2 b1 b2 true x y (-y) w hr hnw hbb h1 h2 rfl (by rw [Bool.bne_true, sgv_not, Rat.neg_num]) l1 l2 l3 l4 hT
 rw [← neg_sub_z] at hA
 go_enter Tryz.func44, Tryz.ntmps44
 go_wp2_with fail
 refine hA.mono ?_
 rintro e w1 ⟨rfl, hQ⟩
 go_wp2
 go_ret
 exact ⟨rfl, hQ⟩
end
def askL (e f : Int) : List Nat → Int
 | [] => 0
 | a :: l => if fitsE e f a ≠ 0 then fitsE e f a else askL e f l
theorem askL_at {e f : Int} : ∀ {l : List Nat} {k : Nat} (hk : k < l.length), (∀ j, (h : j < k) → fitsE e f (l[j]'(by omega)) = 0) → fitsE e f l[k] ≠ 0 → askL e f l = fitsE e f l[k]
 | a :: l, 0, hk, h, hn => if_pos hn
 | a :: l, k + 1, hk, h, hn => by
   have h0 : fitsE e f a = 0 := h 0 (by omega)
   show (if fitsE e f a ≠ 0 then fitsE e f a else askL e f l) = _
   rw [if_neg (by simp [h0])]
   exact askL_at (l := l) (k := k) (by simp at hk; omega) (fun j hj => h (j + 1) (by omega)) hn
theorem askL_ok {e f : Int} : ∀ {l : List Nat}, (∀ j, (h : j < l.length) → fitsE e f l[j] = 0) → askL e f l = 0
 | [], _ => rfl
 | a :: l, h => by
   have h0 : fitsE e f a = 0 := h 0 (by simp)
   show (if fitsE e f a ≠ 0 then fitsE e f a else askL e f l) = _
   rw [if_neg (by simp [h0])]
   exact askL_ok fun j hj => h (j + 1) (by simp; omega)
theorem cell_same (w : World) (a : Addr) (v : Value) (h : (w.cell? a).isSome = true) : (w.setCell a v).cell? a = some v := by
 obtain ⟨u, hu⟩ := Option.isSome_iff_exists.1 h
 exact World.cell?_setCell_same _ _ _ hu
def infB (e f b : Nat) : Bool := decide (exN e f b = maskN e ∧ frN f b = 0)
end Go.Proofs.YtpmncmglmobjoaaGreatDoor
