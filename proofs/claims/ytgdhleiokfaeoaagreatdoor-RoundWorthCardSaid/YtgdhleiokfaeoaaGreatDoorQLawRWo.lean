/-
  The walk of the law RoundWorth: it answers true, whatever it is asked; nothing that was there has turned.
-/
import Derived.Test.YtgdhleiokfaeoaaGreatDoorQLawRM
import Derived.Test.YtgdhleiokfaeoaaGreatDoorQRtP
import Derived.Test.YtgdhleiokfaeoaaGreatDoorQWthM
import Derived.Test.YtgdhleiokfaeoaaGreatDoorQRdG
namespace Go.Proofs.YtgdhleiokfaeoaaGreatDoor

open Go.RowKit Go.Lb

attribute [local go_sem] Go.World.cell?_alloc_some

theorem valE_fits {e f : Int} {b : Nat} (h : valE e f b = 0) : fitsE e f b = 0 ∧ exN e.toNat f.toNat b ≠ maskN e.toNat := by
  unfold valE at h
  by_cases h1 : fitsE e f b = 0
  · rw [if_neg (fun h2 => h2 h1)] at h
    refine ⟨h1, fun h2 => ?_⟩
    rw [if_pos h2] at h
    exact absurd h (by decide)
  · rw [if_pos h1] at h
    exact absurd h h1

theorem fits_form {e f : Int} {b : Nat} (h : fitsE e f b = 0) : formE e f = 0 ∧ b < pw (1 + e.toNat + f.toNat) := by
  unfold fitsE at h
  by_cases h1 : formE e f = 0
  · rw [if_neg (fun h2 => h2 h1)] at h
    by_cases h2 : b < pw (1 + e.toNat + f.toNat)
    · exact ⟨h1, h2⟩
    · rw [if_neg h2] at h
      exact absurd h (by decide)
  · rw [if_pos h1] at h
    exact absurd h h1

theorem ra_up (n : Nat) (X : Int) : raN (limbs n) X = upN n X ∧ raD X = upD X := by
  unfold raN raD upN upD
  rw [val_limbs', show (max 0 X).toNat = X.toNat by omega, show (max 0 (-X)).toNat = (-X).toNat by omega]
  exact ⟨rfl, rfl⟩

theorem ratA_up {n : Nat} {X : Int} {s : Bool} (hd : dchk s (limbs n) X = 0) (l1 : ln (upN n X) ≤ 34) (l2 : ln (upD X) ≤ 34) (w : World) : RatA s (limbs n) X w = Rtn s (upN n X) (upD X) 0 w := by
  obtain ⟨e1, e2⟩ := ra_up n X
  unfold ln at l1 l2
  have hB : raB s (limbs n) X = true := by
    unfold raB
    rw [e1, e2]
    exact decide_eq_true ⟨hd, (bigE_ok (by omega)).1, (bigE_ok (by omega)).1⟩
  unfold RatA raE
  rw [hB, if_pos rfl, if_pos rfl, if_pos rfl, e1, e2, if_neg (by simp [hd])]
  rfl

theorem dy_up {E F n m : Nat} {X : Int} {s : Bool} (hf : formE (E : Int) (F : Int) = 0) (hd : dchk s (limbs n) X = 0) (hm : m < 5) (h1 : -1074 ≤ X) (h2 : X ≤ 1023) (neg : Bool) :
    dyErr (E : Int) (F : Int) s (limbs n) X m = 0 ∧ dyBits (E : Int) (F : Int) s (limbs n) X neg m = sgBits E F (upN n X) (upD X) s neg m ∧ dyFlags (E : Int) (F : Int) s (limbs n) X m = sgFlags E F (upN n X) (upD X) s m := by
  have hE : dyErr (E : Int) (F : Int) s (limbs n) X m = 0 := by
    unfold dyErr twoB
    rw [if_neg (by simp [hf]), if_neg (by simp [hd]), if_neg (by omega)]
  unfold dyBits dyFlags
  rw [if_pos hE, if_pos hE, Int.toNat_natCast, Int.toNat_natCast, val_limbs']
  unfold dyN dyD
  rw [near_in h1 h2, Nat.one_mul]
  exact ⟨hE, rfl, rfl⟩

theorem ratB_low {s : Bool} {N D : Nat} (l1 : ln N ≤ 16384) (l2 : ln D ≤ 16384) (hD : D ≠ 0) (hG : Nat.gcd N D = 1) (hs : s = true → N ≠ 0) : ratB s (limbs N) (limbs D) = true := by
  have hz : ∀ N, ln N ≤ 16384 → chk (limbs N) = 0 := fun N h => by
    unfold chk
    rw [if_neg (by unfold ln at h; omega), if_neg]
    rintro ⟨h1, h2⟩
    exact fine_top (fine_limbs N) (by omega) h2
  refine decide_eq_true ⟨hz _ l1, hz _ l2, fun h => ?_, ?_, fun h => ?_⟩
  · have := val_limbs' D
    rw [List.eq_nil_of_length_eq_zero h] at this
    exact hD this.symm
  · rw [val_limbs', val_limbs']
    exact hG
  · rw [val_limbs']
    exact hs h

set_option maxRecDepth 100000 in
set_option maxHeartbeats 4000000 in
theorem roundWorth_any (e f : Int) (b m : Nat) (w : World) (hb : b < 18446744073709551616) (hT : Tab w) :
    Calls Tryz.prog 10 #[.agg #[.int .i64 e, .int .i64 f], .int .u64 (b : Int), .int .u8 (m : Int)] w fun en w' => en = .returned (.bool true) ∧ Below w.heap.size w w' := by
  obtain ⟨W2, hW2⟩ : ∃ W2 : World, W2 = w.alloc (.cells #[.int .i64 e, .int .i64 f] 23) := ⟨_, rfl⟩
  have hb2 : Below w.heap.size w W2 := hW2 ▸ more (Below.refl _ _) _
  have f0 : W2.cell? ⟨w.heap.size, 0, none⟩ = some (.int .i64 e) := by rw [hW2]; simp
  have f1 : W2.cell? ⟨w.heap.size, 1, none⟩ = some (.int .i64 f) := by rw [hW2]; simp
  have hA := alive5_any W2 (hT.below hb2)
  have k1 : ∀ W, Below w.heap.size w W → Calls Tryz.prog 37 #[.agg #[.int .i64 e, .int .i64 f], .int .u64 (b : Int)] W _ := fun W hW => value_any e f b W hb (hT.below hW)
  go_enter Tryz.func10, Tryz.ntmps10
  go_wp2_with fail
  rw [← hW2]
  clear hW2
  refine hA.mono ?_
  rintro en w4 ⟨rfl, hb4⟩
  have V4 := next hb2 hb4
  have g0 := cellStay f0 hb4
  have g1 := cellStay f1 hb4
  clear hA f0 f1 hb4 hb2
  go_wp2_with fail
  with_reducible refine (k1 w4 V4).mono ?_
  rintro en w5 ⟨ao, k, c, rfl, F5, hb5⟩
  have V6 := more (next V4 hb5) (.cells #[.bool (valS e f b), .slice ao k c, .int .i64 (valX e f b)] 46)
  have D6 := box3_new w5 (.bool (valS e f b)) (.slice ao k c) (.int .i64 (valX e f b)) 46
  have p0 := cellStay g0 (more hb5 (.cells #[.bool (valS e f b), .slice ao k c, .int .i64 (valX e f b)] 46))
  have p1 := cellStay g1 (more hb5 (.cells #[.bool (valS e f b), .slice ao k c, .int .i64 (valX e f b)] 46))
  have S6 := (F5.alloc (.cells #[.bool (valS e f b), .slice ao k c, .int .i64 (valX e f b)] 46)).sl
  clear g0 g1 V4 hb5 k1 F5
  go_upto_region 3 with fail
  obtain ⟨Dd, hDd⟩ : ∃ q, q = w5.heap.size := ⟨_, rfl⟩
  rw [← hDd] at D6 ⊢
  clear hDd
  generalize w5.alloc (.cells #[.bool (valS e f b), .slice ao k c, .int .i64 (valX e f b)] 46) = w6 at *
  by_cases hv : valE e f b = 0
  · rw [hv]
    by_cases hm : 4 < m
    · have hm4 : (m : Int) > 4 := by omega
      clear hv
      go_wp2
      go_ret
      exact ⟨rfl, V6⟩
    · have hm4 : ¬ (m : Int) > 4 := by omega
      obtain ⟨hfit, hx⟩ := valE_fits hv
      obtain ⟨hf, hbp⟩ := fits_form hfit
      clear hv
      obtain ⟨e1, e2, e3, e4⟩ := formE_ok hf
      obtain ⟨E, rfl⟩ : ∃ E : Nat, e = (E : Int) := ⟨e.toNat, by omega⟩
      obtain ⟨F, rfl⟩ : ∃ F : Nat, f = (F : Int) := ⟨f.toNat, by omega⟩
      rw [Int.toNat_natCast, Int.toNat_natCast] at hx hbp
      have hm5 : m < 5 := by omega
      obtain ⟨_, n, X, s, v1, v2, v3, hd, hn, hX1, hX2, hG, hs, hR⟩ := worth_facts (m := m) (by omega) (by omega) (by omega) hfit hbp hx
      rw [v2, v3] at D6
      rw [v1] at S6
      obtain ⟨l1, l2⟩ := up_small hn hX1 hX2
      have hD := upD_pos X
      have hr := ratB_low (s := s) (N := upN n X) (D := upD X) (by omega) (by omega) hD hG hs
      obtain ⟨ng, hng⟩ : ∃ ng, ng = decide (2 ^ (E + F) ≤ b) := ⟨_, rfl⟩
      rw [← hng] at hR
      obtain ⟨R1, R2⟩ := hR _ _ hD rfl
      have hln : ln n ≤ 34 := ln_le (Nat.lt_of_lt_of_le hn (by decide +kernel))
      obtain ⟨q1, q2, q3⟩ := mk_low hD hG hs
      obtain ⟨tl1, tl2⟩ := tn_len (sgQ' s (upN n X) (upD X)) (-1)
      obtain ⟨tc1, tc2⟩ := tn_cross (sgQ' s (upN n X) (upD X)) (-1)
      rw [q1, q2] at tc1
      rw [q3] at tc2
      rw [q1] at tl1
      rw [q2] at tl2
      have l11 : (-1 : Int).natAbs = 1 := rfl
      have hden := (tnQ (sgQ' s (upN n X) (upD X)) (-1)).den_nz
      obtain ⟨T1, T2⟩ := hR ((tnQ (sgQ' s (upN n X) (upD X)) (-1)).num.natAbs * 10) (tnQ (sgQ' s (upN n X) (upD X)) (-1)).den hden (by
        have e : (tnQ (sgQ' s (upN n X) (upD X)) (-1)).num.natAbs * (upD X * 10) = upN n X * 1 * (tnQ (sgQ' s (upN n X) (upD X)) (-1)).den := tc1
        rw [Nat.mul_one] at e
        rw [← e, Nat.mul_assoc, Nat.mul_comm 10])
      have cR : ∀ W, Below w6.heap.size w6 W → Calls Tryz.prog 38 #[.agg #[.bool s, .slice ao k c, .int .i64 X]] W (Rtn s (upN n X) (upD X) 0 W) := fun W hW => by
        rw [← ratA_up hd l1 l2 W]
        exact exRatio_any s ao k c X (limbs n) W (S6.below hW)
      have cS : ∀ W a3 a4 n3 n4 c3 c4, Below w.heap.size w W → Sl W a3 n3 c3 (limbs (upN n X)) → Sl W a4 n4 c4 (limbs (upD X)) → Calls Tryz.prog 33 #[.agg #[.bool s, .slice a3 n3 c3, .slice a4 n4 c4], .int .u32 10, .int .i64 (-1)] W (RtnW (tnQ (sgQ' s (upN n X) (upD X)) (-1)) W) := fun W a3 a4 n3 n4 c3 c4 hW j1 j2 => by
        have z1 := j1.len
        have z2 := j2.len
        unfold ln at l1 l2
        by_cases h0 : upN n X = 0
        · have := rtScale_zero (-1) (.inr rfl) s a3 a4 n3 n4 c3 c4 _ _ W j1 j2 (hT.below hW) hr (by rw [val_limbs']; exact h0)
          rw [val_limbs', val_limbs'] at this
          exact this
        · have := rtScale_down s a3 a4 n3 n4 c3 c4 _ _ W j1 j2 (hT.below hW) hr (by rw [val_limbs']; exact h0) (by omega) (by omega)
          rw [val_limbs', val_limbs'] at this
          exact this
      have cA : ∀ W a3 a4 n3 n4 c3 c4 g, g = ng → Below w.heap.size w W → Sl W a3 n3 c3 (limbs (upN n X)) → Sl W a4 n4 c4 (limbs (upD X)) → Calls Tryz.prog 14 #[.agg #[.int .i64 (E : Int), .int .i64 (F : Int)], .agg #[.bool s, .slice a3 n3 c3, .slice a4 n4 c4], .bool g, .int .u8 (m : Int)] W fun en w' => en = .returned (.tuple #[.int .u64 (b : Int), .int .u8 0, .int .i64 0]) ∧ Below W.heap.size W w' := fun W a3 a4 n3 n4 c3 c4 g hg hW j1 j2 => by
        have z1 := j1.len
        have z2 := j2.len
        unfold ln at l1 l2
        have := rdRatio_any a3 a4 n3 n4 c3 c4 m (E : Int) (F : Int) s g _ _ W j1 j2 (hT.below hW) (by omega) (by omega)
        obtain ⟨x1, x2, x3⟩ := sc_rat hf hr hm5 0 g
        obtain ⟨_, _, _, _, y1, y2⟩ := scn_one (upN n X) (upD X)
        rw [x1, x2, x3, val_limbs', val_limbs', y1, y2, hg, R1, R2, ← hg] at this
        exact this
      have cB : ∀ W g, g = ng → Below w6.heap.size w6 W → Calls Tryz.prog 23 #[.agg #[.int .i64 (E : Int), .int .i64 (F : Int)], .agg #[.bool s, .slice ao k c, .int .i64 X], .bool g, .int .u8 (m : Int)] W fun en w' => en = .returned (.tuple #[.int .u64 (b : Int), .int .u8 0, .int .i64 0]) ∧ Below W.heap.size W w' := fun W g hg hW => by
        have z1 := S6.len
        unfold ln at hln
        have := rdDyadic_any ao k c m (E : Int) (F : Int) X s g _ W (S6.below hW) (by omega)
        obtain ⟨x1, x2, x3⟩ := dy_up hf hd hm5 hX1 hX2 g
        rw [x1, x2, x3, hg, R1, R2, ← hg] at this
        exact this
      have cC : ∀ W a3 a4 n3 n4 c3 c4 g, g = ng → Below w.heap.size w W → Sl W a3 n3 c3 (limbs (tnQ (sgQ' s (upN n X) (upD X)) (-1)).num.natAbs) → Sl W a4 n4 c4 (limbs (tnQ (sgQ' s (upN n X) (upD X)) (-1)).den) → Calls Tryz.prog 17 #[.agg #[.int .i64 (E : Int), .int .i64 (F : Int)], .agg #[.bool (decide ((tnQ (sgQ' s (upN n X) (upD X)) (-1)).num < 0)), .slice a3 n3 c3, .slice a4 n4 c4], .int .i64 1, .bool g, .int .u8 (m : Int)] W fun en w' => en = .returned (.tuple #[.int .u64 (b : Int), .int .u8 0, .int .i64 0]) ∧ Below W.heap.size W w' := fun W a3 a4 n3 n4 c3 c4 g hg hW j1 j2 => by
        have := (rd_rat (tnQ (sgQ' s (upN n X) (upD X)) (-1)) 1 g W j1 j2 (hT.below hW) (by omega) (by omega) hf hm5).1
        obtain ⟨y1, y2, _, _, _, _⟩ := scn_one (tnQ (sgQ' s (upN n X) (upD X)) (-1)).num.natAbs (tnQ (sgQ' s (upN n X) (upD X)) (-1)).den
        rw [y1, y2, tc2, hg, T1, T2, ← hg] at this
        rw [tc2]
        exact this
      obtain ⟨S, hS⟩ : ∃ S, S = 2 ^ (E + F) := ⟨_, rfl⟩
      obtain ⟨j, hj⟩ : ∃ j : Nat, (E : Int) + (F : Int) = (j : Int) := ⟨E + F, by omega⟩
      have hjj : j = E + F := by omega
      have hj2 : j ≤ 63 := by omega
      have hw1 : IntKind.u64.wrap (2 ^ j) = (S : Int) := by
        have e2 : 2 ^ (E + F) ≤ 2 ^ 63 := Nat.pow_le_pow_right (by decide) (by omega)
        have e3 : (2 : Nat) ^ 63 = 9223372036854775808 := by decide
        have c1 : (2 : Int) ^ (E + F) = ((2 ^ (E + F) : Nat) : Int) := by simp
        rw [hjj, c1, ← hS, IntKind.wrap_u64]
        omega
      rw [← hS] at hng
      have hNG := Lib.hid hng
      generalize tnQ (sgQ' s (upN n X) (upD X)) (-1) = qt at *
      clear v1 v2 v3 hd hn hX1 hX2 hG hs hR hD hr R1 R2 hln q1 q2 q3 tl1 tl2 tc1 tc2 l11 hden T1 T2 l1 l2 hS hjj hng hfit hx hf hbp e1 e2 e3 e4 hm S6 hT
      have ⟨x0, x1, x2, _, _, _⟩ := D6
      go_wp2_with fail
      with_reducible refine (cR w6 (Below.refl _ _)).mono ?_
      rintro en w7 ⟨a3, n3, c3, a4, n4, c4, rfl, F3, F4, _, hb7⟩
      have h68 := more hb7 (.cells #[.bool s, .slice a3 n3 c3, .slice a4 n4 c4] 28)
      have V8 := next V6 h68
      have D8 := (D6.stay hb7).alloc (.cells #[.bool s, .slice a3 n3 c3, .slice a4 n4 c4] 28)
      have R8 := box3_new w7 (.bool s) (.slice a3 n3 c3) (.slice a4 n4 c4) 28
      have g0 := cellStay p0 h68
      have g1 := cellStay p1 h68
      have G3 := (F3.alloc (.cells #[.bool s, .slice a3 n3 c3, .slice a4 n4 c4] 28)).sl
      have G4 := (F4.alloc (.cells #[.bool s, .slice a3 n3 c3, .slice a4 n4 c4] 28)).sl
      clear x0 x1 x2 D6 p0 p1 V6 hb7 cR F3 F4
      go_upto_region 6 with fail
      obtain ⟨Y, hY⟩ : ∃ q, q = w7.heap.size := ⟨_, rfl⟩
      rw [← hY] at R8 ⊢
      clear hY
      generalize w7.alloc (.cells #[.bool s, .slice a3 n3 c3, .slice a4 n4 c4] 28) = w8 at *
      have ⟨x0, x1, x2, _, _, _⟩ := R8
      go_wp2_with fail
      with_reducible refine (cS w8 _ _ _ _ _ _ V8 G3 G4).mono ?_
      rintro en w9 ⟨b3, m3, d3, b4, m4, d4, rfl, F3, F4, hb9⟩
      have h8A := more hb9 (.cells #[.bool (decide (qt.num < 0)), .slice b3 m3 d3, .slice b4 m4 d4] 28)
      have VA := next V8 h8A
      have h6A := next h68 h8A
      have DA := (D8.stay hb9).alloc (.cells #[.bool (decide (qt.num < 0)), .slice b3 m3 d3, .slice b4 m4 d4] 28)
      have RA := (R8.stay hb9).alloc (.cells #[.bool (decide (qt.num < 0)), .slice b3 m3 d3, .slice b4 m4 d4] 28)
      have TA := box3_new w9 (.bool (decide (qt.num < 0))) (.slice b3 m3 d3) (.slice b4 m4 d4) 28
      have p0 := cellStay g0 h8A
      have p1 := cellStay g1 h8A
      have J3 := G3.below h8A
      have J4 := G4.below h8A
      have K3 := (F3.alloc (.cells #[.bool (decide (qt.num < 0)), .slice b3 m3 d3, .slice b4 m4 d4] 28)).sl
      have K4 := (F4.alloc (.cells #[.bool (decide (qt.num < 0)), .slice b3 m3 d3, .slice b4 m4 d4] 28)).sl
      clear x0 x1 x2 D8 R8 g0 g1 V8 hb9 h68 h8A cS F3 F4 G3 G4
      go_upto_region 7 with fail
      obtain ⟨Z, hZ⟩ : ∃ q, q = w9.heap.size := ⟨_, rfl⟩
      rw [← hZ] at TA ⊢
      clear hZ
      generalize w9.alloc (.cells #[.bool (decide (qt.num < 0)), .slice b3 m3 d3, .slice b4 m4 d4] 28) = wA at *
      have ⟨x0, x1, x2, _, _, _⟩ := RA
      go_wp2_with fail
      (with_reducible refine (cA wA _ _ _ _ _ _ _ ?_ VA J3 J4).mono ?_)
      · rw [hNG.out]
      rintro en wB ⟨rfl, hb⟩
      have VB := next VA hb
      have h6B := next h6A hb
      have DB := DA.stay hb
      have TB := TA.stay hb
      have g0 := cellStay p0 hb
      have g1 := cellStay p1 hb
      replace K3 := K3.below hb
      replace K4 := K4.below hb
      clear x0 x1 x2 DA RA TA p0 p1 VA h6A hb cA J3 J4
      have ⟨x0, x1, x2, _, _, _⟩ := DB
      go_wp2_with fail
      (with_reducible refine (cB wB _ ?_ h6B).mono ?_)
      · rw [hNG.out]
      rintro en wC ⟨rfl, hb⟩
      have VC := next VB hb
      have TC := TB.stay hb
      have p0 := cellStay g0 hb
      have p1 := cellStay g1 hb
      replace K3 := K3.below hb
      replace K4 := K4.below hb
      clear x0 x1 x2 DB TB g0 g1 VB h6B hb cB
      have ⟨x0, x1, x2, _, _, _⟩ := TC
      go_wp2_with fail
      (with_reducible refine (cC wC _ _ _ _ _ _ _ ?_ VC K3 K4).mono ?_)
      · rw [hNG.out]
      rintro en wD ⟨rfl, hb⟩
      have VD := next VC hb
      clear x0 x1 x2 TC p0 p1 VC hb cC K3 K4
      go_wp2
      go_ret
      exact ⟨by simp, VD⟩
  · have hv1 := decide_eq_false hv
    have hvz := Lib.hid hv1
    clear hv1
    go_wp2
    go_ret
    exact ⟨rfl, V6⟩

end Go.Proofs.YtgdhleiokfaeoaaGreatDoor

