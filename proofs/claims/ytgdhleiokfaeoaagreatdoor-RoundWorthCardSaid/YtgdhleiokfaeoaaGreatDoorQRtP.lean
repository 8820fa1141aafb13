/-
  Contract: ratio.Scale by a tenth, of what may be.
-/
import Derived.Test.YtgdhleiokfaeoaaGreatDoorQRtN
namespace Go.Proofs.YtgdhleiokfaeoaaGreatDoor

open Go.RowKit Go.Lb

attribute [local go_sem] Go.World.cell?_alloc_some

set_option maxRecDepth 100000 in
set_option maxHeartbeats 4000000 in
theorem rtScale_down (s : Bool) (a1 a2 : Option Addr) (n1 n2 c1 c2 : Nat) (xs ys : List Nat) (w : World) (h1 : Sl w a1 n1 c1 xs) (h2 : Sl w a2 n2 c2 ys) (hT : Tab w) (hr : ratB s xs ys = true) (h0 : val xs ≠ 0) (l1 : n1 ≤ 1000) (l2 : n2 ≤ 1000) :
    Calls Tryz.prog 33 #[.agg #[.bool s, .slice a1 n1 c1, .slice a2 n2 c2], .int .u32 10, .int .i64 (-1)] w (RtnW (tnQ (sgQ' s (val xs) (val ys)) (-1)) w) := by
  obtain ⟨W2, hW2⟩ : ∃ W2 : World, W2 = (w.alloc (.cells #[.bool s, .slice a1 n1 c1, .slice a2 n2 c2] 28)).alloc (.cells #[.bool false, .slice none 0 0, .slice none 0 0] 28) := ⟨_, rfl⟩
  have hb2 : Below w.heap.size w W2 := hW2 ▸ more (more (Below.refl _ _) _) _
  have X2 : Box3 W2 w.heap.size (.bool s) (.slice a1 n1 c1) (.slice a2 n2 c2) := hW2 ▸ (box3_new w _ _ _ _).alloc _
  have R2 : Box3 W2 (w.heap.size + 1) (.bool false) (.slice none 0 0) (.slice none 0 0) := by
    have := box3_new (w.alloc (.cells #[.bool s, .slice a1 n1 c1, .slice a2 n2 c2] 28)) (.bool false) (.slice none 0 0) (.slice none 0 0) 28
    rw [World.size_alloc] at this
    exact hW2 ▸ this
  have tA := taken_ok (h1.below hb2) (h2.below hb2) (hT.below hb2) hr
  obtain ⟨_, _, hD, hG, hs, _, _⟩ := rat_facts5 h1 h2 hr
  obtain ⟨q1, q2, _⟩ := mk_low hD hG hs
  have lN : ln (val xs) ≤ 1000 := Nat.le_trans (ln_le (val_lt h1.ok)) (by rw [h1.len]; exact l1)
  have lD : ln (val ys) ≤ 1000 := Nat.le_trans (ln_le (val_lt h2.ok)) (by rw [h2.len]; exact l2)
  obtain ⟨tl1, tl2⟩ := tn_len (sgQ' s (val xs) (val ys)) (-1)
  rw [q1] at tl1
  rw [q2] at tl2
  have hsz : ¬ (sgQ' s (val xs) (val ys)).num.sign = 0 := fun h => h0 (by have := Int.sign_eq_zero_iff_zero.1 h; omega)
  have hsn : ∀ W b B, Rq 43 W B b (sgQ' s (val xs) (val ys)) → Calls Tryz.prog 84 #[.pointer (some ⟨b, 0, none⟩)] W fun e w' => e = .returned (.int .i64 (sgQ' s (val xs) (val ys)).num.sign) ∧ W = w' := fun W b B h => bgRSignZ_any b B _ W h
  have hTen : tnQ (sgQ' s (val xs) (val ys)) (-1) = sgQ' s (val xs) (val ys) * (tenQ 1)⁻¹ := by unfold tnQ; rw [if_pos (by decide), Rat.div_def]; rfl
  have tp1 : ((tenQ 1)⁻¹).num.natAbs = 1 := by decide +kernel
  have tp2 : ((tenQ 1)⁻¹).den = 10 := by decide +kernel
  have hMl : ∀ (W : World) (b b2 B1 B2 : Nat), Below w.heap.size w W → w.heap.size ≤ b → Rq 43 W B1 b (sgQ' s (val xs) (val ys)) → Rq 43 W B2 b2 (tenQ 1)⁻¹ → Calls Tryz.prog 88 #[.pointer (some ⟨b, 0, none⟩), .pointer (some ⟨b, 0, none⟩), .pointer (some ⟨b2, 0, none⟩)] W (StQ 43 b w.heap.size (tnQ (sgQ' s (val xs) (val ys)) (-1)) W) := fun W b b2 B1 B2 hW hb x y => by
    rw [hTen]
    exact bgRMulX_any b w.heap.size B1 B2 b2 _ _ W hb x y (by rw [q1]; omega) (by rw [q2]; omega) (by rw [tp1, ln_one]; decide) (by rw [tp2]; have := ln_small (A := 10) (by decide); exact Nat.le_trans this (by decide)) (hT.below hW)
  have hTo : ∀ (W : World) b B, Rq 43 W B b (tnQ (sgQ' s (val xs) (val ys)) (-1)) → Calls Tryz.prog 77 #[.pointer (some ⟨b, 0, none⟩)] W (RtnQ (tnQ (sgQ' s (val xs) (val ys)) (-1)) W) := fun W b B h => told_ok b B _ W h (by have : (-1 : Int).natAbs = 1 := rfl; omega) (by have : (-1 : Int).natAbs = 1 := rfl; omega)
  have hL := fun W => len32_any 10 W (by decide) (by decide)
  have h10 : Lib.bitLen (10 : Int).toNat = 4 := bl_ten
  rw [h10] at hL
  have hN10 : ∀ W, Calls Tryz.prog 51 #[.int .i64 10] W (MkZ 43 10 W) := fun W => bgNewZ_any 10 W (by decide)
  have hN1 : ∀ W, Calls Tryz.prog 51 #[.int .i64 1] W (MkZ 43 ((1 : Nat) : Int) W) := fun W => bgNewZ_any 1 W (by decide)
  generalize tnQ (sgQ' s (val xs) (val ys)) (-1) = qt at *
  generalize hqq : sgQ' s (val xs) (val ys) = q at *
  generalize hsq : q.num.sign = sq at *
  clear hqq hsq h1 h2 hT hr h0 hs hD hG l1 l2 lN lD q1 q2 tl1 tl2 hTen tp1 tp2 h10
  have ⟨x0, x1, x2, _, _, _⟩ := X2
  go_enter Tryz.func33, Tryz.ntmps33
  go_upto_region 1 with fail
  rw [← hW2]
  clear hW2
  go_wp2_with fail
  refine tA.mono ?_
  rintro en w3 ⟨b, rfl, Q3, hb3⟩
  have V3 := next hb2 hb3
  have R3 := R2.stay hb3
  have hbz := Q3.le
  have hs2 := R2.lt
  clear x0 x1 x2 X2 tA
  go_wp2_with fail
  refine (hsn w3 b _ Q3).mono ?_
  rintro en w3' ⟨rfl, rfl⟩
  go_wp2_with fail
  refine (hL w3).mono ?_
  rintro en w3' ⟨rfl, rfl⟩
  have U4 := more (more (Below.refl w3.heap.size w3) (.cells #[.bool false, .slice none 0 0, .slice none 0 0] 120)) (.cells #[.bool false, .slice none 0 0] 90)
  have R4 := (res_new w3 120 (.bool false) (.slice none 0 0) (.slice none 0 0)).stay (more (Below.refl _ _) (.cells #[.bool false, .slice none 0 0] 90))
  have Z4 := zc_new (w3.alloc (.cells #[.bool false, .slice none 0 0, .slice none 0 0] 120)) 90 (.bool false) (.slice none 0 0)
  rw [World.size_alloc] at Z4
  go_wp2_with fail
  refine (hN10 _).mono ?_
  rintro en w5 ⟨c5, rfl, I5, hb5⟩
  have U5 := next U4 hb5
  have R5 := R4.stay hb5
  have Z5 := Z4.stay hb5
  go_wp2_with fail
  refine (hN1 w5).mono ?_
  rintro en w6 ⟨c6, rfl, I6, hb6⟩
  have U6 := next U5 hb6
  have R6 := R5.stay hb6
  have Z6 := Z5.stay hb6
  have I5' := I5.stay hb6
  clear hN10 hN1 R4 Z4 R5 Z5 U5 I5 hL hsn
  have s6 := U6.size
  have hE := bgExp_any (w3.heap.size + 1) w3.heap.size _ _ c5 c6 10 1 w6 Z6 (by omega) I5' I6 (by decide) (by decide) (by decide)
  go_wp2_with fail
  refine hE.mono ?_
  rintro en w7 hS7
  obtain ⟨rfl, I7, hg7⟩ := hS7.in_ Z6 (Nat.le_succ _)
  have U7 := U6.grown hg7 U6.size (by intro k hk; cases hk; omega)
  have R7 : Res3 w7 w3.heap.size := res_row R6 hg7 (by omega)
  clear hS7 hE R6 Z6 I5' I6
  have hSI := bgRSetInt_any w3.heap.size w3.heap.size w3.heap.size (w3.heap.size + 1) _ w7 R7 (Nat.le_refl _) I7 (by decide +kernel)
  go_wp2_with fail
  refine hSI.mono ?_
  rintro en w8 ⟨rfl, Q8, hg8⟩
  have U8 := U7.grown hg8 U7.size (by intro k hk; cases hk; omega)
  change Rq 43 w8 w3.heap.size w3.heap.size (tenQ 1) at Q8
  have hIn := bgRInv_any w3.heap.size w3.heap.size w3.heap.size w3.heap.size (tenQ 1) w8 Q8.res (Nat.le_refl _) Q8 (tenQ_ne 1) (by decide +kernel) (by decide +kernel)
  go_wp2_with fail
  refine hIn.mono ?_
  rintro en w8' ⟨rfl, Q8', hg8'⟩
  have U8' := U8.grown hg8' U8.size (by intro k hk; cases hk; omega)
  clear Q8 hIn U8
  have Q8 := Q8'
  have U8 := U8'
  clear Q8' U8'
  have V8 := next V3 U8
  have Q3' := Q3.stay U8
  have R8 := R3.stay U8
  have hb3l := Q3.lt
  clear hSI R7 I7 Q3 R3 R2
  go_wp2_with fail
  refine (hMl w8' b w3.heap.size _ _ V8 (Nat.le_trans hb2.size hbz) Q3' Q8).mono ?_
  rintro en w9 ⟨rfl, Q9, hg9⟩
  have V9 := V8.grown hg9 V8.size (by intro k hk; cases hk; exact Nat.le_trans hb2.size hbz)
  have hz5 := R8.lt
  have R9 := box3_row R8 hg9 (by omega)
  clear hMl Q3' Q8 R8
  go_wp2_with fail
  refine (hTo w9 b _ Q9).mono ?_
  rintro en w10 ⟨a3, n3, f3, a4, n4, f4, rfl, F3, F4, hap, hb10⟩
  have V10 := next V9 hb10
  have R10 := R9.stay hb10
  have ⟨r0, r1, r2, _, _, _⟩ := R10
  have hz9 := V9.size
  have hz10 := R9.lt
  clear R9 hTo Q9
  go_wp2
  obtain ⟨t0, t1, t2⟩ := R10.set (.bool (decide (qt.num < 0))) (.slice a3 n3 f3) (.slice a4 n4 f4)
  refine bodyPost_ret (v := .tuple #[.agg #[.bool (decide (qt.num < 0)), .slice a3 n3 f3, .slice a4 n4 f4], .int .i64 0]) (by simp [results, Tryz.results33, go_sem, t0, t1, t2]) rfl ?_
  exact ⟨_, _, _, _, _, _, rfl, (((F3.setCell (by simp; omega) _).setCell (by simp; omega) _).setCell (by simp; omega) _).mono hz9, (((F4.setCell (by simp; omega) _).setCell (by simp; omega) _).setCell (by simp; omega) _).mono hz9, ((V10.setCell (by simp) _).setCell (by simp) _).setCell (by simp) _⟩

end Go.Proofs.YtgdhleiokfaeoaaGreatDoor

