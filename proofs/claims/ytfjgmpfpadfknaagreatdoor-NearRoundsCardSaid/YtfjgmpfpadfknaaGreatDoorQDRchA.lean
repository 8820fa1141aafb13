/-
  Contracts: ratio.Add, and ratio.Scale by a half, of what may be. (Printed by wip/gen/rcha.py.)
-/
import Derived.Test.YtfjgmpfpadfknaaGreatDoorQRnBase
namespace Go.Proofs.YtfjgmpfpadfknaaGreatDoor

open Go.RowKit Go.Lb

attribute [local go_sem] Go.World.cell?_alloc_some

theorem addEnter (args : Array Value) (w : World) : Sem.run Tryz.prog (callFunc 93 args) w = .ok (.enter 93 args) w := by kernel_rfl

/-- The worth of a sum has few words. -/
theorem add_len (x y : Rat) : ln (x + y).num.natAbs ≤ ln x.num.natAbs + ln x.den + ln y.num.natAbs + ln y.den + 1 ∧ ln (x + y).den ≤ ln x.den + ln y.den := by
  have hd : x.den * y.den ≠ 0 := Nat.mul_ne_zero x.den_nz y.den_nz
  have e : x + y = mkRat (x.num * y.den + y.num * x.den) (x.den * y.den) := Rat.add_def' x y
  obtain ⟨h1, h2⟩ := mk_len (x.num * y.den + y.num * x.den) hd
  rw [e]
  have k1 : (x.num * y.den + y.num * x.den).natAbs ≤ x.num.natAbs * y.den + y.num.natAbs * x.den := by
    refine Nat.le_trans (Int.natAbs_add_le _ _) ?_
    rw [Int.natAbs_mul, Int.natAbs_mul, Int.natAbs_natCast, Int.natAbs_natCast]
    exact Nat.le_refl _
  have k2 := ln_mono k1
  have k3 := ln_add' (x.num.natAbs * y.den) (y.num.natAbs * x.den)
  have k4 := ln_mul x.num.natAbs y.den
  have k5 := ln_mul y.num.natAbs x.den
  have k6 := ln_mul x.den y.den
  have k7 : ln (x.num.natAbs * y.den + y.num.natAbs * x.den) ≤ ln x.num.natAbs + ln x.den + ln y.num.natAbs + ln y.den + 1 := ln_add (by omega) (by omega)
  omega

set_option maxRecDepth 100000 in
set_option maxHeartbeats 3000000 in
theorem rtOf_add (w0 : World) (z : Nat) (s t : Bool) (a1 a2 b1 b2 : Option Addr) (n1 n2 m1 m2 c1 c2 d1 d2 : Nat) (xs ys us vs : List Nat) (w : World) (h1 : Sl w a1 n1 c1 xs) (h2 : Sl w a2 n2 c2 ys) (h3 : Sl w b1 m1 d1 us) (h4 : Sl w b2 m2 d2 vs) (hT : Tab w) (hr : ratB s xs ys = true) (ht : ratB t us vs = true)
    (hw : Below w0.heap.size w0 w) (hz : w0.heap.size ≤ z) (hR : Res3 w z) (hH : Hd 75 w z) (l1 : n1 ≤ 1000) (l2 : n2 ≤ 1000) (l3 : m1 ≤ 1000) (l4 : m2 ≤ 1000) :
    Calls Tryz.prog 92 #[.agg #[.bool s, .slice a1 n1 c1, .slice a2 n2 c2], .agg #[.bool t, .slice b1 m1 d1, .slice b2 m2 d2], .func (.func 93) #[.pointer (some ⟨z, 0, none⟩)] #[]] w (RtnQ (sgQ' s (val xs) (val ys) + sgQ' t (val us) (val vs)) w0) := by
  obtain ⟨W3, hW3⟩ : ∃ W3 : World, W3 = ((w.alloc (.cells #[.bool s, .slice a1 n1 c1, .slice a2 n2 c2] 30)).alloc (.cells #[.bool t, .slice b1 m1 d1, .slice b2 m2 d2] 30)).alloc (.cells #[.bool false, .slice none 0 0, .slice none 0 0] 30) := ⟨_, rfl⟩
  have hb3 : Below w.heap.size w W3 := hW3 ▸ more (more (more (Below.refl _ _) _) _) _
  have X3 : Box3 W3 w.heap.size (.bool s) (.slice a1 n1 c1) (.slice a2 n2 c2) := hW3 ▸ ((box3_new w _ _ _ _).alloc _).alloc _
  have Y3 : Box3 W3 (w.heap.size + 1) (.bool t) (.slice b1 m1 d1) (.slice b2 m2 d2) := by
    have := (box3_new (w.alloc (.cells #[.bool s, .slice a1 n1 c1, .slice a2 n2 c2] 30)) (.bool t) (.slice b1 m1 d1) (.slice b2 m2 d2) 30).alloc (.cells #[.bool false, .slice none 0 0, .slice none 0 0] 30)
    rw [World.size_alloc] at this
    exact hW3 ▸ this
  have R3 : Box3 W3 (w.heap.size + 2) (.bool false) (.slice none 0 0) (.slice none 0 0) := by
    have := box3_new ((w.alloc (.cells #[.bool s, .slice a1 n1 c1, .slice a2 n2 c2] 30)).alloc (.cells #[.bool t, .slice b1 m1 d1, .slice b2 m2 d2] 30)) (.bool false) (.slice none 0 0) (.slice none 0 0) 30
    rw [World.size_alloc, World.size_alloc] at this
    exact hW3 ▸ this
  have tA := taken_ok (h1.below hb3) (h2.below hb3) (hT.below hb3) hr
  have tB : ∀ W, Below w.heap.size w W → Calls Tryz.prog 75 #[.agg #[.bool t, .slice b1 m1 d1, .slice b2 m2 d2]] W _ := fun W hW => taken_ok (h3.below hW) (h4.below hW) (hT.below hW) ht
  obtain ⟨_, _, hD, hG, hs, _, _⟩ := rat_facts5 h1 h2 hr
  obtain ⟨_, _, hD', hG', hs', _, _⟩ := rat_facts5 h3 h4 ht
  obtain ⟨q1, q2, _⟩ := mk_low hD hG hs
  obtain ⟨r1, r2, _⟩ := mk_low hD' hG' hs'
  have lN : ln (val xs) ≤ 1000 := Nat.le_trans (ln_le (val_lt h1.ok)) (by rw [h1.len]; exact l1)
  have lD : ln (val ys) ≤ 1000 := Nat.le_trans (ln_le (val_lt h2.ok)) (by rw [h2.len]; exact l2)
  have lM : ln (val us) ≤ 1000 := Nat.le_trans (ln_le (val_lt h3.ok)) (by rw [h3.len]; exact l3)
  have lE : ln (val vs) ≤ 1000 := Nat.le_trans (ln_le (val_lt h4.ok)) (by rw [h4.len]; exact l4)
  obtain ⟨sl1, sl2⟩ := add_len (sgQ' s (val xs) (val ys)) (sgQ' t (val us) (val vs))
  rw [q1, q2, r1, r2] at sl1
  rw [q2, r2] at sl2
  have hzl := hR.lt
  have hSb : ∀ (W : World) (B1 B2 z1 z2 : Nat), Below w.heap.size w W → Rq 75 W B1 z1 (sgQ' s (val xs) (val ys)) → Rq 75 W B2 z2 (sgQ' t (val us) (val vs)) → Calls Tryz.prog 93 #[.pointer (some ⟨z, 0, none⟩), .pointer (some ⟨z1, 0, none⟩), .pointer (some ⟨z2, 0, none⟩)] W (StQ 75 z w0.heap.size (sgQ' s (val xs) (val ys) + sgQ' t (val us) (val vs)) W) := fun W B1 B2 z1 z2 hW x y => bgRAdd_any z w0.heap.size B1 B2 z1 z2 _ _ W (hR.stay hW) (hH.stay hzl hW) hz x y (by rw [q1]; omega) (by rw [q2]; omega) (by rw [r1]; omega) (by rw [r2]; omega) (hT.below hW)
  have hTo : ∀ (W : World), Rq 75 W w0.heap.size z (sgQ' s (val xs) (val ys) + sgQ' t (val us) (val vs)) → Calls Tryz.prog 94 #[.pointer (some ⟨z, 0, none⟩)] W (RtnQ (sgQ' s (val xs) (val ys) + sgQ' t (val us) (val vs)) W) := fun W h => told_ok z _ _ W h (by omega) (by omega)
  have hEn := addEnter
  generalize sgQ' s (val xs) (val ys) + sgQ' t (val us) (val vs) = qd at *
  generalize sgQ' s (val xs) (val ys) = qx at *
  generalize sgQ' t (val us) (val vs) = qy at *
  clear q1 q2 r1 r2 hD hG hs hD' hG' hs' l1 l2 l3 l4 lN lD lM lE h1 h2 h3 h4 hr ht hT sl1 sl2 hR hH
  have ⟨x0, x1, x2, _, _, _⟩ := X3
  go_enter Tryz.func92, Tryz.ntmps92
  go_wp2_with fail
  rw [← hW3]
  clear hW3
  refine tA.mono ?_
  rintro en w4 ⟨z1, rfl, Q1, hb4⟩
  have V4 := next hb3 hb4
  have Y4 := Y3.stay hb4
  have R4 := R3.stay hb4
  clear x0 x1 x2 X3 Y3 R3 tA hb3 hb4
  have ⟨y0, y1, y2, _, _, _⟩ := Y4
  go_wp2_with fail
  refine (tB w4 V4).mono ?_
  rintro en w5 ⟨z2, rfl, Q2, hb5⟩
  have V5 := next V4 hb5
  have R5 := R4.stay hb5
  have Q1' := Q1.stay hb5
  clear y0 y1 y2 Y4 R4 tB hb5 V4 Q1
  go_wp2_with fail
  refine (hSb w5 _ _ z1 z2 V5 Q1' Q2).mono ?_
  rintro en w6 ⟨rfl, Q6, hg6⟩
  have hwz := V5.size
  have U6 : Below w0.heap.size w0 w6 := (next hw V5).grown hg6 (next hw V5).size (by intro k hk; cases hk; exact hz)
  have R6 := box3_row R5 hg6 (by omega)
  clear hSb Q1' Q2 R5
  go_wp2_with fail
  refine (hTo w6 Q6).mono ?_
  rintro en w7 ⟨a3, n3, f3, a4, n4, f4, rfl, F3, F4, hap, hb7⟩
  have U7 := next U6 hb7
  have R7 := R6.stay hb7
  have ⟨r0, r1, r2, _, _, _⟩ := R7
  have hz6 := U6.size
  have hz7 := R6.lt
  have hzz := hw.size
  clear R6 hTo Q6
  go_wp2
  obtain ⟨t0, t1, t2⟩ := R7.set (.bool (decide (qd.num < 0))) (.slice a3 n3 f3) (.slice a4 n4 f4)
  refine bodyPost_ret (v := .tuple #[.agg #[.bool (decide (qd.num < 0)), .slice a3 n3 f3, .slice a4 n4 f4], .int .i64 0]) (by simp [results, Tryz.results92, go_sem, t0, t1, t2]) rfl ?_
  exact ⟨_, _, _, _, _, _, rfl, (((F3.setCell (by simp; omega) _).setCell (by simp; omega) _).setCell (by simp; omega) _).mono hz6, (((F4.setCell (by simp; omega) _).setCell (by simp; omega) _).setCell (by simp; omega) _).mono hz6, hap, ((U7.setCell (by simp; omega) _).setCell (by simp; omega) _).setCell (by simp; omega) _⟩

set_option maxRecDepth 100000 in
set_option maxHeartbeats 3000000 in
theorem rtAdd_ok (s t : Bool) (a1 a2 b1 b2 : Option Addr) (n1 n2 m1 m2 c1 c2 d1 d2 : Nat) (xs ys us vs : List Nat) (w : World) (h1 : Sl w a1 n1 c1 xs) (h2 : Sl w a2 n2 c2 ys) (h3 : Sl w b1 m1 d1 us) (h4 : Sl w b2 m2 d2 vs) (hT : Tab w) (hr : ratB s xs ys = true) (ht : ratB t us vs = true)
    (l1 : n1 ≤ 1000) (l2 : n2 ≤ 1000) (l3 : m1 ≤ 1000) (l4 : m2 ≤ 1000) :
    Calls Tryz.prog 42 #[.agg #[.bool s, .slice a1 n1 c1, .slice a2 n2 c2], .agg #[.bool t, .slice b1 m1 d1, .slice b2 m2 d2]] w (RtnQ (sgQ' s (val xs) (val ys) + sgQ' t (val us) (val vs)) w) := by
  obtain ⟨W3, hW3⟩ : ∃ W3 : World, W3 = ((w.alloc (.cells #[.bool s, .slice a1 n1 c1, .slice a2 n2 c2] 30)).alloc (.cells #[.bool t, .slice b1 m1 d1, .slice b2 m2 d2] 30)).alloc (.cells #[.bool false, .slice none 0 0, .slice none 0 0] 30) := ⟨_, rfl⟩
  have hb3 : Below w.heap.size w W3 := hW3 ▸ more (more (more (Below.refl _ _) _) _) _
  have R3 : Box3 W3 (w.heap.size + 2) (.bool false) (.slice none 0 0) (.slice none 0 0) := by
    have := box3_new ((w.alloc (.cells #[.bool s, .slice a1 n1 c1, .slice a2 n2 c2] 30)).alloc (.cells #[.bool t, .slice b1 m1 d1, .slice b2 m2 d2] 30)) (.bool false) (.slice none 0 0) (.slice none 0 0) 30
    rw [World.size_alloc, World.size_alloc] at this
    exact hW3 ▸ this
  have X3 : Box3 W3 w.heap.size (.bool s) (.slice a1 n1 c1) (.slice a2 n2 c2) := hW3 ▸ ((box3_new w _ _ _ _).alloc _).alloc _
  have Y3 : Box3 W3 (w.heap.size + 1) (.bool t) (.slice b1 m1 d1) (.slice b2 m2 d2) := by
    have := (box3_new (w.alloc (.cells #[.bool s, .slice a1 n1 c1, .slice a2 n2 c2] 30)) (.bool t) (.slice b1 m1 d1) (.slice b2 m2 d2) 30).alloc (.cells #[.bool false, .slice none 0 0, .slice none 0 0] 30)
    rw [World.size_alloc] at this
    exact hW3 ▸ this
  have V4 := more hb3 (.cells #[.bool false, .slice none 0 0, .slice none 0 0] 131)
  have hO := rtOf_add W3 W3.heap.size s t a1 a2 b1 b2 n1 n2 m1 m2 c1 c2 d1 d2 xs ys us vs (W3.alloc (.cells #[.bool false, .slice none 0 0, .slice none 0 0] 131)) (h1.below V4) (h2.below V4) (h3.below V4) (h4.below V4) (hT.below V4) hr ht (more (Below.refl _ _) _) (Nat.le_refl _) (res_new W3 _ _ _ _) (hd_new W3 _ (by decide)) l1 l2 l3 l4
  generalize sgQ' s (val xs) (val ys) + sgQ' t (val us) (val vs) = qd at *
  clear V4 h1 h2 h3 h4 hT hr ht l1 l2 l3 l4
  have ⟨x0, x1, x2, _, _, _⟩ := X3
  have ⟨y0, y1, y2, _, _, _⟩ := Y3
  go_enter Tryz.func42, Tryz.ntmps42
  go_upto_region 1 with fail
  rw [← hW3]
  clear hW3
  go_wp2_with fail
  refine hO.mono ?_
  rintro en w5 ⟨a3, n3, f3, a4, n4, f4, rfl, F3, F4, hap, hb5⟩
  have V5 := next hb3 hb5
  have R5 := R3.stay hb5
  have ⟨r0, r1, r2, _, _, _⟩ := R5
  have hz3 := hb3.size
  have hz5 := R3.lt
  clear x0 x1 x2 y0 y1 y2 X3 Y3 R3 hO
  go_wp2
  obtain ⟨t0, t1, t2⟩ := R5.set (.bool (decide (qd.num < 0))) (.slice a3 n3 f3) (.slice a4 n4 f4)
  refine bodyPost_ret (v := .tuple #[.agg #[.bool (decide (qd.num < 0)), .slice a3 n3 f3, .slice a4 n4 f4], .int .i64 0]) (by simp [results, Tryz.results42, go_sem, t0, t1, t2]) rfl ?_
  exact ⟨_, _, _, _, _, _, rfl, (((F3.setCell (by simp; omega) _).setCell (by simp; omega) _).setCell (by simp; omega) _).mono hz3, (((F4.setCell (by simp; omega) _).setCell (by simp; omega) _).setCell (by simp; omega) _).mono hz3, hap, ((V5.setCell (by simp; omega) _).setCell (by simp; omega) _).setCell (by simp; omega) _⟩

/-- A fraction's half. -/
def twoQ : Rat := (((2 ^ 1 : Nat) : Int) : Rat)

def hfQ (x : Rat) : Rat := x * twoQ⁻¹

theorem bl_two : Lib.bitLen 2 = 2 := by decide +kernel

theorem hf_len (x : Rat) : ln (hfQ x).num.natAbs ≤ ln x.num.natAbs + 1 ∧ ln (hfQ x).den ≤ ln x.den + 1 := by
  have e : hfQ x = mkRat x.num (x.den * 2) := by
    unfold hfQ
    have h2 : twoQ⁻¹ = mkRat 1 2 := by decide +kernel
    conv => lhs; rw [h2, ← Rat.mkRat_self x]
    rw [Rat.mkRat_mul_mkRat, Int.mul_one]
  obtain ⟨h1, h2⟩ := mk_len x.num (D := x.den * 2) (Nat.mul_ne_zero x.den_nz (by decide))
  have h3 := ln_mul x.den 2
  have h4 : ln 2 ≤ 1 := ln_small (by decide)
  rw [e]
  omega

set_option maxRecDepth 100000 in
set_option maxHeartbeats 4000000 in
theorem rtHalf_zero (s : Bool) (a1 a2 : Option Addr) (n1 n2 c1 c2 : Nat) (xs ys : List Nat) (w : World) (h1 : Sl w a1 n1 c1 xs) (h2 : Sl w a2 n2 c2 ys) (hT : Tab w) (hr : ratB s xs ys = true) (h0 : val xs = 0) :
    Calls Tryz.prog 43 #[.agg #[.bool s, .slice a1 n1 c1, .slice a2 n2 c2], .int .u32 2, .int .i64 (-1)] w (RtnW (hfQ (sgQ' s (val xs) (val ys))) w) := by
  obtain ⟨W2, hW2⟩ : ∃ W2 : World, W2 = (w.alloc (.cells #[.bool s, .slice a1 n1 c1, .slice a2 n2 c2] 30)).alloc (.cells #[.bool false, .slice none 0 0, .slice none 0 0] 30) := ⟨_, rfl⟩
  have hb2 : Below w.heap.size w W2 := hW2 ▸ more (more (Below.refl _ _) _) _
  have X2 : Box3 W2 w.heap.size (.bool s) (.slice a1 n1 c1) (.slice a2 n2 c2) := hW2 ▸ (box3_new w _ _ _ _).alloc _
  have R2 : Box3 W2 (w.heap.size + 1) (.bool false) (.slice none 0 0) (.slice none 0 0) := by
    have := box3_new (w.alloc (.cells #[.bool s, .slice a1 n1 c1, .slice a2 n2 c2] 30)) (.bool false) (.slice none 0 0) (.slice none 0 0) 30
    rw [World.size_alloc] at this
    exact hW2 ▸ this
  have tA := taken_ok (h1.below hb2) (h2.below hb2) (hT.below hb2) hr
  obtain ⟨_, _, hD, hG, hs, l1, l2⟩ := rat_facts5 h1 h2 hr
  rw [h0] at hs
  have hq := sgQ_zero s (D := val ys) hs
  rw [h0, hq, show hfQ 0 = 0 from Rat.zero_mul _]
  rw [h0, hq] at tA
  have hsn : ∀ W b B, Rq 75 W B b 0 → Calls Tryz.prog 95 #[.pointer (some ⟨b, 0, none⟩)] W fun e w' => e = .returned (.int .i64 0) ∧ W = w' := fun W b B h => bgRSignZ_any b B 0 W h
  have hWh : ∀ W, Calls Tryz.prog 96 #[.int .i64 0] W (WhoQ 0 W) := fun W => rtWholeN_ok 0 W (by decide) (by decide)
  generalize (0 : Rat) = q0 at *
  clear hq h1 h2 hT hr h0 hs hD hG l1 l2
  have ⟨x0, x1, x2, _, _, _⟩ := X2
  go_enter Tryz.func43, Tryz.ntmps43
  go_upto_region 1 with fail
  rw [← hW2]
  clear hW2
  go_wp2_with fail
  refine tA.mono ?_
  rintro en w3 ⟨b, rfl, Q3, hb3⟩
  have V3 := next hb2 hb3
  have R3 := R2.stay hb3
  clear x0 x1 x2 X2 tA
  go_wp2_with fail
  refine (hsn w3 b _ Q3).mono ?_
  rintro en w3' ⟨rfl, rfl⟩
  go_wp2_with fail
  refine (hWh w3).mono ?_
  rintro en w5 ⟨a3, n3, f3, a4, n4, f4, rfl, F3, F4, hb5⟩
  have V5 := next V3 hb5
  have R5 := R3.stay hb5
  have ⟨r0, r1, r2, _, _, _⟩ := R5
  have hz3 := V3.size
  have hz5 := R3.lt
  clear R3 R2 hWh hsn Q3
  go_wp2
  obtain ⟨t0, t1, t2⟩ := R5.set (.bool (decide (q0.num < 0))) (.slice a3 n3 f3) (.slice a4 n4 f4)
  refine bodyPost_ret (v := .tuple #[.agg #[.bool (decide (q0.num < 0)), .slice a3 n3 f3, .slice a4 n4 f4], .int .i64 0]) (by simp [results, Tryz.results43, go_sem, t0, t1, t2]) rfl ?_
  exact ⟨_, _, _, _, _, _, rfl, (((F3.setCell (by simp; omega) _).setCell (by simp; omega) _).setCell (by simp; omega) _).mono hz3, (((F4.setCell (by simp; omega) _).setCell (by simp; omega) _).setCell (by simp; omega) _).mono hz3, ((V5.setCell (by simp) _).setCell (by simp) _).setCell (by simp) _⟩

set_option maxRecDepth 100000 in
set_option maxHeartbeats 4000000 in
theorem rtHalf_any0 (s : Bool) (a1 a2 : Option Addr) (n1 n2 c1 c2 : Nat) (xs ys : List Nat) (w : World) (h1 : Sl w a1 n1 c1 xs) (h2 : Sl w a2 n2 c2 ys) (hT : Tab w) (hr : ratB s xs ys = true) (h0 : val xs ≠ 0) (l1 : n1 ≤ 1000) (l2 : n2 ≤ 1000) :
    Calls Tryz.prog 43 #[.agg #[.bool s, .slice a1 n1 c1, .slice a2 n2 c2], .int .u32 2, .int .i64 (-1)] w (RtnW (hfQ (sgQ' s (val xs) (val ys))) w) := by
  obtain ⟨W2, hW2⟩ : ∃ W2 : World, W2 = (w.alloc (.cells #[.bool s, .slice a1 n1 c1, .slice a2 n2 c2] 30)).alloc (.cells #[.bool false, .slice none 0 0, .slice none 0 0] 30) := ⟨_, rfl⟩
  have hb2 : Below w.heap.size w W2 := hW2 ▸ more (more (Below.refl _ _) _) _
  have X2 : Box3 W2 w.heap.size (.bool s) (.slice a1 n1 c1) (.slice a2 n2 c2) := hW2 ▸ (box3_new w _ _ _ _).alloc _
  have R2 : Box3 W2 (w.heap.size + 1) (.bool false) (.slice none 0 0) (.slice none 0 0) := by
    have := box3_new (w.alloc (.cells #[.bool s, .slice a1 n1 c1, .slice a2 n2 c2] 30)) (.bool false) (.slice none 0 0) (.slice none 0 0) 30
    rw [World.size_alloc] at this
    exact hW2 ▸ this
  have tA := taken_ok (h1.below hb2) (h2.below hb2) (hT.below hb2) hr
  obtain ⟨_, _, hD, hG, hs, _, _⟩ := rat_facts5 h1 h2 hr
  obtain ⟨q1, q2, _⟩ := mk_low hD hG hs
  have lN : ln (val xs) ≤ 1000 := Nat.le_trans (ln_le (val_lt h1.ok)) (by rw [h1.len]; exact l1)
  have lD : ln (val ys) ≤ 1000 := Nat.le_trans (ln_le (val_lt h2.ok)) (by rw [h2.len]; exact l2)
  obtain ⟨tl1, tl2⟩ := hf_len (sgQ' s (val xs) (val ys))
  rw [q1] at tl1
  rw [q2] at tl2
  have hsz : ¬ (sgQ' s (val xs) (val ys)).num.sign = 0 := fun h => h0 (by have := Int.sign_eq_zero_iff_zero.1 h; omega)
  have hsn : ∀ W b B, Rq 75 W B b (sgQ' s (val xs) (val ys)) → Calls Tryz.prog 95 #[.pointer (some ⟨b, 0, none⟩)] W fun e w' => e = .returned (.int .i64 (sgQ' s (val xs) (val ys)).num.sign) ∧ W = w' := fun W b B h => bgRSignZ_any b B _ W h
  have hTen : hfQ (sgQ' s (val xs) (val ys)) = sgQ' s (val xs) (val ys) * twoQ⁻¹ := rfl
  have tp1 : (twoQ⁻¹).num.natAbs = 1 := by decide +kernel
  have tp2 : (twoQ⁻¹).den = 2 := by decide +kernel
  have hMl : ∀ (W : World) (b b2 B1 B2 : Nat), Below w.heap.size w W → w.heap.size ≤ b → Rq 75 W B1 b (sgQ' s (val xs) (val ys)) → Rq 75 W B2 b2 twoQ⁻¹ → Calls Tryz.prog 102 #[.pointer (some ⟨b, 0, none⟩), .pointer (some ⟨b, 0, none⟩), .pointer (some ⟨b2, 0, none⟩)] W (StQ 75 b w.heap.size (hfQ (sgQ' s (val xs) (val ys))) W) := fun W b b2 B1 B2 hW hb x y => by
    rw [hTen]
    exact bgRMulX_any b w.heap.size B1 B2 b2 _ _ W hb x y (by rw [q1]; omega) (by rw [q2]; omega) (by rw [tp1, ln_one]; decide) (by rw [tp2]; have := ln_small (A := 2) (by decide); exact Nat.le_trans this (by decide)) (hT.below hW)
  have hTo : ∀ (W : World) b B, Rq 75 W B b (hfQ (sgQ' s (val xs) (val ys))) → Calls Tryz.prog 94 #[.pointer (some ⟨b, 0, none⟩)] W (RtnQ (hfQ (sgQ' s (val xs) (val ys))) W) := fun W b B h => told_ok b B _ W h (by omega) (by omega)
  have hL := fun W => len32_any 2 W (by decide) (by decide)
  have h10 : Lib.bitLen (2 : Int).toNat = 2 := bl_two
  rw [h10] at hL
  have hN10 : ∀ W, Calls Tryz.prog 100 #[.int .i64 2] W (MkZ 75 2 W) := fun W => bgNewZ_any 2 W (by decide)
  have hN1 : ∀ W, Calls Tryz.prog 100 #[.int .i64 1] W (MkZ 75 ((1 : Nat) : Int) W) := fun W => bgNewZ_any 1 W (by decide)
  generalize hfQ (sgQ' s (val xs) (val ys)) = qt at *
  generalize hqq : sgQ' s (val xs) (val ys) = q at *
  generalize hsq : q.num.sign = sq at *
  clear hqq hsq h1 h2 hT hr h0 hs hD hG l1 l2 lN lD q1 q2 tl1 tl2 hTen tp1 tp2 h10
  have ⟨x0, x1, x2, _, _, _⟩ := X2
  go_enter Tryz.func43, Tryz.ntmps43
  go_upto_region 1 with fail
  rw [← hW2]
  clear hW2
  go_wp2_with fail
  refine tA.mono ?_
  rintro en w3 ⟨b, rfl, Q3, hb3⟩
  have V3 := next hb2 hb3
  have R3 := R2.stay hb3
  have hbz := Q3.le
  have hs2 := R2.lt
  clear x0 x1 x2 X2 tA
  go_wp2_with fail
  refine (hsn w3 b _ Q3).mono ?_
  rintro en w3' ⟨rfl, rfl⟩
  go_wp2_with fail
  refine (hL w3).mono ?_
  rintro en w3' ⟨rfl, rfl⟩
  have U4 := more (more (Below.refl w3.heap.size w3) (.cells #[.bool false, .slice none 0 0, .slice none 0 0] 131)) (.cells #[.bool false, .slice none 0 0] 129)
  have R4 := (res_new w3 131 (.bool false) (.slice none 0 0) (.slice none 0 0)).stay (more (Below.refl _ _) (.cells #[.bool false, .slice none 0 0] 129))
  have Z4 := zc_new (w3.alloc (.cells #[.bool false, .slice none 0 0, .slice none 0 0] 131)) 129 (.bool false) (.slice none 0 0)
  rw [World.size_alloc] at Z4
  go_wp2_with fail
  refine (hN10 _).mono ?_
  rintro en w5 ⟨c5, rfl, I5, hb5⟩
  have U5 := next U4 hb5
  have R5 := R4.stay hb5
  have Z5 := Z4.stay hb5
  go_wp2_with fail
  refine (hN1 w5).mono ?_
  rintro en w6 ⟨c6, rfl, I6, hb6⟩
  have U6 := next U5 hb6
  have R6 := R5.stay hb6
  have Z6 := Z5.stay hb6
  have I5' := I5.stay hb6
  clear hN10 hN1 R4 Z4 R5 Z5 U5 I5 hL hsn
  have s6 := U6.size
  have hE := bgExp_any (w3.heap.size + 1) w3.heap.size _ _ c5 c6 2 1 w6 Z6 (by omega) I5' I6 (by decide) (by decide) (by decide)
  go_wp2_with fail
  refine hE.mono ?_
  rintro en w7 hS7
  obtain ⟨rfl, I7, hg7⟩ := hS7.in_ Z6 (Nat.le_succ _)
  have U7 := U6.grown hg7 U6.size (by intro k hk; cases hk; omega)
  have R7 : Res3 w7 w3.heap.size := res_row R6 hg7 (by omega)
  clear hS7 hE R6 Z6 I5' I6
  have hSI := bgRSetInt_any w3.heap.size w3.heap.size w3.heap.size (w3.heap.size + 1) _ w7 R7 (Nat.le_refl _) I7 (by decide +kernel)
  go_wp2_with fail
  refine hSI.mono ?_
  rintro en w8 ⟨rfl, Q8, hg8⟩
  have U8 := U7.grown hg8 U7.size (by intro k hk; cases hk; omega)
  change Rq 75 w8 w3.heap.size w3.heap.size (twoQ) at Q8
  have hIn := bgRInv_any w3.heap.size w3.heap.size w3.heap.size w3.heap.size (twoQ) w8 Q8.res (Nat.le_refl _) Q8 ((by decide +kernel : twoQ ≠ 0)) (by decide +kernel) (by decide +kernel)
  go_wp2_with fail
  refine hIn.mono ?_
  rintro en w8' ⟨rfl, Q8', hg8'⟩
  have U8' := U8.grown hg8' U8.size (by intro k hk; cases hk; omega)
  clear Q8 hIn U8
  have Q8 := Q8'
  have U8 := U8'
  clear Q8' U8'
  have V8 := next V3 U8
  have Q3' := Q3.stay U8
  have R8 := R3.stay U8
  have hb3l := Q3.lt
  clear hSI R7 I7 Q3 R3 R2
  go_wp2_with fail
  refine (hMl w8' b w3.heap.size _ _ V8 (Nat.le_trans hb2.size hbz) Q3' Q8).mono ?_
  rintro en w9 ⟨rfl, Q9, hg9⟩
  have V9 := V8.grown hg9 V8.size (by intro k hk; cases hk; exact Nat.le_trans hb2.size hbz)
  have hz5 := R8.lt
  have R9 := box3_row R8 hg9 (by omega)
  clear hMl Q3' Q8 R8
  go_wp2_with fail
  refine (hTo w9 b _ Q9).mono ?_
  rintro en w10 ⟨a3, n3, f3, a4, n4, f4, rfl, F3, F4, hap, hb10⟩
  have V10 := next V9 hb10
  have R10 := R9.stay hb10
  have ⟨r0, r1, r2, _, _, _⟩ := R10
  have hz9 := V9.size
  have hz10 := R9.lt
  clear R9 hTo Q9
  go_wp2
  obtain ⟨t0, t1, t2⟩ := R10.set (.bool (decide (qt.num < 0))) (.slice a3 n3 f3) (.slice a4 n4 f4)
  refine bodyPost_ret (v := .tuple #[.agg #[.bool (decide (qt.num < 0)), .slice a3 n3 f3, .slice a4 n4 f4], .int .i64 0]) (by simp [results, Tryz.results43, go_sem, t0, t1, t2]) rfl ?_
  exact ⟨_, _, _, _, _, _, rfl, (((F3.setCell (by simp; omega) _).setCell (by simp; omega) _).setCell (by simp; omega) _).mono hz9, (((F4.setCell (by simp; omega) _).setCell (by simp; omega) _).setCell (by simp; omega) _).mono hz9, ((V10.setCell (by simp) _).setCell (by simp) _).setCell (by simp) _⟩

theorem rtHalf_ok (s : Bool) (a1 a2 : Option Addr) (n1 n2 c1 c2 : Nat) (xs ys : List Nat) (w : World) (h1 : Sl w a1 n1 c1 xs) (h2 : Sl w a2 n2 c2 ys) (hT : Tab w) (hr : ratB s xs ys = true) (l1 : n1 ≤ 1000) (l2 : n2 ≤ 1000) :
    Calls Tryz.prog 43 #[.agg #[.bool s, .slice a1 n1 c1, .slice a2 n2 c2], .int .u32 2, .int .i64 (-1)] w (RtnW (hfQ (sgQ' s (val xs) (val ys))) w) := by
  by_cases h0 : val xs = 0
  · exact rtHalf_zero s a1 a2 n1 n2 c1 c2 xs ys w h1 h2 hT hr h0
  · exact rtHalf_any0 s a1 a2 n1 n2 c1 c2 xs ys w h1 h2 hT hr h0 l1 l2

end Go.Proofs.YtfjgmpfpadfknaaGreatDoor

