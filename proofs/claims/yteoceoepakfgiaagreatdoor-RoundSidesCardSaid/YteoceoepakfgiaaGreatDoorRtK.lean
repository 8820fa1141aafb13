/-
  Contracts of ratio: of (with Sub), Sub, Whole, Neg, of what may be.
-/
import Derived.Test.YteoceoepakfgiaaGreatDoorOrdW
import Derived.Test.YteoceoepakfgiaaGreatDoorRtD
namespace Go.Proofs.YteoceoepakfgiaaGreatDoor
open Go.RowKit Go.Lb

attribute [local go_sem] Go.World.cell?_alloc_some

/-- An answered fraction, by its worth. -/
def RtnQ (q : Rat) (w : World) (en : Ending) (w' : World) : Prop := Rtn (decide (q.num < 0)) q.num.natAbs q.den 0 w en w'

theorem told_ok (b base : Nat) (q : Rat) (w : World) (h : Rq 37 w base b q) (l1 : ln q.num.natAbs ≤ 16384) (l2 : ln q.den ≤ 16384) :
    Calls Tryz.prog 34 #[.pointer (some ⟨b, 0, none⟩)] w (RtnQ q w) := by
  have hs : nzB (decide (q.num < 0)) q.num.natAbs = decide (q.num < 0) := nzB_nat _ _ rfl
  unfold RtnQ
  rw [← hs]
  exact rtTold_yes b base _ _ _ w h (Nat.le_trans l1 (by decide)) (Nat.le_trans l2 (by decide)) (decide_eq_false (by unfold ln at l1; omega)) (decide_eq_false (by unfold ln at l2; omega))

theorem subEnter (args : Array Value) (w : World) : Sem.run Tryz.prog (callFunc 38 args) w = .ok (.enter 38 args) w := by kernel_rfl

/-- The worth of a difference has few words. -/
theorem sub_len (x y : Rat) : ln (x - y).num.natAbs ≤ ln x.num.natAbs + ln x.den + ln y.num.natAbs + ln y.den + 1 ∧ ln (x - y).den ≤ ln x.den + ln y.den := by
  have hd : x.den * y.den ≠ 0 := Nat.mul_ne_zero x.den_nz y.den_nz
  have e : x - y = mkRat (x.num * y.den - y.num * x.den) (x.den * y.den) := Rat.sub_def' x y
  obtain ⟨h1, h2⟩ := mk_len (x.num * y.den - y.num * x.den) hd
  rw [e]
  have k1 : (x.num * y.den - y.num * x.den).natAbs ≤ x.num.natAbs * y.den + y.num.natAbs * x.den := by
    refine Nat.le_trans (Int.natAbs_sub_le _ _) ?_
    rw [Int.natAbs_mul, Int.natAbs_mul, Int.natAbs_natCast, Int.natAbs_natCast]
    exact Nat.le_refl _
  have k2 := ln_mono k1
  have k3 := ln_add' (x.num.natAbs * y.den) (y.num.natAbs * x.den)
  have k4 := ln_mul x.num.natAbs y.den
  have k5 := ln_mul y.num.natAbs x.den
  have k6 := ln_mul x.den y.den
  have k7 : ln (x.num.natAbs * y.den + y.num.natAbs * x.den) ≤ ln x.num.natAbs + ln x.den + ln y.num.natAbs + ln y.den + 1 := ln_add (by omega) (by omega)
  omega

theorem box3_row {w w' : World} {b z : Nat} {u v x : Value} (h : Box3 w b u v x) (hg : w.grownBy w' (some z)) (hne : b ≠ z) : Box3 w' b u v x := by
  have hb : w'.heap[b]? = w.heap[b]? := hg.block b h.lt (fun e => hne (by cases e; rfl))
  exact ⟨(World.cell?_of_block hb).trans h.c0, (World.cell?_of_block hb).trans h.c1, (World.cell?_of_block hb).trans h.c2, (World.frozen?_of_block hb).trans h.z0, (World.frozen?_of_block hb).trans h.z1, (World.frozen?_of_block hb).trans h.z2⟩

set_option maxRecDepth 100000 in
set_option maxHeartbeats 3000000 in
theorem rtOf_sub (w0 : World) (z : Nat) (s t : Bool) (a1 a2 b1 b2 : Option Addr) (n1 n2 m1 m2 c1 c2 d1 d2 : Nat) (xs ys us vs : List Nat) (w : World) (h1 : Sl w a1 n1 c1 xs) (h2 : Sl w a2 n2 c2 ys) (h3 : Sl w b1 m1 d1 us) (h4 : Sl w b2 m2 d2 vs) (hT : Tab w) (hr : ratB s xs ys = true) (ht : ratB t us vs = true)
    (hw : Below w0.heap.size w0 w) (hz : w0.heap.size ≤ z) (hR : Res3 w z) (hH : Hd 37 w z) (l1 : n1 ≤ 1000) (l2 : n2 ≤ 1000) (l3 : m1 ≤ 1000) (l4 : m2 ≤ 1000) :
    Calls Tryz.prog 37 #[.agg #[.bool s, .slice a1 n1 c1, .slice a2 n2 c2], .agg #[.bool t, .slice b1 m1 d1, .slice b2 m2 d2], .func (.func 38) #[.pointer (some ⟨z, 0, none⟩)] #[]] w (RtnQ (sgQ' s (val xs) (val ys) - sgQ' t (val us) (val vs)) w0) := by
  obtain ⟨W3, hW3⟩ : ∃ W3 : World, W3 = ((w.alloc (.cells #[.bool s, .slice a1 n1 c1, .slice a2 n2 c2] 26)).alloc (.cells #[.bool t, .slice b1 m1 d1, .slice b2 m2 d2] 26)).alloc (.cells #[.bool false, .slice none 0 0, .slice none 0 0] 26) := ⟨_, rfl⟩
  have hb3 : Below w.heap.size w W3 := hW3 ▸ more (more (more (Below.refl _ _) _) _) _
  have X3 : Box3 W3 w.heap.size (.bool s) (.slice a1 n1 c1) (.slice a2 n2 c2) := hW3 ▸ ((box3_new w _ _ _ _).alloc _).alloc _
  have Y3 : Box3 W3 (w.heap.size + 1) (.bool t) (.slice b1 m1 d1) (.slice b2 m2 d2) := by
    have := (box3_new (w.alloc (.cells #[.bool s, .slice a1 n1 c1, .slice a2 n2 c2] 26)) (.bool t) (.slice b1 m1 d1) (.slice b2 m2 d2) 26).alloc (.cells #[.bool false, .slice none 0 0, .slice none 0 0] 26)
    rw [World.size_alloc] at this
    exact hW3 ▸ this
  have R3 : Box3 W3 (w.heap.size + 2) (.bool false) (.slice none 0 0) (.slice none 0 0) := by
    have := box3_new ((w.alloc (.cells #[.bool s, .slice a1 n1 c1, .slice a2 n2 c2] 26)).alloc (.cells #[.bool t, .slice b1 m1 d1, .slice b2 m2 d2] 26)) (.bool false) (.slice none 0 0) (.slice none 0 0) 26
    rw [World.size_alloc, World.size_alloc] at this
    exact hW3 ▸ this
  have tA := taken_ok (h1.below hb3) (h2.below hb3) (hT.below hb3) hr
  have tB : ∀ W, Below w.heap.size w W → Calls Tryz.prog 39 #[.agg #[.bool t, .slice b1 m1 d1, .slice b2 m2 d2]] W _ := fun W hW => taken_ok (h3.below hW) (h4.below hW) (hT.below hW) ht
  obtain ⟨_, _, hD, hG, hs, _, _⟩ := rat_facts5 h1 h2 hr
  obtain ⟨_, _, hD', hG', hs', _, _⟩ := rat_facts5 h3 h4 ht
  obtain ⟨q1, q2, _⟩ := mk_low hD hG hs
  obtain ⟨r1, r2, _⟩ := mk_low hD' hG' hs'
  have lN : ln (val xs) ≤ 1000 := Nat.le_trans (ln_le (val_lt h1.ok)) (by rw [h1.len]; exact l1)
  have lD : ln (val ys) ≤ 1000 := Nat.le_trans (ln_le (val_lt h2.ok)) (by rw [h2.len]; exact l2)
  have lM : ln (val us) ≤ 1000 := Nat.le_trans (ln_le (val_lt h3.ok)) (by rw [h3.len]; exact l3)
  have lE : ln (val vs) ≤ 1000 := Nat.le_trans (ln_le (val_lt h4.ok)) (by rw [h4.len]; exact l4)
  obtain ⟨sl1, sl2⟩ := sub_len (sgQ' s (val xs) (val ys)) (sgQ' t (val us) (val vs))
  rw [q1, q2, r1, r2] at sl1
  rw [q2, r2] at sl2
  have hzl := hR.lt
  have hSb : ∀ (W : World) (B1 B2 z1 z2 : Nat), Below w.heap.size w W → Rq 37 W B1 z1 (sgQ' s (val xs) (val ys)) → Rq 37 W B2 z2 (sgQ' t (val us) (val vs)) → Calls Tryz.prog 38 #[.pointer (some ⟨z, 0, none⟩), .pointer (some ⟨z1, 0, none⟩), .pointer (some ⟨z2, 0, none⟩)] W (StQ 37 z w0.heap.size (sgQ' s (val xs) (val ys) - sgQ' t (val us) (val vs)) W) := fun W B1 B2 z1 z2 hW x y => bgRSub_any z w0.heap.size B1 B2 z1 z2 _ _ W (hR.stay hW) (hH.stay hzl hW) hz x y (by rw [q1]; omega) (by rw [q2]; omega) (by rw [r1]; omega) (by rw [r2]; omega) (hT.below hW)
  have hTo : ∀ (W : World), Rq 37 W w0.heap.size z (sgQ' s (val xs) (val ys) - sgQ' t (val us) (val vs)) → Calls Tryz.prog 34 #[.pointer (some ⟨z, 0, none⟩)] W (RtnQ (sgQ' s (val xs) (val ys) - sgQ' t (val us) (val vs)) W) := fun W h => told_ok z _ _ W h (by omega) (by omega)
  have hEn := subEnter
  generalize sgQ' s (val xs) (val ys) - sgQ' t (val us) (val vs) = qd at *
  generalize sgQ' s (val xs) (val ys) = qx at *
  generalize sgQ' t (val us) (val vs) = qy at *
  clear q1 q2 r1 r2 hD hG hs hD' hG' hs' l1 l2 l3 l4 lN lD lM lE h1 h2 h3 h4 hr ht hT sl1 sl2 hR hH
  have ⟨x0, x1, x2, _, _, _⟩ := X3
  go_enter Tryz.func37, Tryz.ntmps37
  go_wp2_with fail
  rw [← hW3]
  clear hW3
  refine tA.mono ?_
  rintro en w4 ⟨z1, rfl, Q1, hb4⟩
  have V4 := next hb3 hb4
  have Y4 := Y3.stay hb4
  have R4 := R3.stay hb4
  clear x0 x1 x2 X3 Y3 R3 tA hb3 hb4
  have ⟨y0, y1, y2, _, _, _⟩ := Y4
  go_wp2_with fail
  refine (tB w4 V4).mono ?_
  rintro en w5 ⟨z2, rfl, Q2, hb5⟩
  have V5 := next V4 hb5
  have R5 := R4.stay hb5
  have Q1' := Q1.stay hb5
  clear y0 y1 y2 Y4 R4 tB hb5 V4 Q1
  go_wp2_with fail
  refine (hSb w5 _ _ z1 z2 V5 Q1' Q2).mono ?_
  rintro en w6 ⟨rfl, Q6, hg6⟩
  have hwz := V5.size
  have U6 : Below w0.heap.size w0 w6 := (next hw V5).grown hg6 (next hw V5).size (by intro k hk; cases hk; exact hz)
  have R6 := box3_row R5 hg6 (by omega)
  clear hSb Q1' Q2 R5
  go_wp2_with fail
  refine (hTo w6 Q6).mono ?_
  rintro en w7 ⟨a3, n3, f3, a4, n4, f4, rfl, F3, F4, hap, hb7⟩
  have U7 := next U6 hb7
  have R7 := R6.stay hb7
  have ⟨r0, r1, r2, _, _, _⟩ := R7
  have hz6 := U6.size
  have hz7 := R6.lt
  have hzz := hw.size
  clear R6 hTo Q6
  go_wp2
  obtain ⟨t0, t1, t2⟩ := R7.set (.bool (decide (qd.num < 0))) (.slice a3 n3 f3) (.slice a4 n4 f4)
  refine bodyPost_ret (v := .tuple #[.agg #[.bool (decide (qd.num < 0)), .slice a3 n3 f3, .slice a4 n4 f4], .int .i64 0]) (by simp [results, Tryz.results37, go_sem, t0, t1, t2]) rfl ?_
  exact ⟨_, _, _, _, _, _, rfl, (((F3.setCell (by simp; omega) _).setCell (by simp; omega) _).setCell (by simp; omega) _).mono hz6, (((F4.setCell (by simp; omega) _).setCell (by simp; omega) _).setCell (by simp; omega) _).mono hz6, hap, ((U7.setCell (by simp; omega) _).setCell (by simp; omega) _).setCell (by simp; omega) _⟩

set_option maxRecDepth 100000 in
set_option maxHeartbeats 3000000 in
theorem rtSub_ok (s t : Bool) (a1 a2 b1 b2 : Option Addr) (n1 n2 m1 m2 c1 c2 d1 d2 : Nat) (xs ys us vs : List Nat) (w : World) (h1 : Sl w a1 n1 c1 xs) (h2 : Sl w a2 n2 c2 ys) (h3 : Sl w b1 m1 d1 us) (h4 : Sl w b2 m2 d2 vs) (hT : Tab w) (hr : ratB s xs ys = true) (ht : ratB t us vs = true)
    (l1 : n1 ≤ 1000) (l2 : n2 ≤ 1000) (l3 : m1 ≤ 1000) (l4 : m2 ≤ 1000) :
    Calls Tryz.prog 11 #[.agg #[.bool s, .slice a1 n1 c1, .slice a2 n2 c2], .agg #[.bool t, .slice b1 m1 d1, .slice b2 m2 d2]] w (RtnQ (sgQ' s (val xs) (val ys) - sgQ' t (val us) (val vs)) w) := by
  obtain ⟨W3, hW3⟩ : ∃ W3 : World, W3 = ((w.alloc (.cells #[.bool s, .slice a1 n1 c1, .slice a2 n2 c2] 26)).alloc (.cells #[.bool t, .slice b1 m1 d1, .slice b2 m2 d2] 26)).alloc (.cells #[.bool false, .slice none 0 0, .slice none 0 0] 26) := ⟨_, rfl⟩
  have hb3 : Below w.heap.size w W3 := hW3 ▸ more (more (more (Below.refl _ _) _) _) _
  have R3 : Box3 W3 (w.heap.size + 2) (.bool false) (.slice none 0 0) (.slice none 0 0) := by
    have := box3_new ((w.alloc (.cells #[.bool s, .slice a1 n1 c1, .slice a2 n2 c2] 26)).alloc (.cells #[.bool t, .slice b1 m1 d1, .slice b2 m2 d2] 26)) (.bool false) (.slice none 0 0) (.slice none 0 0) 26
    rw [World.size_alloc, World.size_alloc] at this
    exact hW3 ▸ this
  have X3 : Box3 W3 w.heap.size (.bool s) (.slice a1 n1 c1) (.slice a2 n2 c2) := hW3 ▸ ((box3_new w _ _ _ _).alloc _).alloc _
  have Y3 : Box3 W3 (w.heap.size + 1) (.bool t) (.slice b1 m1 d1) (.slice b2 m2 d2) := by
    have := (box3_new (w.alloc (.cells #[.bool s, .slice a1 n1 c1, .slice a2 n2 c2] 26)) (.bool t) (.slice b1 m1 d1) (.slice b2 m2 d2) 26).alloc (.cells #[.bool false, .slice none 0 0, .slice none 0 0] 26)
    rw [World.size_alloc] at this
    exact hW3 ▸ this
  have V4 := more hb3 (.cells #[.bool false, .slice none 0 0, .slice none 0 0] 79)
  have hO := rtOf_sub W3 W3.heap.size s t a1 a2 b1 b2 n1 n2 m1 m2 c1 c2 d1 d2 xs ys us vs (W3.alloc (.cells #[.bool false, .slice none 0 0, .slice none 0 0] 79)) (h1.below V4) (h2.below V4) (h3.below V4) (h4.below V4) (hT.below V4) hr ht (more (Below.refl _ _) _) (Nat.le_refl _) (res_new W3 _ _ _ _) (hd_new W3 _ (by decide)) l1 l2 l3 l4
  generalize sgQ' s (val xs) (val ys) - sgQ' t (val us) (val vs) = qd at *
  clear V4 h1 h2 h3 h4 hT hr ht l1 l2 l3 l4
  have ⟨x0, x1, x2, _, _, _⟩ := X3
  have ⟨y0, y1, y2, _, _, _⟩ := Y3
  go_enter Tryz.func11, Tryz.ntmps11
  go_upto_region 1 with fail
  rw [← hW3]
  clear hW3
  go_wp2_with fail
  refine hO.mono ?_
  rintro en w5 ⟨a3, n3, f3, a4, n4, f4, rfl, F3, F4, hap, hb5⟩
  have V5 := next hb3 hb5
  have R5 := R3.stay hb5
  have ⟨r0, r1, r2, _, _, _⟩ := R5
  have hz3 := hb3.size
  have hz5 := R3.lt
  clear x0 x1 x2 y0 y1 y2 X3 Y3 R3 hO
  go_wp2
  obtain ⟨t0, t1, t2⟩ := R5.set (.bool (decide (qd.num < 0))) (.slice a3 n3 f3) (.slice a4 n4 f4)
  refine bodyPost_ret (v := .tuple #[.agg #[.bool (decide (qd.num < 0)), .slice a3 n3 f3, .slice a4 n4 f4], .int .i64 0]) (by simp [results, Tryz.results11, go_sem, t0, t1, t2]) rfl ?_
  exact ⟨_, _, _, _, _, _, rfl, (((F3.setCell (by simp; omega) _).setCell (by simp; omega) _).setCell (by simp; omega) _).mono hz3, (((F4.setCell (by simp; omega) _).setCell (by simp; omega) _).setCell (by simp; omega) _).mono hz3, hap, ((V5.setCell (by simp; omega) _).setCell (by simp; omega) _).setCell (by simp; omega) _⟩

/-- An answered fraction without an error. -/
def WhoQ (q : Rat) (w : World) (en : Ending) (w' : World) : Prop :=
  ∃ a1 n1 c1 a2 n2 c2, en = .returned (.agg #[.bool (decide (q.num < 0)), .slice a1 n1 c1, .slice a2 n2 c2]) ∧ Fr 37 w' w.heap.size a1 n1 c1 (limbs q.num.natAbs) ∧ Fr 37 w' w.heap.size a2 n2 c2 (limbs q.den) ∧ Below w.heap.size w w'

set_option maxRecDepth 100000 in
set_option maxHeartbeats 3000000 in
theorem rtWholeN_ok (n : Int) (w : World) (hn : -2147483648 ≤ n) (hn2 : n ≤ 2147483647) :
    Calls Tryz.prog 13 #[.int .i64 n] w (WhoQ ((n : Int) : Rat) w) := by
  obtain ⟨W1, hW1⟩ : ∃ W1 : World, W1 = w.alloc (.cells #[.bool false, .slice none 0 0, .slice none 0 0] 26) := ⟨_, rfl⟩
  have hb1 : Below w.heap.size w W1 := hW1 ▸ more (Below.refl _ _) _
  have R1 : Box3 W1 w.heap.size (.bool false) (.slice none 0 0) (.slice none 0 0) := hW1 ▸ box3_new w _ _ _ _
  have hSI := bgRSetInt64_any W1.heap.size W1.heap.size n (W1.alloc (.cells #[.bool false, .slice none 0 0, .slice none 0 0] 79)) (res_new W1 _ _ _ _) (Nat.le_refl _) (by omega)
  have l1 : ln ((n : Int) : Rat).num.natAbs ≤ 16384 := by rw [Rat.num_intCast]; exact Nat.le_trans (ln_small (by omega)) (by decide)
  have l2 : ln ((n : Int) : Rat).den ≤ 16384 := by rw [Rat.den_intCast, ln_one]; decide
  have hTo : ∀ (W : World) b B, Rq 37 W B b ((n : Int) : Rat) → Calls Tryz.prog 34 #[.pointer (some ⟨b, 0, none⟩)] W (RtnQ ((n : Int) : Rat) W) := fun W b B h => told_ok b B _ W h l1 l2
  generalize ((n : Int) : Rat) = q at *
  clear l1 l2
  go_enter Tryz.func13, Tryz.ntmps13
  go_upto_region 1 with fail
  rw [← hW1]
  clear hW1
  go_wp2_with fail
  refine hSI.mono ?_
  rintro en w3 hS3
  obtain ⟨b, rfl, Q3, hb3⟩ := hS3.mk
  have R3 := R1.stay hb3
  go_wp2_with fail
  refine (hTo w3 b _ Q3).mono ?_
  rintro en w4 ⟨a3, n3, f3, a4, n4, f4, rfl, F3, F4, hap, hb4⟩
  have V4 := next (next hb1 hb3) hb4
  have R4 := (R3.stay hb4).alloc (.cells #[.bool (decide (q.num < 0)), .slice a3 n3 f3, .slice a4 n4 f4] 26)
  have N4 := box3_new w4 (.bool (decide (q.num < 0))) (.slice a3 n3 f3) (.slice a4 n4 f4) 26
  have V5 := more V4 (.cells #[.bool (decide (q.num < 0)), .slice a3 n3 f3, .slice a4 n4 f4] 26)
  have G3 := F3.alloc (.cells #[.bool (decide (q.num < 0)), .slice a3 n3 f3, .slice a4 n4 f4] 26)
  have G4 := F4.alloc (.cells #[.bool (decide (q.num < 0)), .slice a3 n3 f3, .slice a4 n4 f4] 26)
  have hz1 := R1.lt
  have hz3 := hb3.size
  have hz0 := hb1.size
  clear hSI hTo Q3 R1 R3 F3 F4
  go_upto_region 2 with fail
  obtain ⟨q4, hq4⟩ : ∃ q, q = w4.heap.size := ⟨_, rfl⟩
  rw [← hq4] at N4 ⊢
  clear hq4 V4 hb3 hb4
  generalize w4.alloc (.cells #[.bool (decide (q.num < 0)), .slice a3 n3 f3, .slice a4 n4 f4] 26) = w5 at R4 N4 V5 G3 G4 ⊢
  have ⟨r0, r1, r2, _, _, _⟩ := R4
  have ⟨m0, m1, m2, _, _, _⟩ := N4
  go_wp2
  obtain ⟨t0, t1, t2⟩ := R4.set (.bool (decide (q.num < 0))) (.slice a3 n3 f3) (.slice a4 n4 f4)
  refine bodyPost_ret (v := .agg #[.bool (decide (q.num < 0)), .slice a3 n3 f3, .slice a4 n4 f4]) (by simp [results, Tryz.results13, go_sem, t0, t1, t2]) rfl ?_
  exact ⟨_, _, _, _, _, _, rfl, (((G3.setCell (by simp; omega) _).setCell (by simp; omega) _).setCell (by simp; omega) _).mono (by omega), (((G4.setCell (by simp; omega) _).setCell (by simp; omega) _).setCell (by simp; omega) _).mono (by omega), ((V5.setCell (Nat.le_refl _) _).setCell (Nat.le_refl _) _).setCell (Nat.le_refl _) _⟩

end Go.Proofs.YteoceoepakfgiaaGreatDoor
