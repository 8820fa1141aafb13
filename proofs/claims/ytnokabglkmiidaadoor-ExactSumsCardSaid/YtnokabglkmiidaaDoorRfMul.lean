/-
  The walks of the reference's Neg and Mul of dyadics. (Printed by wip/gen/rf.py out of XExMul.)
-/
import Derived.Test.YtnokabglkmiidaaDoorExMul
import Derived.Test.YtnokabglkmiidaaDoorRefNum
import Derived.Test.YtnokabglkmiidaaDoorRefMake
namespace Go.Proofs.YtnokabglkmiidaaDoor
open Go.RowKit Go.Lb

set_option maxRecDepth 100000 in
set_option maxHeartbeats 1600000 in
theorem rfNeg_any (s : Bool) (ao : Option Addr) (n c : Nat) (x : Int) (ys : List Nat) (w : World) (h : Sl w ao n c ys) :
    Calls Tryd.prog 27 #[.agg #[.bool s, .slice ao n c, .int .i64 x]] w (Dyn (negA s ys x) w) := by
  by_cases h0 : dchk s ys x = 0
  · have hc := dchk_chk h0
    have hlen := chk_zero_len hc
    rw [h.len] at hlen
    have h0B : (dchk s ys x != 0) = false := by simp [h0]
    by_cases hv : val ys = 0
    · obtain rfl := (val_zero_n h hc).1 hv
      have hA : negA s ys x = noA 0 := by unfold negA; rw [if_neg (by simp [h0]), if_pos hv]
      rw [hA]
      have hnB : noneB 0 = true := rfl
      go_enter Tryd.func27, Tryd.ntmps27
      go_wp2_with (first
        | (go_at_call 62; refine (refDyCheck_any s ao 0 c x ys _ ((h.alloc _).alloc _)).mono ?_; rintro e w1 ⟨rfl, hb1⟩; rw [h0]; have A := ((box3_new w _ _ _ _).alloc _).stay hb1; have B := (box3_new _ _ _ _ _).stay hb1; rw [World.size_alloc] at B; have hW := next (more (more (Below.refl _ _) _) _) hb1; have ⟨q0, q1, q2, qz0, qz1, qz2⟩ := A; have ⟨p0, p1, p2, pz0, pz1, pz2⟩ := B)
        | (go_at_call 31; refine (refNone_any _ 0 c _).mono ?_; rintro e w2 ⟨rfl, hb2⟩; rw [hnB]; replace hW := next hW hb2; replace B := B.stay hb2; have ⟨p0', p1', p2', pz0', pz1', pz2'⟩ := B))
      have ⟨t0, t1, t2⟩ := B.set (.bool false) (.slice none 0 0) (.int .i64 0)
      refine bodyPost_ret (v := .tuple #[.agg #[.bool false, .slice none 0 0, .int .i64 0], .int .i64 0]) (by simp [results, Tryd.results27, go_sem, t0, t1, t2]) rfl (dyn_no (((hW.setCell (by simp) _).setCell (by simp) _).setCell (by simp) _))
    · have hn0 : n ≠ 0 := fun hh => hv ((val_zero_n h hc).2 hh)
      have hA : negA s ys x = ⟨!s, val ys, x, 0⟩ := by unfold negA; rw [if_neg (by simp [h0]), if_neg hv]
      rw [hA]
      have hnB : noneB n = false := by unfold noneB; exact decide_eq_false hn0
      go_enter Tryd.func27, Tryd.ntmps27
      go_wp2_with (first
        | (go_at_call 62; refine (refDyCheck_any s ao n c x ys _ ((h.alloc _).alloc _)).mono ?_; rintro e w1 ⟨rfl, hb1⟩; rw [h0]; have A := ((box3_new w _ _ _ _).alloc _).stay hb1; have B := (box3_new _ _ _ _ _).stay hb1; rw [World.size_alloc] at B; have hW := next (more (more (Below.refl _ _) _) _) hb1; have ⟨q0, q1, q2, qz0, qz1, qz2⟩ := A; have ⟨p0, p1, p2, pz0, pz1, pz2⟩ := B)
        | (go_at_call 31; refine (refNone_any _ n c _).mono ?_; rintro e w2 ⟨rfl, hb2⟩; rw [hnB]; replace hW := next hW hb2; replace A := A.stay hb2; replace B := B.stay hb2; have ⟨q0', q1', q2', qz0', qz1', qz2'⟩ := A; have ⟨p0', p1', p2', pz0', pz1', pz2'⟩ := B)
        | (go_at_call 29; refine (rfTwin_any s ao n c x ys _ (h.below hW) (by omega)).mono ?_; rintro e w3 ⟨a3, c3, rfl, hF, hb3⟩; have hl := B.lt; have hsz := hW.size; replace hW := next hW hb3; replace A := (A.stay hb3).alloc (.cells #[.bool s, .slice a3 n c3, .int .i64 x] 26); have E := (B.stay hb3).alloc (.cells #[.bool (!s), .slice a3 n c3, .int .i64 x] 26); have ⟨e0, e1, e2, ez0, ez1, ez2⟩ := E; replace B := (B.stay hb3).alloc (.cells #[.bool s, .slice a3 n c3, .int .i64 x] 26); have D := box3_new w3 (.bool s) (.slice a3 n c3) (.int .i64 x) 26; have ⟨q3, q4, q5, qz3, qz4, qz5⟩ := A; have ⟨p3, p4, p5, pz3, pz4, pz5⟩ := B; have ⟨d0, d1, d2, dz0, dz1, dz2⟩ := D; have hWa := more hW (.cells #[.bool (!s), .slice a3 n c3, .int .i64 x] 26)))
      have ⟨t0, t1, t2⟩ := E.set (.bool (!s)) (.slice a3 n c3) (.int .i64 x)
      refine bodyPost_ret (v := .tuple #[.agg #[.bool (!s), .slice a3 n c3, .int .i64 x], .int .i64 0]) (by simp [results, Tryd.results27, go_sem, t0, t1, t2]) rfl ⟨a3, n, c3, rfl, ?_, ((hWa.setCell (by simp) _).setCell (by simp) _).setCell (by simp) _⟩
      rw [limbs_of_chk h.ok hc]
      refine Fr.mono (Fr.setCell (Fr.setCell (Fr.setCell (hF.alloc _) ?_ _) ?_ _) ?_ _) hsz <;> exact hl
  · have hA : negA s ys x = noA (dchk s ys x) := by unfold negA; rw [if_pos h0]
    rw [hA]
    have h0B : (dchk s ys x != 0) = true := by simp [h0]
    have h1B : (dchk s ys x == 0) = false := by simp [h0]
    go_enter Tryd.func27, Tryd.ntmps27
    go_wp2_with (first
      | (go_at_call 62; refine (refDyCheck_any s ao n c x ys _ ((h.alloc _).alloc _)).mono ?_; rintro e w1 ⟨rfl, hb1⟩; have A := ((box3_new w _ _ _ _).alloc _).stay hb1; have B := (box3_new _ _ _ _ _).stay hb1; rw [World.size_alloc] at B; have hW := next (more (more (Below.refl _ _) _) _) hb1; have ⟨q0, q1, q2, qz0, qz1, qz2⟩ := A; have ⟨p0, p1, p2, pz0, pz1, pz2⟩ := B))
    have ⟨t0, t1, t2⟩ := B.set (.bool false) (.slice none 0 0) (.int .i64 0)
    refine bodyPost_ret (v := .tuple #[.agg #[.bool false, .slice none 0 0, .int .i64 0], .int .i64 (dchk s ys x)]) (by simp [results, Tryd.results27, go_sem, t0, t1, t2]) rfl (dyn_no (((hW.setCell (by simp) _).setCell (by simp) _).setCell (by simp) _))

/-- two ahead of what answers a dyadic: its three blocks lie there behind it. -/
theorem two_new (s t : Bool) (a1 a2 : Option Addr) (n1 n2 c1 c2 : Nat) (x y : Int) (xs ys : List Nat) (w : World) (r0 r1 r2 : Value) (ty : TypeId) (h1 : Sl w a1 n1 c1 xs) (h2 : Sl w a2 n2 c2 ys) :
    Calls Tryd.prog 89 #[.agg #[.bool s, .slice a1 n1 c1, .int .i64 x], .agg #[.bool t, .slice a2 n2 c2, .int .i64 y]] (((w.alloc (.cells #[.bool s, .slice a1 n1 c1, .int .i64 x] 26)).alloc (.cells #[.bool t, .slice a2 n2 c2, .int .i64 y] 26)).alloc (.cells #[r0, r1, r2] ty)) fun e w' =>
      e = .returned (.int .i64 (cmpF s xs x t ys y)) ∧ Below w.heap.size w w' ∧ Box3 w' w.heap.size (.bool s) (.slice a1 n1 c1) (.int .i64 x) ∧ Box3 w' (w.heap.size + 1) (.bool t) (.slice a2 n2 c2) (.int .i64 y) ∧ Box3 w' (w.heap.size + 1 + 1) r0 r1 r2 := by
  refine (rfTwo_any s t a1 a2 n1 n2 c1 c2 x y xs ys _ (((h1.alloc _).alloc _).alloc _) (((h2.alloc _).alloc _).alloc _)).mono ?_
  rintro e w' ⟨rfl, hb⟩
  refine ⟨rfl, next (more (more (more (Below.refl _ _) _) _) _) hb, (((box3_new w _ _ _ _).alloc _).alloc _).stay hb, ?_, ?_⟩
  · have := ((box3_new (w.alloc (.cells #[.bool s, .slice a1 n1 c1, .int .i64 x] 26)) (.bool t) (.slice a2 n2 c2) (.int .i64 y) 26).alloc (.cells #[r0, r1, r2] ty)).stay hb
    rw [World.size_alloc] at this
    exact this
  · have := (box3_new ((w.alloc (.cells #[.bool s, .slice a1 n1 c1, .int .i64 x] 26)).alloc (.cells #[.bool t, .slice a2 n2 c2, .int .i64 y] 26)) r0 r1 r2 ty).stay hb
    rw [World.size_alloc, World.size_alloc] at this
    exact this

set_option maxRecDepth 100000 in
set_option maxHeartbeats 1600000 in
theorem rfMul_bad (s t : Bool) (a1 a2 : Option Addr) (n1 n2 c1 c2 : Nat) (x y : Int) (xs ys : List Nat) (w : World) (h1 : Sl w a1 n1 c1 xs) (h2 : Sl w a2 n2 c2 ys) (h0 : cmpF s xs x t ys y ≠ 0) :
    Calls Tryd.prog 59 #[.agg #[.bool s, .slice a1 n1 c1, .int .i64 x], .agg #[.bool t, .slice a2 n2 c2, .int .i64 y]] w (Dyn (noA (cmpF s xs x t ys y)) w) := by
  have h0B : (cmpF s xs x t ys y != 0) = true := by simp [h0]
  have h1B : (cmpF s xs x t ys y == 0) = false := by simp [h0]
  generalize hE : cmpF s xs x t ys y = E at h0 h0B h1B
  go_enter Tryd.func59, Tryd.ntmps59
  go_wp2_with (first
    | (go_at_call 89; refine (two_new s t a1 a2 n1 n2 c1 c2 x y xs ys w _ _ _ _ h1 h2).mono ?_; rintro e w1 ⟨rfl, hW, -, -, R⟩; rw [hE]; have ⟨r0, r1, r2, rz0, rz1, rz2⟩ := R))
  have ⟨t0, t1, t2⟩ := R.set (.bool false) (.slice none 0 0) (.int .i64 0)
  refine bodyPost_ret (v := .tuple #[.agg #[.bool false, .slice none 0 0, .int .i64 0], .int .i64 E]) (by simp [results, Tryd.results59, go_sem, t0, t1, t2]) rfl (dyn_no (((hW.setCell (by simp; omega) _).setCell (by simp; omega) _).setCell (by simp; omega) _))

set_option maxRecDepth 100000 in
set_option maxHeartbeats 1600000 in
/-- Of two that may be: is one nought? -/
theorem rfMul_none (s t : Bool) (a1 a2 : Option Addr) (n1 n2 c1 c2 : Nat) (x y : Int) (xs ys : List Nat) (w : World) (h1 : Sl w a1 n1 c1 xs) (h2 : Sl w a2 n2 c2 ys) (h0 : cmpF s xs x t ys y = 0) (b1 b2 : Bool) (hn1 : noneB n1 = b1) (hn2 : noneB n2 = b2) (hb : b1 = true ∨ b1 = false ∧ b2 = true) :
    Calls Tryd.prog 59 #[.agg #[.bool s, .slice a1 n1 c1, .int .i64 x], .agg #[.bool t, .slice a2 n2 c2, .int .i64 y]] w (Dyn (noA 0) w) := by
  rcases hb with rfl | ⟨rfl, rfl⟩
  all_goals
    go_enter Tryd.func59, Tryd.ntmps59
    go_wp2_with (first
      | (go_at_call 89; refine (two_new s t a1 a2 n1 n2 c1 c2 x y xs ys w _ _ _ _ h1 h2).mono ?_; rintro e w1 ⟨rfl, hW, A, B, R⟩; rw [h0]; have ⟨q0, q1, q2, qz0, qz1, qz2⟩ := A; have ⟨p0, p1, p2, pz0, pz1, pz2⟩ := B; have ⟨r0, r1, r2, rz0, rz1, rz2⟩ := R)
      | (go_at_call 31; (with_reducible refine (refNone_any a1 n1 c1 _).mono ?_); rintro e w2 ⟨rfl, hb2⟩; rw [hn1]; replace hW := next hW hb2; replace B := B.stay hb2; replace R := R.stay hb2; have ⟨p3, p4, p5, pz3, pz4, pz5⟩ := B; have ⟨r3, r4, r5, rz3, rz4, rz5⟩ := R)
      | (go_at_call 31; (with_reducible refine (refNone_any a2 n2 c2 _).mono ?_); rintro e w3 ⟨rfl, hb3⟩; rw [hn2]; replace hW := next hW hb3; replace R := R.stay hb3; have ⟨r6, r7, r8, rz6, rz7, rz8⟩ := R))
    have ⟨t0, t1, t2⟩ := R.set (.bool false) (.slice none 0 0) (.int .i64 0)
    refine bodyPost_ret (v := .tuple #[.agg #[.bool false, .slice none 0 0, .int .i64 0], .int .i64 0]) (by simp [results, Tryd.results59, go_sem, t0, t1, t2]) rfl (dyn_no (((hW.setCell (by simp; omega) _).setCell (by simp; omega) _).setCell (by simp; omega) _))

set_option maxRecDepth 100000 in
set_option maxHeartbeats 1600000 in
theorem rfMul_ok (s t : Bool) (a1 a2 : Option Addr) (n1 n2 c1 c2 : Nat) (x y : Int) (xs ys : List Nat) (w : World) (h1 : Sl w a1 n1 c1 xs) (h2 : Sl w a2 n2 c2 ys) (h0 : cmpF s xs x t ys y = 0) (hn1 : noneB n1 = false) (hn2 : noneB n2 = false) (g : bigE (val xs * val ys) = 0) :
    Calls Tryd.prog 59 #[.agg #[.bool s, .slice a1 n1 c1, .int .i64 x], .agg #[.bool t, .slice a2 n2 c2, .int .i64 y]] w (Dyn (mkA (!(s == t)) (val xs * val ys) (x + y)) w) := by
  obtain ⟨d1, d2⟩ := cmpF_ok h0
  have k1 := dchk_chk d1
  have k2 := dchk_chk d2
  have ⟨x1, x2⟩ := dchk_exp d1
  have ⟨y1, y2⟩ := dchk_exp d2
  have gN := bigN_of g
  go_enter Tryd.func59, Tryd.ntmps59
  go_wp2_with (first
    | (go_at_call 89; refine (two_new s t a1 a2 n1 n2 c1 c2 x y xs ys w _ _ _ _ h1 h2).mono ?_; rintro e w1 ⟨rfl, hW, A, B, R⟩; rw [h0]; have ⟨q0, q1, q2, qz0, qz1, qz2⟩ := A; have ⟨p0, p1, p2, pz0, pz1, pz2⟩ := B)
    | (go_at_call 31; (with_reducible refine (refNone_any a1 n1 c1 _).mono ?_); rintro e w2 ⟨rfl, hb2⟩; rw [hn1]; replace hW := next hW hb2; replace A := A.stay hb2; replace B := B.stay hb2; replace R := R.stay hb2; have ⟨q3, q4, q5, qz3, qz4, qz5⟩ := A; have ⟨p3, p4, p5, pz3, pz4, pz5⟩ := B)
    | (go_at_call 31; (with_reducible refine (refNone_any a2 n2 c2 _).mono ?_); rintro e w3 ⟨rfl, hb3⟩; rw [hn2]; replace hW := next hW hb3; replace A := A.stay hb3; replace B := B.stay hb3; replace R := R.stay hb3; have ⟨q6, q7, q8, qz6, qz7, qz8⟩ := A; have ⟨p6, p7, p8, pz6, pz7, pz8⟩ := B)
    | (go_at_call 99; refine (refMul_any a1 a2 n1 n2 c1 c2 xs ys _ (h1.below hW) (h2.below hW) k1 k2).mono ?_; rintro e w4 ⟨ao, n, c, rfl, hF, hb4⟩; rw [g]; rw [gN] at hF; replace hW := more (next hW hb4) (.cells #[.slice ao n c] 24); replace A := (A.stay hb4).alloc (.cells #[.slice ao n c] 24); replace B := (B.stay hb4).alloc (.cells #[.slice ao n c] 24); replace R := (R.stay hb4).alloc (.cells #[.slice ao n c] 24); have ⟨q9, q10, q11, qz9, qz10, qz11⟩ := A; have ⟨p9, p10, p11, pz9, pz10, pz11⟩ := B)
    | (go_at_call 7; refine (rfMake_any _ ao n c (limbs (val xs * val ys)) (x + y) _ (hF.sl.alloc _)).mono ?_; rintro e w5 ⟨bo, m, d, rfl, hG, hb5⟩; have lR := R.lt; have hsz := hW.size; replace hW := next hW hb5; replace R := R.stay hb5; have ⟨r3, r4, r5, rz3, rz4, rz5⟩ := R))
  have ⟨t0, t1, t2⟩ := R.set (.bool (mkS (!(s == t)) (limbs (val xs * val ys)) (x + y))) (.slice bo m d) (.int .i64 (mkX (limbs (val xs * val ys)) (x + y)))
  refine bodyPost_ret (v := .tuple #[.agg #[.bool (mkS (!(s == t)) (limbs (val xs * val ys)) (x + y)), .slice bo m d, .int .i64 (mkX (limbs (val xs * val ys)) (x + y))], .int .i64 (mkE (limbs (val xs * val ys)) (x + y))]) (by simp [results, Tryd.results59, go_sem, t0, t1, t2]) rfl ⟨bo, m, d, rfl, ?_, ((hW.setCell (by simp; omega) _).setCell (by simp; omega) _).setCell (by simp; omega) _⟩
  refine Fr.mono (Fr.setCell (Fr.setCell (Fr.setCell hG ?_ _) ?_ _) ?_ _) hsz <;> exact lR

set_option maxRecDepth 100000 in
set_option maxHeartbeats 1600000 in
theorem rfMul_many (s t : Bool) (a1 a2 : Option Addr) (n1 n2 c1 c2 : Nat) (x y : Int) (xs ys : List Nat) (w : World) (h1 : Sl w a1 n1 c1 xs) (h2 : Sl w a2 n2 c2 ys) (h0 : cmpF s xs x t ys y = 0) (hn1 : noneB n1 = false) (hn2 : noneB n2 = false) (g : bigE (val xs * val ys) = 4) :
    Calls Tryd.prog 59 #[.agg #[.bool s, .slice a1 n1 c1, .int .i64 x], .agg #[.bool t, .slice a2 n2 c2, .int .i64 y]] w (Dyn (noA 4) w) := by
  obtain ⟨d1, d2⟩ := cmpF_ok h0
  have k1 := dchk_chk d1
  have k2 := dchk_chk d2
  go_enter Tryd.func59, Tryd.ntmps59
  go_wp2_with (first
    | (go_at_call 89; refine (two_new s t a1 a2 n1 n2 c1 c2 x y xs ys w _ _ _ _ h1 h2).mono ?_; rintro e w1 ⟨rfl, hW, A, B, R⟩; rw [h0]; have ⟨q0, q1, q2, qz0, qz1, qz2⟩ := A; have ⟨p0, p1, p2, pz0, pz1, pz2⟩ := B)
    | (go_at_call 31; (with_reducible refine (refNone_any a1 n1 c1 _).mono ?_); rintro e w2 ⟨rfl, hb2⟩; rw [hn1]; replace hW := next hW hb2; replace A := A.stay hb2; replace B := B.stay hb2; replace R := R.stay hb2; have ⟨q3, q4, q5, qz3, qz4, qz5⟩ := A; have ⟨p3, p4, p5, pz3, pz4, pz5⟩ := B)
    | (go_at_call 31; (with_reducible refine (refNone_any a2 n2 c2 _).mono ?_); rintro e w3 ⟨rfl, hb3⟩; rw [hn2]; replace hW := next hW hb3; replace A := A.stay hb3; replace B := B.stay hb3; replace R := R.stay hb3; have ⟨q6, q7, q8, qz6, qz7, qz8⟩ := A; have ⟨p6, p7, p8, pz6, pz7, pz8⟩ := B)
    | (go_at_call 99; refine (refMul_any a1 a2 n1 n2 c1 c2 xs ys _ (h1.below hW) (h2.below hW) k1 k2).mono ?_; rintro e w4 ⟨ao, n, c, rfl, hF, hb4⟩; rw [g]; replace hW := more (next hW hb4) (.cells #[.slice ao n c] 24); replace R := (R.stay hb4).alloc (.cells #[.slice ao n c] 24); have ⟨r3, r4, r5, rz3, rz4, rz5⟩ := R))
  have ⟨t0, t1, t2⟩ := R.set (.bool false) (.slice none 0 0) (.int .i64 0)
  refine bodyPost_ret (v := .tuple #[.agg #[.bool false, .slice none 0 0, .int .i64 0], .int .i64 4]) (by simp [results, Tryd.results59, go_sem, t0, t1, t2]) rfl (dyn_no (((hW.setCell (by simp; omega) _).setCell (by simp; omega) _).setCell (by simp; omega) _))

theorem rfMul_any (s t : Bool) (a1 a2 : Option Addr) (n1 n2 c1 c2 : Nat) (x y : Int) (xs ys : List Nat) (w : World) (h1 : Sl w a1 n1 c1 xs) (h2 : Sl w a2 n2 c2 ys) :
    Calls Tryd.prog 59 #[.agg #[.bool s, .slice a1 n1 c1, .int .i64 x], .agg #[.bool t, .slice a2 n2 c2, .int .i64 y]] w (Dyn (mulA s xs x t ys y) w) := by
  by_cases h0 : cmpF s xs x t ys y = 0
  · obtain ⟨d1, d2⟩ := cmpF_ok h0
    have z1 := val_zero_n h1 (dchk_chk d1)
    have z2 := val_zero_n h2 (dchk_chk d2)
    by_cases hz : val xs = 0 ∨ val ys = 0
    · have hA : mulA s xs x t ys y = noA 0 := by unfold mulA; rw [if_neg (by simp [d1]), if_neg (by simp [d2]), if_pos hz]
      rw [hA]
      refine rfMul_none s t a1 a2 n1 n2 c1 c2 x y xs ys w h1 h2 h0 _ _ rfl rfl ?_
      unfold noneB
      by_cases hh : n1 = 0
      · exact .inl (decide_eq_true hh)
      · exact .inr ⟨decide_eq_false hh, decide_eq_true (by rcases hz with h | h; exact absurd (z1.1 h) hh; exact z2.1 h)⟩
    · have f1 : noneB n1 = false := decide_eq_false fun hh => hz (.inl (z1.2 hh))
      have f2 : noneB n2 = false := decide_eq_false fun hh => hz (.inr (z2.2 hh))
      by_cases hg : bigE (val xs * val ys) = 0
      · have hA : mulA s xs x t ys y = mkA (s != t) (val xs * val ys) (x + y) := by unfold mulA; rw [if_neg (by simp [d1]), if_neg (by simp [d2]), if_neg hz, if_neg (by simp [hg])]
        rw [hA]
        exact rfMul_ok s t a1 a2 n1 n2 c1 c2 x y xs ys w h1 h2 h0 f1 f2 hg
      · have hA : mulA s xs x t ys y = noA 4 := by unfold mulA; rw [if_neg (by simp [d1]), if_neg (by simp [d2]), if_neg hz, if_pos hg]
        rw [hA]
        exact rfMul_many s t a1 a2 n1 n2 c1 c2 x y xs ys w h1 h2 h0 f1 f2 (bigE_four hg)
  · rw [mulA_bad h0]
    exact rfMul_bad s t a1 a2 n1 n2 c1 c2 x y xs ys w h1 h2 h0

end Go.Proofs.YtnokabglkmiidaaDoor
