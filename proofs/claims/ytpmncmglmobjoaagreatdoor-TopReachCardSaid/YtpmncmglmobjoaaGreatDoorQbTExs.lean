/-
  The walks of exact.both, sign, twin, and of the reference's two, sign, Twin. The walks of exact.Neg and exact.Mul. The walk of exact.Add, way by way. (Printed by wip/gen/add.py.) The walk of exact.Add, its last way, and all of it. (Printed by wip/gen/add.py.) The walk of exact.Cmp. (Printed by wip/gen/cmp.py.)
-/
import Derived.Test.YtpmncmglmobjoaaGreatDoorQbTMT5
import Derived.Test.YtpmncmglmobjoaaGreatDoorQbTNatOps
set_option maxHeartbeats 4000000
set_option maxRecDepth 100000
namespace Go.Proofs.YtpmncmglmobjoaaGreatDoor
open Go.RowKit Go.Lb
theorem exBoth_any (s t : Bool) (a1 a2 : Option Addr) (n1 n2 c1 c2 : Nat) (x y : Int) (xs ys : List Nat) (w : World) (h1 : Sl w a1 n1 c1 xs) (h2 : Sl w a2 n2 c2 ys) :
 Calls Tryz.prog 74 #[.agg #[.bool s, .slice a1 n1 c1, .int .i64 x], .agg #[.bool t, .slice a2 n2 c2, .int .i64 y]] w fun e w' => e = .returned (.int .i64 (cmpF s xs x t ys y)) ∧ Below w.heap.size w w' := by
 by_cases h0 : dchk s xs x = 0
 · have h0B : (dchk s xs x != 0) = false := by simp [h0]
   have hF : cmpF s xs x t ys y = dchk t ys y := by unfold cmpF; rw [if_neg (by simp [h0])]
   rw [hF]
   go_enter Tryz.func74, Tryz.ntmps74
   go_wp2_with (first
    | (go_at_call 40; (with_reducible refine (dyCheck_any s a1 n1 c1 x xs _ ((h1.alloc _).alloc _)).mono ?_); rintro e w1 ⟨rfl, hb1⟩; have A := ((box3_new w _ _ _ _).alloc _).stay hb1; have B := (box3_new _ _ _ _ _).stay hb1; rw [World.size_alloc] at B; have hW := next (more (more (Below.refl _ _) _) _) hb1; have ⟨q0, q1, q2, qz0, qz1, qz2⟩ := A; have ⟨p0, p1, p2, pz0, pz1, pz2⟩ := B)
    | (go_at_call 40; refine (dyCheck_any t a2 n2 c2 y ys _ (h2.below hW)).mono ?_; rintro e w2 ⟨rfl, hb2⟩))
   go_ret
   exact ⟨rfl, next hW hb2⟩
 · have h0B : (dchk s xs x != 0) = true := by simp [h0]
   have hF : cmpF s xs x t ys y = dchk s xs x := by unfold cmpF; rw [if_pos h0]
   rw [hF]
   go_enter Tryz.func74, Tryz.ntmps74
   go_wp2_with (first
    | (go_at_call 40; (with_reducible refine (dyCheck_any s a1 n1 c1 x xs _ ((h1.alloc _).alloc _)).mono ?_); rintro e w1 ⟨rfl, hb1⟩; have hW := next (more (more (Below.refl _ _) _) _) hb1))
   go_ret
   exact ⟨rfl, hW⟩
def Twn (s : Bool) (x : Int) (w : World) (n : Nat) (xs : List Nat) (e : Ending) (w' : World) : Prop :=
 ∃ ao c, e = .returned (.agg #[.bool s, .slice ao n c, .int .i64 x]) ∧ Fr 40 w' w.heap.size ao n c xs ∧ Below w.heap.size w w'
theorem exTwin_any (s : Bool) (ao : Option Addr) (n c : Nat) (x : Int) (xs : List Nat) (w : World) (h : Sl w ao n c xs) (hn : n ≤ 35184372088832) :
 Calls Tryz.prog 75 #[.agg #[.bool s, .slice ao n c, .int .i64 x]] w (Twn s x w n xs) := by
 obtain ⟨i0, hi0, hz0, hz1, hz2⟩ := info_parts u32_infoL
 go_enter Tryz.func75, Tryz.ntmps75
 go_wp2_with (first
  | (at_builtin; refine wpList_append_sl _ rfl (.const (.slice none 0 0)) (.tmp 5) _ rfl (w.heap.size + 2) 40 i0 _ Tryz.underlying25 hi0 hz0 hz1 hz2 rfl (.slice none 0 0) 0 [] rfl (World.ownsRow_nil _ _ _ _) ao n c xs rfl ((h.alloc _).alloc _) (by omega) (by simp) ?_; intro v1 w1 hown1 hg1 hat1; have hbA := (Below.refl _ _).grown hg1 (Nat.le_refl _) (by simp [Value.ownBlock]); obtain ⟨a3, c3, rfl, hF⟩ := fr_own_any hown1 (ok_append ok_nil h.ok); simp only [Nat.zero_add, List.nil_append] at hF ⊢; have A := ((box3_new w _ _ _ _).alloc _).stay hbA; have B := (box3_new _ _ _ _ _).stay hbA; rw [World.size_alloc] at B; have ⟨q0, q1, q2, qz0, qz1, qz2⟩ := A; have ⟨p0, p1, p2, pz0, pz1, pz2⟩ := B; have hW := next (more (more (Below.refl _ _) _) _) hbA; have l1 := A.lt; have l2 := B.lt))
 have B' : Box3 (w1.setCell ⟨w.heap.size, 1, none⟩ (.slice a3 n c3)) (w.heap.size + 1) (.bool false) (.slice none 0 0) (.int .i64 0) := ⟨(World.cell?_setCell_other _ _ _ _ (by simp)).trans p0, (World.cell?_setCell_other _ _ _ _ (by simp)).trans p1, (World.cell?_setCell_other _ _ _ _ (by simp)).trans p2, by simp [pz0], by simp [pz1], by simp [pz2]⟩
 have ⟨t0, t1, t2⟩ := B'.set (.bool s) (.slice a3 n c3) (.int .i64 x)
 refine bodyPost_ret (v := .agg #[.bool s, .slice a3 n c3, .int .i64 x]) (by simp [results, Tryz.results75, go_sem, t0, t1, t2]) rfl ⟨a3, c3, rfl, ?_, (((hW.setCell (by simp) _).setCell (by simp) _).setCell (by simp) _).setCell (by simp) _⟩
 refine Fr.mono (Fr.setCell (Fr.setCell (Fr.setCell (Fr.setCell hF ?_ _) ?_ _) ?_ _) ?_ _) (by omega : w.heap.size ≤ w.heap.size + 2) <;> simp
theorem limbs_of_chk {ys : List Nat} (hok : Ok ys) (hc : chk ys = 0) : limbs (val ys) = ys := limbs_val (fine_of_chk hok hc)
theorem val_zero_n {w : World} {ao : Option Addr} {n c : Nat} {ys : List Nat} (h : Sl w ao n c ys) (hc : chk ys = 0) : val ys = 0 ↔ n = 0 := by
 rw [val_zero_iff h.ok hc, h.len]
theorem both_new (s t : Bool) (a1 a2 : Option Addr) (n1 n2 c1 c2 : Nat) (x y : Int) (xs ys : List Nat) (w : World) (r0 r1 r2 : Value) (ty : TypeId) (h1 : Sl w a1 n1 c1 xs) (h2 : Sl w a2 n2 c2 ys) :
 Calls Tryz.prog 74 #[.agg #[.bool s, .slice a1 n1 c1, .int .i64 x], .agg #[.bool t, .slice a2 n2 c2, .int .i64 y]] (((w.alloc (.cells #[.bool s, .slice a1 n1 c1, .int .i64 x] 47)).alloc (.cells #[.bool t, .slice a2 n2 c2, .int .i64 y] 47)).alloc (.cells #[r0, r1, r2] ty)) fun e w' =>
  e = .returned (.int .i64 (cmpF s xs x t ys y)) ∧ Below w.heap.size w w' ∧ Box3 w' w.heap.size (.bool s) (.slice a1 n1 c1) (.int .i64 x) ∧ Box3 w' (w.heap.size + 1) (.bool t) (.slice a2 n2 c2) (.int .i64 y) ∧ Box3 w' (w.heap.size + 1 + 1) r0 r1 r2 := by
 refine (exBoth_any s t a1 a2 n1 n2 c1 c2 x y xs ys _ (((h1.alloc _).alloc _).alloc _) (((h2.alloc _).alloc _).alloc _)).mono ?_
 rintro e w' ⟨rfl, hb⟩
 refine ⟨rfl, next (more (more (more (Below.refl _ _) _) _) _) hb, (((box3_new w _ _ _ _).alloc _).alloc _).stay hb, ?_, ?_⟩
 · have := ((box3_new (w.alloc (.cells #[.bool s, .slice a1 n1 c1, .int .i64 x] 47)) (.bool t) (.slice a2 n2 c2) (.int .i64 y) 47).alloc (.cells #[r0, r1, r2] ty)).stay hb
   rw [World.size_alloc] at this
   exact this
 · have := (box3_new ((w.alloc (.cells #[.bool s, .slice a1 n1 c1, .int .i64 x] 47)).alloc (.cells #[.bool t, .slice a2 n2 c2, .int .i64 y] 47)) r0 r1 r2 ty).stay hb
   rw [World.size_alloc, World.size_alloc] at this
   exact this
theorem bigE_four {N : Nat} (h : bigE N ≠ 0) : bigE N = 4 := by
 unfold bigE at *
 split at h <;> simp_all
theorem bigN_of {N : Nat} (h : bigE N = 0) : bigN N = N := by
 unfold bigE at h
 unfold bigN
 split at h
 · rename_i hh; exact if_pos hh
 · cases h
theorem cmpF_ok {s t : Bool} {x y : Int} {xs ys : List Nat} (h : cmpF s xs x t ys y = 0) : dchk s xs x = 0 ∧ dchk t ys y = 0 := by
 unfold cmpF at h
 by_cases h0 : dchk s xs x = 0
 · rw [if_neg (by simp [h0])] at h
   exact ⟨h0, h⟩
 · rw [if_pos h0] at h
   exact absurd h h0
theorem addA_bad {s t : Bool} {x y : Int} {xs ys : List Nat} (h : cmpF s xs x t ys y ≠ 0) : addA s xs x t ys y = noA (cmpF s xs x t ys y) := by
 unfold addA cmpF at *
 by_cases h0 : dchk s xs x = 0
 · rw [if_neg (by simp [h0])] at h ⊢
   rw [if_pos h, if_neg (by simp [h0])]
 · rw [if_pos h0, if_pos h0]
theorem level_bad (s t : Bool) (a1 a2 : Option Addr) (n1 n2 c1 c2 : Nat) (x y : Int) (xs ys : List Nat) (w : World) (h1 : Sl w a1 n1 c1 xs) (h2 : Sl w a2 n2 c2 ys) (hx : chk xs = 0) (hy : chk ys = 0)
 (x1 : -1073741824 ≤ x) (x2 : x ≤ 1073741824) (y1 : -1073741824 ≤ y) (y2 : y ≤ 1073741824) (g : bigE (lvN (val xs) x y) ≠ 0 ∨ bigE (lvN (val ys) y x) ≠ 0) :
 ∃ P Q, Calls Tryz.prog 76 #[.agg #[.bool s, .slice a1 n1 c1, .int .i64 x], .agg #[.bool t, .slice a2 n2 c2, .int .i64 y]] w (Lvl P Q (min x y) 4 w) := by
 by_cases g1 : bigE (lvN (val xs) x y) = 0
 · have g2 : bigE (lvN (val ys) y x) = 4 := bigE_four (g.resolve_left (by simp [g1]))
   have := level_ok s t a1 a2 n1 n2 c1 c2 x y xs ys w h1 h2 hx hy x1 x2 y1 y2 g1
   rw [g2] at this
   exact ⟨_, _, this⟩
 · exact ⟨_, _, level_many s t a1 a2 n1 n2 c1 c2 x y xs w h1 hx x1 x2 y1 y2 (bigE_four g1)⟩
theorem chk_big {N : Nat} (h : bigE N = 0) : chk (limbs N) = 0 := by
 refine chk_limbs ?_
 unfold bigE at h
 split at h
 · assumption
 · cases h
theorem exAdd_bad (s t : Bool) (a1 a2 : Option Addr) (n1 n2 c1 c2 : Nat) (x y : Int) (xs ys : List Nat) (w : World) (h1 : Sl w a1 n1 c1 xs) (h2 : Sl w a2 n2 c2 ys) (h0 : cmpF s xs x t ys y ≠ 0) :
 Calls Tryz.prog 38 #[.agg #[.bool s, .slice a1 n1 c1, .int .i64 x], .agg #[.bool t, .slice a2 n2 c2, .int .i64 y]] w (Dyn (noA (cmpF s xs x t ys y)) w) := by
 have h0B : (cmpF s xs x t ys y != 0) = true := by simp [h0]
 have h1B : (cmpF s xs x t ys y == 0) = false := by simp [h0]
 generalize hE : cmpF s xs x t ys y = E at h0 h0B h1B
 go_enter Tryz.func38, Tryz.ntmps38
 go_wp2_with (first
  | (go_at_call 74; refine (both_new s t a1 a2 n1 n2 c1 c2 x y xs ys w _ _ _ _ h1 h2).mono ?_; rintro e w1 ⟨rfl, hW, -, -, R⟩; rw [hE]; have ⟨v4_0, v4_1, v4_2, v4z0, v4z1, v4z2⟩ := R))
 have ⟨t0, t1, t2⟩ := R.set (.bool false) (.slice none 0 0) (.int .i64 0)
 refine bodyPost_ret (v := .tuple #[.agg #[.bool false, .slice none 0 0, .int .i64 0], .int .i64 E]) (by simp [results, Tryz.results38, go_sem, t0, t1, t2]) rfl (dyn_no (((hW.setCell (by simp; omega) _).setCell (by simp; omega) _).setCell (by simp; omega) _))
theorem exAdd_anone (s t : Bool) (a1 a2 : Option Addr) (n1 n2 c1 c2 : Nat) (x y : Int) (xs ys : List Nat) (w : World) (h1 : Sl w a1 n1 c1 xs) (h2 : Sl w a2 n2 c2 ys) (h0 : cmpF s xs x t ys y = 0) (hn1 : noneB n1 = true) :
 Calls Tryz.prog 38 #[.agg #[.bool s, .slice a1 n1 c1, .int .i64 x], .agg #[.bool t, .slice a2 n2 c2, .int .i64 y]] w (Dyn ⟨t, val ys, y, 0⟩ w) := by
 obtain ⟨d1, d2⟩ := cmpF_ok h0
 have k1 := dchk_chk d1
 have k2 := dchk_chk d2
 have l1 := chk_zero_len k1
 have l2 := chk_zero_len k2
 rw [h1.len] at l1
 rw [h2.len] at l2
 go_enter Tryz.func38, Tryz.ntmps38
 go_wp2_with (first
  | (go_at_call 74; refine (both_new s t a1 a2 n1 n2 c1 c2 x y xs ys w _ _ _ _ h1 h2).mono ?_; rintro e w1 ⟨rfl, hW, A, B, R⟩; rw [h0]; have ⟨v5_0, v5_1, v5_2, v5z0, v5z1, v5z2⟩ := A; have ⟨v6_0, v6_1, v6_2, v6z0, v6z1, v6z2⟩ := B; have ⟨v7_0, v7_1, v7_2, v7z0, v7z1, v7z2⟩ := R)
  | (go_at_call 68; (with_reducible refine (none_any a1 n1 c1 _).mono ?_); rintro e w2 ⟨rfl, hb2⟩; rw [hn1]; replace hW := next hW hb2; replace A := A.stay hb2; replace B := B.stay hb2; replace R := R.stay hb2; have ⟨v8_0, v8_1, v8_2, v8z0, v8z1, v8z2⟩ := A; have ⟨v9_0, v9_1, v9_2, v9z0, v9z1, v9z2⟩ := B; have ⟨v10_0, v10_1, v10_2, v10z0, v10z1, v10z2⟩ := R)
  | (go_at_call 75; refine (exTwin_any t a2 n2 c2 y ys _ (h2.below hW) (by omega)).mono ?_; rintro e w9 ⟨bo, d, rfl, hM, hb9⟩; have lR := R.lt; have hsz := hW.size; replace hW := next hW hb9; replace R := R.stay hb9; have ⟨v11_0, v11_1, v11_2, v11z0, v11z1, v11z2⟩ := R))
 have ⟨t0, t1, t2⟩ := R.set (.bool t) (.slice bo n2 d) (.int .i64 y)
 refine bodyPost_ret (v := .tuple #[.agg #[.bool t, .slice bo n2 d, .int .i64 y], .int .i64 0]) (by simp [results, Tryz.results38, go_sem, t0, t1, t2]) rfl ⟨bo, n2, d, rfl, ?_, ((hW.setCell (by simp; omega) _).setCell (by simp; omega) _).setCell (by simp; omega) _⟩
 rw [limbs_of_chk h2.ok k2]
 refine Fr.mono (Fr.setCell (Fr.setCell (Fr.setCell hM ?_ _) ?_ _) ?_ _) hsz <;> exact lR
theorem exAdd_bnone (s t : Bool) (a1 a2 : Option Addr) (n1 n2 c1 c2 : Nat) (x y : Int) (xs ys : List Nat) (w : World) (h1 : Sl w a1 n1 c1 xs) (h2 : Sl w a2 n2 c2 ys) (h0 : cmpF s xs x t ys y = 0) (hn1 : noneB n1 = false) (hn2 : noneB n2 = true) :
 Calls Tryz.prog 38 #[.agg #[.bool s, .slice a1 n1 c1, .int .i64 x], .agg #[.bool t, .slice a2 n2 c2, .int .i64 y]] w (Dyn ⟨s, val xs, x, 0⟩ w) := by
 obtain ⟨d1, d2⟩ := cmpF_ok h0
 have k1 := dchk_chk d1
 have k2 := dchk_chk d2
 have l1 := chk_zero_len k1
 have l2 := chk_zero_len k2
 rw [h1.len] at l1
 rw [h2.len] at l2
 go_enter Tryz.func38, Tryz.ntmps38
 go_wp2_with (first
  | (go_at_call 74; refine (both_new s t a1 a2 n1 n2 c1 c2 x y xs ys w _ _ _ _ h1 h2).mono ?_; rintro e w1 ⟨rfl, hW, A, B, R⟩; rw [h0]; have ⟨v12_0, v12_1, v12_2, v12z0, v12z1, v12z2⟩ := A; have ⟨v13_0, v13_1, v13_2, v13z0, v13z1, v13z2⟩ := B; have ⟨v14_0, v14_1, v14_2, v14z0, v14z1, v14z2⟩ := R)
  | (go_at_call 68; (with_reducible refine (none_any a1 n1 c1 _).mono ?_); rintro e w2 ⟨rfl, hb2⟩; rw [hn1]; replace hW := next hW hb2; replace A := A.stay hb2; replace B := B.stay hb2; replace R := R.stay hb2; have ⟨v15_0, v15_1, v15_2, v15z0, v15z1, v15z2⟩ := A; have ⟨v16_0, v16_1, v16_2, v16z0, v16z1, v16z2⟩ := B; have ⟨v17_0, v17_1, v17_2, v17z0, v17z1, v17z2⟩ := R)
  | (go_at_call 68; (with_reducible refine (none_any a2 n2 c2 _).mono ?_); rintro e w3 ⟨rfl, hb3⟩; rw [hn2]; replace hW := next hW hb3; replace A := A.stay hb3; replace B := B.stay hb3; replace R := R.stay hb3; have ⟨v18_0, v18_1, v18_2, v18z0, v18z1, v18z2⟩ := A; have ⟨v19_0, v19_1, v19_2, v19z0, v19z1, v19z2⟩ := B; have ⟨v20_0, v20_1, v20_2, v20z0, v20z1, v20z2⟩ := R)
  | (go_at_call 75; refine (exTwin_any s a1 n1 c1 x xs _ (h1.below hW) (by omega)).mono ?_; rintro e w9 ⟨bo, d, rfl, hM, hb9⟩; have lR := R.lt; have hsz := hW.size; replace hW := next hW hb9; replace R := R.stay hb9; have ⟨v21_0, v21_1, v21_2, v21z0, v21z1, v21z2⟩ := R))
 have ⟨t0, t1, t2⟩ := R.set (.bool s) (.slice bo n1 d) (.int .i64 x)
 refine bodyPost_ret (v := .tuple #[.agg #[.bool s, .slice bo n1 d, .int .i64 x], .int .i64 0]) (by simp [results, Tryz.results38, go_sem, t0, t1, t2]) rfl ⟨bo, n1, d, rfl, ?_, ((hW.setCell (by simp; omega) _).setCell (by simp; omega) _).setCell (by simp; omega) _⟩
 rw [limbs_of_chk h1.ok k1]
 refine Fr.mono (Fr.setCell (Fr.setCell (Fr.setCell hM ?_ _) ?_ _) ?_ _) hsz <;> exact lR
theorem exAdd_level (s t : Bool) (a1 a2 : Option Addr) (n1 n2 c1 c2 : Nat) (x y : Int) (xs ys : List Nat) (w : World) (h1 : Sl w a1 n1 c1 xs) (h2 : Sl w a2 n2 c2 ys) (h0 : cmpF s xs x t ys y = 0) (hn1 : noneB n1 = false) (hn2 : noneB n2 = false) (g : bigE (lvN (val xs) x y) ≠ 0 ∨ bigE (lvN (val ys) y x) ≠ 0) :
 Calls Tryz.prog 38 #[.agg #[.bool s, .slice a1 n1 c1, .int .i64 x], .agg #[.bool t, .slice a2 n2 c2, .int .i64 y]] w (Dyn (noA 4) w) := by
 obtain ⟨d1, d2⟩ := cmpF_ok h0
 have k1 := dchk_chk d1
 have k2 := dchk_chk d2
 have ⟨x1, x2⟩ := dchk_exp d1
 have ⟨y1, y2⟩ := dchk_exp d2
 have hm1 : min x y ≤ x := Int.min_le_left _ _
 have hm2 : -1073741824 ≤ min x y := by omega
 go_enter Tryz.func38, Tryz.ntmps38
 go_wp2_with (first
  | (go_at_call 74; refine (both_new s t a1 a2 n1 n2 c1 c2 x y xs ys w _ _ _ _ h1 h2).mono ?_; rintro e w1 ⟨rfl, hW, A, B, R⟩; rw [h0]; have ⟨v22_0, v22_1, v22_2, v22z0, v22z1, v22z2⟩ := A; have ⟨v23_0, v23_1, v23_2, v23z0, v23z1, v23z2⟩ := B; have ⟨v24_0, v24_1, v24_2, v24z0, v24z1, v24z2⟩ := R)
  | (go_at_call 68; (with_reducible refine (none_any a1 n1 c1 _).mono ?_); rintro e w2 ⟨rfl, hb2⟩; rw [hn1]; replace hW := next hW hb2; replace A := A.stay hb2; replace B := B.stay hb2; replace R := R.stay hb2; have ⟨v25_0, v25_1, v25_2, v25z0, v25z1, v25z2⟩ := A; have ⟨v26_0, v26_1, v26_2, v26z0, v26z1, v26z2⟩ := B; have ⟨v27_0, v27_1, v27_2, v27z0, v27z1, v27z2⟩ := R)
  | (go_at_call 68; (with_reducible refine (none_any a2 n2 c2 _).mono ?_); rintro e w3 ⟨rfl, hb3⟩; rw [hn2]; replace hW := next hW hb3; replace A := A.stay hb3; replace B := B.stay hb3; replace R := R.stay hb3; have ⟨v28_0, v28_1, v28_2, v28z0, v28z1, v28z2⟩ := A; have ⟨v29_0, v29_1, v29_2, v29z0, v29z1, v29z2⟩ := B; have ⟨v30_0, v30_1, v30_2, v30z0, v30z1, v30z2⟩ := R)
  | (go_at_call 76; obtain ⟨P, Q, hL⟩ := level_bad s t a1 a2 n1 n2 c1 c2 x y xs ys _ (h1.below hW) (h2.below hW) k1 k2 x1 x2 y1 y2 g; refine hL.mono ?_; rintro e w4 ⟨a5, n5, c5, a6, n6, c6, rfl, hF, hG, hb4⟩; replace hW := more (more (next hW hb4) (.cells #[.slice a5 n5 c5] 27)) (.cells #[.slice a6 n6 c6] 27); replace R := ((R.stay hb4).alloc (.cells #[.slice a5 n5 c5] 27)).alloc (.cells #[.slice a6 n6 c6] 27); have ⟨v31_0, v31_1, v31_2, v31z0, v31z1, v31z2⟩ := R))
 have ⟨t0, t1, t2⟩ := R.set (.bool false) (.slice none 0 0) (.int .i64 0)
 refine bodyPost_ret (v := .tuple #[.agg #[.bool false, .slice none 0 0, .int .i64 0], .int .i64 4]) (by simp [results, Tryz.results38, go_sem, t0, t1, t2]) rfl (dyn_no (((hW.setCell (by simp; omega) _).setCell (by simp; omega) _).setCell (by simp; omega) _))
theorem exAdd_many (s t : Bool) (a1 a2 : Option Addr) (n1 n2 c1 c2 : Nat) (x y : Int) (xs ys : List Nat) (w : World) (h1 : Sl w a1 n1 c1 xs) (h2 : Sl w a2 n2 c2 ys) (h0 : cmpF s xs x t ys y = 0) (hn1 : noneB n1 = false) (hn2 : noneB n2 = false) (g1 : bigE (lvN (val xs) x y) = 0) (g2 : bigE (lvN (val ys) y x) = 0) (hst : (s == t) = true) (g3 : bigE (lvN (val xs) x y + lvN (val ys) y x) = 4) :
 Calls Tryz.prog 38 #[.agg #[.bool s, .slice a1 n1 c1, .int .i64 x], .agg #[.bool t, .slice a2 n2 c2, .int .i64 y]] w (Dyn (noA 4) w) := by
 obtain ⟨d1, d2⟩ := cmpF_ok h0
 have k1 := dchk_chk d1
 have k2 := dchk_chk d2
 have ⟨x1, x2⟩ := dchk_exp d1
 have ⟨y1, y2⟩ := dchk_exp d2
 have hm1 : min x y ≤ x := Int.min_le_left _ _
 have hm2 : -1073741824 ≤ min x y := by omega
 go_enter Tryz.func38, Tryz.ntmps38
 go_wp2_with (first
  | (go_at_call 74; refine (both_new s t a1 a2 n1 n2 c1 c2 x y xs ys w _ _ _ _ h1 h2).mono ?_; rintro e w1 ⟨rfl, hW, A, B, R⟩; rw [h0]; have ⟨v32_0, v32_1, v32_2, v32z0, v32z1, v32z2⟩ := A; have ⟨v33_0, v33_1, v33_2, v33z0, v33z1, v33z2⟩ := B; have ⟨v34_0, v34_1, v34_2, v34z0, v34z1, v34z2⟩ := R)
  | (go_at_call 68; (with_reducible refine (none_any a1 n1 c1 _).mono ?_); rintro e w2 ⟨rfl, hb2⟩; rw [hn1]; replace hW := next hW hb2; replace A := A.stay hb2; replace B := B.stay hb2; replace R := R.stay hb2; have ⟨v35_0, v35_1, v35_2, v35z0, v35z1, v35z2⟩ := A; have ⟨v36_0, v36_1, v36_2, v36z0, v36z1, v36z2⟩ := B; have ⟨v37_0, v37_1, v37_2, v37z0, v37z1, v37z2⟩ := R)
  | (go_at_call 68; (with_reducible refine (none_any a2 n2 c2 _).mono ?_); rintro e w3 ⟨rfl, hb3⟩; rw [hn2]; replace hW := next hW hb3; replace A := A.stay hb3; replace B := B.stay hb3; replace R := R.stay hb3; have ⟨v38_0, v38_1, v38_2, v38z0, v38z1, v38z2⟩ := A; have ⟨v39_0, v39_1, v39_2, v39z0, v39z1, v39z2⟩ := B; have ⟨v40_0, v40_1, v40_2, v40z0, v40z1, v40z2⟩ := R)
  | (go_at_call 76; refine (level_ok s t a1 a2 n1 n2 c1 c2 x y xs ys _ (h1.below hW) (h2.below hW) k1 k2 x1 x2 y1 y2 g1).mono ?_; rintro e w4 ⟨a5, n5, c5, a6, n6, c6, rfl, hF, hG, hb4⟩; rw [g2]; rw [bigN_of g1] at hF; rw [bigN_of g2] at hG; replace hW := more (more (next hW hb4) (.cells #[.slice a5 n5 c5] 27)) (.cells #[.slice a6 n6 c6] 27); replace A := ((A.stay hb4).alloc (.cells #[.slice a5 n5 c5] 27)).alloc (.cells #[.slice a6 n6 c6] 27); replace B := ((B.stay hb4).alloc (.cells #[.slice a5 n5 c5] 27)).alloc (.cells #[.slice a6 n6 c6] 27); replace R := ((R.stay hb4).alloc (.cells #[.slice a5 n5 c5] 27)).alloc (.cells #[.slice a6 n6 c6] 27); have X := (box1_new w4 (.slice a5 n5 c5) 27).alloc (.cells #[.slice a6 n6 c6] 27); have Y := box1_new (w4.alloc (.cells #[.slice a5 n5 c5] 27)) (.slice a6 n6 c6) 27; rw [World.size_alloc] at Y; replace hF := (hF.alloc (.cells #[.slice a5 n5 c5] 27)).alloc (.cells #[.slice a6 n6 c6] 27); replace hG := (hG.alloc (.cells #[.slice a5 n5 c5] 27)).alloc (.cells #[.slice a6 n6 c6] 27); have ⟨v41_0, v41_1, v41_2, v41z0, v41z1, v41z2⟩ := A; have ⟨v42_0, v42_1, v42_2, v42z0, v42z1, v42z2⟩ := B; have ⟨v43_0, v43_1, v43_2, v43z0, v43z1, v43z2⟩ := R; have ⟨v44_0, v44z0⟩ := X; have ⟨v45_0, v45z0⟩ := Y)
  | (go_at_call 77; refine (natAdd_any a5 a6 n5 n6 c5 c6 (limbs (lvN (val xs) x y)) (limbs (lvN (val ys) y x)) _ hF.sl hG.sl (chk_big g1) (chk_big g2)).mono ?_; rintro e w6 ⟨a7, n7, c7, rfl, hH, hb6⟩; rw [val_limbs', val_limbs'] at hH; rw [val_limbs', val_limbs', g3]; replace hW := more (next hW hb6) (.cells #[.slice a7 n7 c7] 27); replace A := (A.stay hb6).alloc (.cells #[.slice a7 n7 c7] 27); replace B := (B.stay hb6).alloc (.cells #[.slice a7 n7 c7] 27); replace R := (R.stay hb6).alloc (.cells #[.slice a7 n7 c7] 27); replace hH := hH.alloc (.cells #[.slice a7 n7 c7] 27); have ⟨v46_0, v46_1, v46_2, v46z0, v46z1, v46z2⟩ := A; have ⟨v47_0, v47_1, v47_2, v47z0, v47z1, v47z2⟩ := B; have ⟨v48_0, v48_1, v48_2, v48z0, v48z1, v48z2⟩ := R))
 have ⟨t0, t1, t2⟩ := R.set (.bool false) (.slice none 0 0) (.int .i64 0)
 refine bodyPost_ret (v := .tuple #[.agg #[.bool false, .slice none 0 0, .int .i64 0], .int .i64 4]) (by simp [results, Tryz.results38, go_sem, t0, t1, t2]) rfl (dyn_no (((hW.setCell (by simp; omega) _).setCell (by simp; omega) _).setCell (by simp; omega) _))
theorem exAdd_plus (s t : Bool) (a1 a2 : Option Addr) (n1 n2 c1 c2 : Nat) (x y : Int) (xs ys : List Nat) (w : World) (h1 : Sl w a1 n1 c1 xs) (h2 : Sl w a2 n2 c2 ys) (hT : Tab w) (h0 : cmpF s xs x t ys y = 0) (hn1 : noneB n1 = false) (hn2 : noneB n2 = false) (g1 : bigE (lvN (val xs) x y) = 0) (g2 : bigE (lvN (val ys) y x) = 0) (hst : (s == t) = true) (g3 : bigE (lvN (val xs) x y + lvN (val ys) y x) = 0) :
 Calls Tryz.prog 38 #[.agg #[.bool s, .slice a1 n1 c1, .int .i64 x], .agg #[.bool t, .slice a2 n2 c2, .int .i64 y]] w (Dyn (mkA s (lvN (val xs) x y + lvN (val ys) y x) (min x y)) w) := by
 obtain ⟨d1, d2⟩ := cmpF_ok h0
 have k1 := dchk_chk d1
 have k2 := dchk_chk d2
 have ⟨x1, x2⟩ := dchk_exp d1
 have ⟨y1, y2⟩ := dchk_exp d2
 have hm1 : min x y ≤ x := Int.min_le_left _ _
 have hm2 : -1073741824 ≤ min x y := by omega
 go_enter Tryz.func38, Tryz.ntmps38
 go_wp2_with (first
  | (go_at_call 74; refine (both_new s t a1 a2 n1 n2 c1 c2 x y xs ys w _ _ _ _ h1 h2).mono ?_; rintro e w1 ⟨rfl, hW, A, B, R⟩; rw [h0]; have ⟨v49_0, v49_1, v49_2, v49z0, v49z1, v49z2⟩ := A; have ⟨v50_0, v50_1, v50_2, v50z0, v50z1, v50z2⟩ := B; have ⟨v51_0, v51_1, v51_2, v51z0, v51z1, v51z2⟩ := R)
  | (go_at_call 68; (with_reducible refine (none_any a1 n1 c1 _).mono ?_); rintro e w2 ⟨rfl, hb2⟩; rw [hn1]; replace hW := next hW hb2; replace A := A.stay hb2; replace B := B.stay hb2; replace R := R.stay hb2; have ⟨v52_0, v52_1, v52_2, v52z0, v52z1, v52z2⟩ := A; have ⟨v53_0, v53_1, v53_2, v53z0, v53z1, v53z2⟩ := B; have ⟨v54_0, v54_1, v54_2, v54z0, v54z1, v54z2⟩ := R)
  | (go_at_call 68; (with_reducible refine (none_any a2 n2 c2 _).mono ?_); rintro e w3 ⟨rfl, hb3⟩; rw [hn2]; replace hW := next hW hb3; replace A := A.stay hb3; replace B := B.stay hb3; replace R := R.stay hb3; have ⟨v55_0, v55_1, v55_2, v55z0, v55z1, v55z2⟩ := A; have ⟨v56_0, v56_1, v56_2, v56z0, v56z1, v56z2⟩ := B; have ⟨v57_0, v57_1, v57_2, v57z0, v57z1, v57z2⟩ := R)
  | (go_at_call 76; refine (level_ok s t a1 a2 n1 n2 c1 c2 x y xs ys _ (h1.below hW) (h2.below hW) k1 k2 x1 x2 y1 y2 g1).mono ?_; rintro e w4 ⟨a5, n5, c5, a6, n6, c6, rfl, hF, hG, hb4⟩; rw [g2]; rw [bigN_of g1] at hF; rw [bigN_of g2] at hG; replace hW := more (more (next hW hb4) (.cells #[.slice a5 n5 c5] 27)) (.cells #[.slice a6 n6 c6] 27); replace A := ((A.stay hb4).alloc (.cells #[.slice a5 n5 c5] 27)).alloc (.cells #[.slice a6 n6 c6] 27); replace B := ((B.stay hb4).alloc (.cells #[.slice a5 n5 c5] 27)).alloc (.cells #[.slice a6 n6 c6] 27); replace R := ((R.stay hb4).alloc (.cells #[.slice a5 n5 c5] 27)).alloc (.cells #[.slice a6 n6 c6] 27); have X := (box1_new w4 (.slice a5 n5 c5) 27).alloc (.cells #[.slice a6 n6 c6] 27); have Y := box1_new (w4.alloc (.cells #[.slice a5 n5 c5] 27)) (.slice a6 n6 c6) 27; rw [World.size_alloc] at Y; replace hF := (hF.alloc (.cells #[.slice a5 n5 c5] 27)).alloc (.cells #[.slice a6 n6 c6] 27); replace hG := (hG.alloc (.cells #[.slice a5 n5 c5] 27)).alloc (.cells #[.slice a6 n6 c6] 27); have ⟨v58_0, v58_1, v58_2, v58z0, v58z1, v58z2⟩ := A; have ⟨v59_0, v59_1, v59_2, v59z0, v59z1, v59z2⟩ := B; have ⟨v60_0, v60_1, v60_2, v60z0, v60z1, v60z2⟩ := R; have ⟨v61_0, v61z0⟩ := X; have ⟨v62_0, v62z0⟩ := Y)
  | (go_at_call 77; refine (natAdd_any a5 a6 n5 n6 c5 c6 (limbs (lvN (val xs) x y)) (limbs (lvN (val ys) y x)) _ hF.sl hG.sl (chk_big g1) (chk_big g2)).mono ?_; rintro e w6 ⟨a7, n7, c7, rfl, hH, hb6⟩; rw [val_limbs', val_limbs', bigN_of g3] at hH; rw [val_limbs', val_limbs', g3]; replace hW := more (next hW hb6) (.cells #[.slice a7 n7 c7] 27); replace A := (A.stay hb6).alloc (.cells #[.slice a7 n7 c7] 27); replace B := (B.stay hb6).alloc (.cells #[.slice a7 n7 c7] 27); replace R := (R.stay hb6).alloc (.cells #[.slice a7 n7 c7] 27); replace hH := hH.alloc (.cells #[.slice a7 n7 c7] 27); have ⟨v63_0, v63_1, v63_2, v63z0, v63z1, v63z2⟩ := A; have ⟨v64_0, v64_1, v64_2, v64z0, v64z1, v64z2⟩ := B; have ⟨v65_0, v65_1, v65_2, v65z0, v65z1, v65z2⟩ := R)
  | (go_at_call 35; refine (exMake_any s a7 n7 c7 (limbs (lvN (val xs) x y + lvN (val ys) y x)) (min x y) _ hH.sl (hT.below hW)).mono ?_; rintro e w9 ⟨bo, m, d, rfl, hM, hb9⟩; have lR := R.lt; have hsz := hW.size; replace hW := next hW hb9; replace R := R.stay hb9; have ⟨v66_0, v66_1, v66_2, v66z0, v66z1, v66z2⟩ := R))
 have ⟨t0, t1, t2⟩ := R.set (.bool (mkS s (limbs (lvN (val xs) x y + lvN (val ys) y x)) (min x y))) (.slice bo m d) (.int .i64 (mkX (limbs (lvN (val xs) x y + lvN (val ys) y x)) (min x y)))
 refine bodyPost_ret (v := .tuple #[.agg #[.bool (mkS s (limbs (lvN (val xs) x y + lvN (val ys) y x)) (min x y)), .slice bo m d, .int .i64 (mkX (limbs (lvN (val xs) x y + lvN (val ys) y x)) (min x y))], .int .i64 (mkE (limbs (lvN (val xs) x y + lvN (val ys) y x)) (min x y))]) (by simp [results, Tryz.results38, go_sem, t0, t1, t2]) rfl ⟨bo, m, d, rfl, ?_, ((hW.setCell (by simp; omega) _).setCell (by simp; omega) _).setCell (by simp; omega) _⟩
 refine Fr.mono (Fr.setCell (Fr.setCell (Fr.setCell hM ?_ _) ?_ _) ?_ _) hsz <;> exact lR
theorem exAdd_less (s t : Bool) (a1 a2 : Option Addr) (n1 n2 c1 c2 : Nat) (x y : Int) (xs ys : List Nat) (w : World) (h1 : Sl w a1 n1 c1 xs) (h2 : Sl w a2 n2 c2 ys) (hT : Tab w) (h0 : cmpF s xs x t ys y = 0) (hn1 : noneB n1 = false) (hn2 : noneB n2 = false) (g1 : bigE (lvN (val xs) x y) = 0) (g2 : bigE (lvN (val ys) y x) = 0) (hst : (s == t) = false) (hPQ : lvN (val ys) y x ≤ lvN (val xs) x y) :
 Calls Tryz.prog 38 #[.agg #[.bool s, .slice a1 n1 c1, .int .i64 x], .agg #[.bool t, .slice a2 n2 c2, .int .i64 y]] w (Dyn (mkA s (lvN (val xs) x y - lvN (val ys) y x) (min x y)) w) := by
 obtain ⟨d1, d2⟩ := cmpF_ok h0
 have k1 := dchk_chk d1
 have k2 := dchk_chk d2
 have ⟨x1, x2⟩ := dchk_exp d1
 have ⟨y1, y2⟩ := dchk_exp d2
 have hm1 : min x y ≤ x := Int.min_le_left _ _
 have hm2 : -1073741824 ≤ min x y := by omega
 go_enter Tryz.func38, Tryz.ntmps38
 go_wp2_with (first
  | (go_at_call 74; refine (both_new s t a1 a2 n1 n2 c1 c2 x y xs ys w _ _ _ _ h1 h2).mono ?_; rintro e w1 ⟨rfl, hW, A, B, R⟩; rw [h0]; have ⟨v67_0, v67_1, v67_2, v67z0, v67z1, v67z2⟩ := A; have ⟨v68_0, v68_1, v68_2, v68z0, v68z1, v68z2⟩ := B; have ⟨v69_0, v69_1, v69_2, v69z0, v69z1, v69z2⟩ := R)
  | (go_at_call 68; (with_reducible refine (none_any a1 n1 c1 _).mono ?_); rintro e w2 ⟨rfl, hb2⟩; rw [hn1]; replace hW := next hW hb2; replace A := A.stay hb2; replace B := B.stay hb2; replace R := R.stay hb2; have ⟨v70_0, v70_1, v70_2, v70z0, v70z1, v70z2⟩ := A; have ⟨v71_0, v71_1, v71_2, v71z0, v71z1, v71z2⟩ := B; have ⟨v72_0, v72_1, v72_2, v72z0, v72z1, v72z2⟩ := R)
  | (go_at_call 68; (with_reducible refine (none_any a2 n2 c2 _).mono ?_); rintro e w3 ⟨rfl, hb3⟩; rw [hn2]; replace hW := next hW hb3; replace A := A.stay hb3; replace B := B.stay hb3; replace R := R.stay hb3; have ⟨v73_0, v73_1, v73_2, v73z0, v73z1, v73z2⟩ := A; have ⟨v74_0, v74_1, v74_2, v74z0, v74z1, v74z2⟩ := B; have ⟨v75_0, v75_1, v75_2, v75z0, v75z1, v75z2⟩ := R)
  | (go_at_call 76; refine (level_ok s t a1 a2 n1 n2 c1 c2 x y xs ys _ (h1.below hW) (h2.below hW) k1 k2 x1 x2 y1 y2 g1).mono ?_; rintro e w4 ⟨a5, n5, c5, a6, n6, c6, rfl, hF, hG, hb4⟩; rw [g2]; rw [bigN_of g1] at hF; rw [bigN_of g2] at hG; replace hW := more (more (next hW hb4) (.cells #[.slice a5 n5 c5] 27)) (.cells #[.slice a6 n6 c6] 27); replace A := ((A.stay hb4).alloc (.cells #[.slice a5 n5 c5] 27)).alloc (.cells #[.slice a6 n6 c6] 27); replace B := ((B.stay hb4).alloc (.cells #[.slice a5 n5 c5] 27)).alloc (.cells #[.slice a6 n6 c6] 27); replace R := ((R.stay hb4).alloc (.cells #[.slice a5 n5 c5] 27)).alloc (.cells #[.slice a6 n6 c6] 27); have X := (box1_new w4 (.slice a5 n5 c5) 27).alloc (.cells #[.slice a6 n6 c6] 27); have Y := box1_new (w4.alloc (.cells #[.slice a5 n5 c5] 27)) (.slice a6 n6 c6) 27; rw [World.size_alloc] at Y; replace hF := (hF.alloc (.cells #[.slice a5 n5 c5] 27)).alloc (.cells #[.slice a6 n6 c6] 27); replace hG := (hG.alloc (.cells #[.slice a5 n5 c5] 27)).alloc (.cells #[.slice a6 n6 c6] 27); have ⟨v76_0, v76_1, v76_2, v76z0, v76z1, v76z2⟩ := A; have ⟨v77_0, v77_1, v77_2, v77z0, v77z1, v77z2⟩ := B; have ⟨v78_0, v78_1, v78_2, v78z0, v78z1, v78z2⟩ := R; have ⟨v79_0, v79z0⟩ := X; have ⟨v80_0, v80z0⟩ := Y)
  | (go_at_call 78; (with_reducible refine (natSub_any a5 a6 n5 n6 c5 c6 (limbs (lvN (val xs) x y)) (limbs (lvN (val ys) y x)) _ hF.sl hG.sl (chk_big g1) (chk_big g2)).mono ?_); rintro e w6 ⟨a7, n7, c7, rfl, hH, hb6⟩; rw [val_limbs', val_limbs'] at hH; rw [val_limbs', val_limbs']; rw [decide_eq_true hPQ]; replace hW := more (next hW hb6) (.cells #[.slice a7 n7 c7] 27); replace A := (A.stay hb6).alloc (.cells #[.slice a7 n7 c7] 27); replace B := (B.stay hb6).alloc (.cells #[.slice a7 n7 c7] 27); replace R := (R.stay hb6).alloc (.cells #[.slice a7 n7 c7] 27); replace X := (X.stay hb6).alloc (.cells #[.slice a7 n7 c7] 27); replace Y := (Y.stay hb6).alloc (.cells #[.slice a7 n7 c7] 27); have Dx := box1_new w6 (.slice a7 n7 c7) 27; replace hF := (hF.below hb6).alloc (.cells #[.slice a7 n7 c7] 27); replace hG := (hG.below hb6).alloc (.cells #[.slice a7 n7 c7] 27); replace hH := hH.alloc (.cells #[.slice a7 n7 c7] 27); have ⟨v81_0, v81_1, v81_2, v81z0, v81z1, v81z2⟩ := A; have ⟨v82_0, v82_1, v82_2, v82z0, v82z1, v82z2⟩ := B; have ⟨v83_0, v83_1, v83_2, v83z0, v83z1, v83z2⟩ := R; have ⟨v84_0, v84z0⟩ := X; have ⟨v85_0, v85z0⟩ := Y; have ⟨v86_0, v86z0⟩ := Dx)
  | (go_at_call 35; refine (exMake_any s a7 n7 c7 (limbs (lvN (val xs) x y - lvN (val ys) y x)) (min x y) _ hH.sl (hT.below hW)).mono ?_; rintro e w9 ⟨bo, m, d, rfl, hM, hb9⟩; have lR := R.lt; have hsz := hW.size; replace hW := next hW hb9; replace R := R.stay hb9; have ⟨v87_0, v87_1, v87_2, v87z0, v87z1, v87z2⟩ := R))
 have ⟨t0, t1, t2⟩ := R.set (.bool (mkS s (limbs (lvN (val xs) x y - lvN (val ys) y x)) (min x y))) (.slice bo m d) (.int .i64 (mkX (limbs (lvN (val xs) x y - lvN (val ys) y x)) (min x y)))
 refine bodyPost_ret (v := .tuple #[.agg #[.bool (mkS s (limbs (lvN (val xs) x y - lvN (val ys) y x)) (min x y)), .slice bo m d, .int .i64 (mkX (limbs (lvN (val xs) x y - lvN (val ys) y x)) (min x y))], .int .i64 (mkE (limbs (lvN (val xs) x y - lvN (val ys) y x)) (min x y))]) (by simp [results, Tryz.results38, go_sem, t0, t1, t2]) rfl ⟨bo, m, d, rfl, ?_, ((hW.setCell (by simp; omega) _).setCell (by simp; omega) _).setCell (by simp; omega) _⟩
 refine Fr.mono (Fr.setCell (Fr.setCell (Fr.setCell hM ?_ _) ?_ _) ?_ _) hsz <;> exact lR
theorem box3_other {w : World} {b : Nat} {u v x : Value} (h : Box3 w b u v x) {p : Addr} (hp : p.block ≠ b) (r : Value) : Box3 (w.setCell p r) b u v x := by
 have hn : ∀ i : Nat, p ≠ (⟨b, i, none⟩ : Addr) := fun i e => hp (congrArg Addr.block e)
 exact ⟨(World.cell?_setCell_other _ _ _ _ (hn 0)).trans h.c0, (World.cell?_setCell_other _ _ _ _ (hn 1)).trans h.c1, (World.cell?_setCell_other _ _ _ _ (hn 2)).trans h.c2, (World.frozen?_setCell ..).trans h.z0, (World.frozen?_setCell ..).trans h.z1, (World.frozen?_setCell ..).trans h.z2⟩
theorem exAdd_more (s t : Bool) (a1 a2 : Option Addr) (n1 n2 c1 c2 : Nat) (x y : Int) (xs ys : List Nat) (w : World) (h1 : Sl w a1 n1 c1 xs) (h2 : Sl w a2 n2 c2 ys) (hT : Tab w) (h0 : cmpF s xs x t ys y = 0) (hn1 : noneB n1 = false) (hn2 : noneB n2 = false) (g1 : bigE (lvN (val xs) x y) = 0) (g2 : bigE (lvN (val ys) y x) = 0) (hst : (s == t) = false) (hPQ : lvN (val xs) x y < lvN (val ys) y x) :
 Calls Tryz.prog 38 #[.agg #[.bool s, .slice a1 n1 c1, .int .i64 x], .agg #[.bool t, .slice a2 n2 c2, .int .i64 y]] w (Dyn (mkA t (lvN (val ys) y x - lvN (val xs) x y) (min x y)) w) := by
 obtain ⟨d1, d2⟩ := cmpF_ok h0
 have k1 := dchk_chk d1
 have k2 := dchk_chk d2
 have ⟨x1, x2⟩ := dchk_exp d1
 have ⟨y1, y2⟩ := dchk_exp d2
 have hm1 : min x y ≤ x := Int.min_le_left _ _
 have hm2 : -1073741824 ≤ min x y := by omega
 go_enter Tryz.func38, Tryz.ntmps38
 go_wp2_with (first
  | (go_at_call 74; refine (both_new s t a1 a2 n1 n2 c1 c2 x y xs ys w _ _ _ _ h1 h2).mono ?_; rintro e w1 ⟨rfl, hW, A, B, R⟩; rw [h0]; have ⟨v88_0, v88_1, v88_2, v88z0, v88z1, v88z2⟩ := A; have ⟨v89_0, v89_1, v89_2, v89z0, v89z1, v89z2⟩ := B; have ⟨v90_0, v90_1, v90_2, v90z0, v90z1, v90z2⟩ := R)
  | (go_at_call 68; (with_reducible refine (none_any a1 n1 c1 _).mono ?_); rintro e w2 ⟨rfl, hb2⟩; rw [hn1]; replace hW := next hW hb2; replace A := A.stay hb2; replace B := B.stay hb2; replace R := R.stay hb2; have ⟨v91_0, v91_1, v91_2, v91z0, v91z1, v91z2⟩ := A; have ⟨v92_0, v92_1, v92_2, v92z0, v92z1, v92z2⟩ := B; have ⟨v93_0, v93_1, v93_2, v93z0, v93z1, v93z2⟩ := R)
  | (go_at_call 68; (with_reducible refine (none_any a2 n2 c2 _).mono ?_); rintro e w3 ⟨rfl, hb3⟩; rw [hn2]; replace hW := next hW hb3; replace A := A.stay hb3; replace B := B.stay hb3; replace R := R.stay hb3; have ⟨v94_0, v94_1, v94_2, v94z0, v94z1, v94z2⟩ := A; have ⟨v95_0, v95_1, v95_2, v95z0, v95z1, v95z2⟩ := B; have ⟨v96_0, v96_1, v96_2, v96z0, v96z1, v96z2⟩ := R)
  | (go_at_call 76; refine (level_ok s t a1 a2 n1 n2 c1 c2 x y xs ys _ (h1.below hW) (h2.below hW) k1 k2 x1 x2 y1 y2 g1).mono ?_; rintro e w4 ⟨a5, n5, c5, a6, n6, c6, rfl, hF, hG, hb4⟩; rw [g2]; rw [bigN_of g1] at hF; rw [bigN_of g2] at hG; replace hW := more (more (next hW hb4) (.cells #[.slice a5 n5 c5] 27)) (.cells #[.slice a6 n6 c6] 27); replace A := ((A.stay hb4).alloc (.cells #[.slice a5 n5 c5] 27)).alloc (.cells #[.slice a6 n6 c6] 27); replace B := ((B.stay hb4).alloc (.cells #[.slice a5 n5 c5] 27)).alloc (.cells #[.slice a6 n6 c6] 27); replace R := ((R.stay hb4).alloc (.cells #[.slice a5 n5 c5] 27)).alloc (.cells #[.slice a6 n6 c6] 27); have X := (box1_new w4 (.slice a5 n5 c5) 27).alloc (.cells #[.slice a6 n6 c6] 27); have Y := box1_new (w4.alloc (.cells #[.slice a5 n5 c5] 27)) (.slice a6 n6 c6) 27; rw [World.size_alloc] at Y; replace hF := (hF.alloc (.cells #[.slice a5 n5 c5] 27)).alloc (.cells #[.slice a6 n6 c6] 27); replace hG := (hG.alloc (.cells #[.slice a5 n5 c5] 27)).alloc (.cells #[.slice a6 n6 c6] 27); have ⟨v97_0, v97_1, v97_2, v97z0, v97z1, v97z2⟩ := A; have ⟨v98_0, v98_1, v98_2, v98z0, v98z1, v98z2⟩ := B; have ⟨v99_0, v99_1, v99_2, v99z0, v99z1, v99z2⟩ := R; have ⟨v100_0, v100z0⟩ := X; have ⟨v101_0, v101z0⟩ := Y)
  | (go_at_call 78; (with_reducible refine (natSub_any a5 a6 n5 n6 c5 c6 (limbs (lvN (val xs) x y)) (limbs (lvN (val ys) y x)) _ hF.sl hG.sl (chk_big g1) (chk_big g2)).mono ?_); rintro e w6 ⟨a7, n7, c7, rfl, hH, hb6⟩; rw [val_limbs', val_limbs'] at hH; rw [val_limbs', val_limbs']; rw [decide_eq_false (Nat.not_le_of_lt hPQ)]; have hs6 := (next hW hb6).size; have lR6 := (R.stay hb6).lt; replace hW := more (next hW hb6) (.cells #[.slice a7 n7 c7] 27); replace A := (A.stay hb6).alloc (.cells #[.slice a7 n7 c7] 27); replace B := (B.stay hb6).alloc (.cells #[.slice a7 n7 c7] 27); replace R := (R.stay hb6).alloc (.cells #[.slice a7 n7 c7] 27); replace X := (X.stay hb6).alloc (.cells #[.slice a7 n7 c7] 27); replace Y := (Y.stay hb6).alloc (.cells #[.slice a7 n7 c7] 27); have Dx := box1_new w6 (.slice a7 n7 c7) 27; replace hF := (hF.below hb6).alloc (.cells #[.slice a7 n7 c7] 27); replace hG := (hG.below hb6).alloc (.cells #[.slice a7 n7 c7] 27); replace hH := hH.alloc (.cells #[.slice a7 n7 c7] 27); have ⟨v102_0, v102_1, v102_2, v102z0, v102z1, v102z2⟩ := A; have ⟨v103_0, v103_1, v103_2, v103z0, v103z1, v103z2⟩ := B; have ⟨v104_0, v104_1, v104_2, v104z0, v104z1, v104z2⟩ := R; have ⟨v105_0, v105z0⟩ := X; have ⟨v106_0, v106z0⟩ := Y; have ⟨v107_0, v107z0⟩ := Dx)
  | (go_at_call 78; (with_reducible refine (natSub_any a6 a5 n6 n5 c6 c5 (limbs (lvN (val ys) y x)) (limbs (lvN (val xs) x y)) _ hG.sl hF.sl (chk_big g2) (chk_big g1)).mono ?_); rintro e w8 ⟨a8, n8, c8, rfl, hK, hb8⟩; rw [val_limbs', val_limbs'] at hK; rw [val_limbs', val_limbs', decide_eq_true (Nat.le_of_lt hPQ)]; have lD := Dx.lt; have szD := hW.size; replace hW := next hW hb8; replace A := A.stay hb8; replace B := B.stay hb8; replace R := R.stay hb8; replace Dx := Dx.stay hb8; have Dx' := Dx.set (.slice a8 n8 c8); have ⟨v108_0, v108_1, v108_2, v108z0, v108z1, v108z2⟩ := A; have ⟨v109_0, v109_1, v109_2, v109z0, v109z1, v109z2⟩ := B; have ⟨v110_0, v110_1, v110_2, v110z0, v110z1, v110z2⟩ := R; have ⟨v111_0, v111z0⟩ := Dx)
  | (go_at_call 35; refine (exMake_any t a8 n8 c8 (limbs (lvN (val ys) y x - lvN (val xs) x y)) (min x y) _ (hK.setCell lD _).sl (hT.below (hW.setCell hs6 _))).mono ?_; rintro e w9 ⟨bo, m, d, rfl, hM, hb9⟩; have lR := (box3_other R (p := ⟨w6.heap.size, 0, none⟩) (by simp; omega) (.slice a8 n8 c8)).lt; have hsz := (hW.setCell (p := ⟨w6.heap.size, 0, none⟩) hs6 (.slice a8 n8 c8)).size; replace hW := next (hW.setCell (p := ⟨w6.heap.size, 0, none⟩) hs6 (.slice a8 n8 c8)) hb9; replace R := (box3_other R (p := ⟨w6.heap.size, 0, none⟩) (by simp; omega) (.slice a8 n8 c8)).stay hb9; have ⟨v112_0, v112_1, v112_2, v112z0, v112z1, v112z2⟩ := R))
 have ⟨t0, t1, t2⟩ := R.set (.bool (mkS t (limbs (lvN (val ys) y x - lvN (val xs) x y)) (min x y))) (.slice bo m d) (.int .i64 (mkX (limbs (lvN (val ys) y x - lvN (val xs) x y)) (min x y)))
 refine bodyPost_ret (v := .tuple #[.agg #[.bool (mkS t (limbs (lvN (val ys) y x - lvN (val xs) x y)) (min x y)), .slice bo m d, .int .i64 (mkX (limbs (lvN (val ys) y x - lvN (val xs) x y)) (min x y))], .int .i64 (mkE (limbs (lvN (val ys) y x - lvN (val xs) x y)) (min x y))]) (by simp [results, Tryz.results38, go_sem, t0, t1, t2]) rfl ⟨bo, m, d, rfl, ?_, ((hW.setCell (by simp; omega) _).setCell (by simp; omega) _).setCell (by simp; omega) _⟩
 refine Fr.mono (Fr.setCell (Fr.setCell (Fr.setCell hM ?_ _) ?_ _) ?_ _) hsz <;> exact lR
theorem exAdd_any (s t : Bool) (a1 a2 : Option Addr) (n1 n2 c1 c2 : Nat) (x y : Int) (xs ys : List Nat) (w : World) (h1 : Sl w a1 n1 c1 xs) (h2 : Sl w a2 n2 c2 ys) (hT : Tab w) :
 Calls Tryz.prog 38 #[.agg #[.bool s, .slice a1 n1 c1, .int .i64 x], .agg #[.bool t, .slice a2 n2 c2, .int .i64 y]] w (Dyn (addA s xs x t ys y) w) := by
 by_cases h0 : cmpF s xs x t ys y = 0
 · obtain ⟨d1, d2⟩ := cmpF_ok h0
   have z1 := val_zero_n h1 (dchk_chk d1)
   have z2 := val_zero_n h2 (dchk_chk d2)
   unfold addA
   rw [if_neg (by simp [d1]), if_neg (by simp [d2])]
   by_cases e1 : val xs = 0
   · rw [if_pos e1]
     exact exAdd_anone s t a1 a2 n1 n2 c1 c2 x y xs ys w h1 h2 h0 (decide_eq_true (z1.1 e1))
   · have f1 : noneB n1 = false := decide_eq_false fun hh => e1 (z1.2 hh)
     rw [if_neg e1]
     by_cases e2 : val ys = 0
     · rw [if_pos e2]
       exact exAdd_bnone s t a1 a2 n1 n2 c1 c2 x y xs ys w h1 h2 h0 f1 (decide_eq_true (z2.1 e2))
     · have f2 : noneB n2 = false := decide_eq_false fun hh => e2 (z2.2 hh)
       rw [if_neg e2]
       by_cases g : bigE (lvN (val xs) x y) ≠ 0 ∨ bigE (lvN (val ys) y x) ≠ 0
       · rw [if_pos g]
         exact exAdd_level s t a1 a2 n1 n2 c1 c2 x y xs ys w h1 h2 h0 f1 f2 g
       · rw [if_neg g]
         have g1 : bigE (lvN (val xs) x y) = 0 := Decidable.byContradiction fun hh => g (.inl hh)
         have g2 : bigE (lvN (val ys) y x) = 0 := Decidable.byContradiction fun hh => g (.inr hh)
         by_cases hst : s = t
         · rw [if_pos hst]
           have hB : (s == t) = true := beq_iff_eq.2 hst
           by_cases g3 : bigE (lvN (val xs) x y + lvN (val ys) y x) = 0
           · rw [if_neg (by simp [g3])]
             exact exAdd_plus s t a1 a2 n1 n2 c1 c2 x y xs ys w h1 h2 hT h0 f1 f2 g1 g2 hB g3
           · rw [if_pos g3]
             exact exAdd_many s t a1 a2 n1 n2 c1 c2 x y xs ys w h1 h2 h0 f1 f2 g1 g2 hB (bigE_four g3)
         · rw [if_neg hst]
           have hB : (s == t) = false := beq_eq_false_iff_ne.2 hst
           by_cases hPQ : lvN (val ys) y x ≤ lvN (val xs) x y
           · rw [if_pos hPQ]
             exact exAdd_less s t a1 a2 n1 n2 c1 c2 x y xs ys w h1 h2 hT h0 f1 f2 g1 g2 hB hPQ
           · rw [if_neg hPQ]
             exact exAdd_more s t a1 a2 n1 n2 c1 c2 x y xs ys w h1 h2 hT h0 f1 f2 g1 g2 hB (Nat.lt_of_not_le hPQ)
 · rw [addA_bad h0]
   exact exAdd_bad s t a1 a2 n1 n2 c1 c2 x y xs ys w h1 h2 h0
end Go.Proofs.YtpmncmglmobjoaaGreatDoor
