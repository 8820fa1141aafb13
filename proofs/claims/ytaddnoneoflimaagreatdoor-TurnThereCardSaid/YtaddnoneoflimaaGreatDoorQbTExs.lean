/-
  The walks of exact.both, sign, twin, and of the reference's two, sign, Twin. The walks of exact.Neg and exact.Mul. The walk of exact.Add, way by way. (Printed by wip/gen/add.py.) The walk of exact.Add, its last way, and all of it. (Printed by wip/gen/add.py.) The walk of exact.Cmp. (Printed by wip/gen/cmp.py.)
-/
import Derived.Test.YtaddnoneoflimaaGreatDoorQbTSumNs
import Derived.Test.YtaddnoneoflimaaGreatDoorQbTMT1
import Derived.Test.YtaddnoneoflimaaGreatDoorQbTMakes
import Derived.Test.YtaddnoneoflimaaGreatDoorQbTNatOps
import Derived.Deep.RegionHeld3
namespace Go.Proofs.YtaddnoneoflimaaGreatDoor

open Go.RowKit Go.Lb

set_option maxRecDepth 100000 in
theorem exBoth_any (s t : Bool) (a1 a2 : Option Addr) (n1 n2 c1 c2 : Nat) (x y : Int) (xs ys : List Nat) (w : World) (h1 : Sl w a1 n1 c1 xs) (h2 : Sl w a2 n2 c2 ys) :
    Calls Tryz.prog 171 #[.agg #[.bool s, .slice a1 n1 c1, .int .i64 x], .agg #[.bool t, .slice a2 n2 c2, .int .i64 y]] w fun e w' => e = .returned (.int .i64 (cmpF s xs x t ys y)) ∧ Below w.heap.size w w' := by
  by_cases h0 : dchk s xs x = 0
  · have h0B : (dchk s xs x != 0) = false := by simp [h0]
    have hF : cmpF s xs x t ys y = dchk t ys y := by unfold cmpF; rw [if_neg (by simp [h0])]
    rw [hF]
    go_enter Tryz.func171, Tryz.ntmps171
    go_wp2_with (first
      | (go_at_call 215; (with_reducible refine (dyCheck_any s a1 n1 c1 x xs _ ((h1.alloc _).alloc _)).mono ?_); rintro e w1 ⟨rfl, hb1⟩; have A := ((box3_new w _ _ _ _).alloc _).stay hb1; have B := (box3_new _ _ _ _ _).stay hb1; rw [World.size_alloc] at B; have hW := next (more (more (Below.refl _ _) _) _) hb1; have ⟨q0, q1, q2, qz0, qz1, qz2⟩ := A; have ⟨p0, p1, p2, pz0, pz1, pz2⟩ := B)
      | (go_at_call 215; refine (dyCheck_any t a2 n2 c2 y ys _ (h2.below hW)).mono ?_; rintro e w2 ⟨rfl, hb2⟩))
    go_ret
    exact ⟨rfl, next hW hb2⟩
  · have h0B : (dchk s xs x != 0) = true := by simp [h0]
    have hF : cmpF s xs x t ys y = dchk s xs x := by unfold cmpF; rw [if_pos h0]
    rw [hF]
    go_enter Tryz.func171, Tryz.ntmps171
    go_wp2_with (first
      | (go_at_call 215; (with_reducible refine (dyCheck_any s a1 n1 c1 x xs _ ((h1.alloc _).alloc _)).mono ?_); rintro e w1 ⟨rfl, hb1⟩; have hW := next (more (more (Below.refl _ _) _) _) hb1))
    go_ret
    exact ⟨rfl, hW⟩

set_option maxRecDepth 100000 in
theorem exSign_any (s : Bool) (ao : Option Addr) (n c : Nat) (x : Int) (w : World) :
    Calls Tryz.prog 172 #[.agg #[.bool s, .slice ao n c, .int .i64 x]] w fun e w' => e = .returned (.int .i64 (sgA s n)) ∧ Below w.heap.size w w' := by
  by_cases h0 : n = 0
  · subst h0
    have hnB : noneB 0 = true := rfl
    have hS : sgA s 0 = 0 := rfl
    rw [hS]
    go_enter Tryz.func172, Tryz.ntmps172
    go_wp2_with (go_at_call 248; refine (none_any _ 0 c _).mono ?_; rintro e w2 ⟨rfl, hb2⟩; rw [hnB])
    go_ret
    exact ⟨rfl, next (more (Below.refl _ _) _) hb2⟩
  · have hnB : noneB n = false := by unfold noneB; exact decide_eq_false h0
    cases s
    · have hS : sgA false n = 1 := if_neg h0
      rw [hS]
      go_enter Tryz.func172, Tryz.ntmps172
      go_wp2_with (go_at_call 248; refine (none_any _ n c _).mono ?_; rintro e w2 ⟨rfl, hb2⟩; rw [hnB]; have A := (box3_new w _ _ _ _).stay hb2; have ⟨q0, q1, q2, qz0, qz1, qz2⟩ := A)
      go_ret
      exact ⟨rfl, next (more (Below.refl _ _) _) hb2⟩
    · have hS : sgA true n = -1 := if_neg h0
      rw [hS]
      go_enter Tryz.func172, Tryz.ntmps172
      go_wp2_with (go_at_call 248; refine (none_any _ n c _).mono ?_; rintro e w2 ⟨rfl, hb2⟩; rw [hnB]; have A := (box3_new w _ _ _ _).stay hb2; have ⟨q0, q1, q2, qz0, qz1, qz2⟩ := A)
      go_ret
      exact ⟨rfl, next (more (Below.refl _ _) _) hb2⟩

end Go.Proofs.YtaddnoneoflimaaGreatDoor

namespace Go.Proofs.YtaddnoneoflimaaGreatDoor

open Go.RowKit Go.Lb

theorem val_zero_n {w : World} {ao : Option Addr} {n c : Nat} {ys : List Nat} (h : Sl w ao n c ys) (hc : chk ys = 0) : val ys = 0 ↔ n = 0 := by
  rw [val_zero_iff h.ok hc, h.len]

/-- both ahead of what answers a dyadic: its three blocks lie there behind it. -/
theorem both_new (s t : Bool) (a1 a2 : Option Addr) (n1 n2 c1 c2 : Nat) (x y : Int) (xs ys : List Nat) (w : World) (r0 r1 r2 : Value) (ty : TypeId) (h1 : Sl w a1 n1 c1 xs) (h2 : Sl w a2 n2 c2 ys) :
    Calls Tryz.prog 171 #[.agg #[.bool s, .slice a1 n1 c1, .int .i64 x], .agg #[.bool t, .slice a2 n2 c2, .int .i64 y]] (((w.alloc (.cells #[.bool s, .slice a1 n1 c1, .int .i64 x] 90)).alloc (.cells #[.bool t, .slice a2 n2 c2, .int .i64 y] 90)).alloc (.cells #[r0, r1, r2] ty)) fun e w' =>
      e = .returned (.int .i64 (cmpF s xs x t ys y)) ∧ Below w.heap.size w w' ∧ Box3 w' w.heap.size (.bool s) (.slice a1 n1 c1) (.int .i64 x) ∧ Box3 w' (w.heap.size + 1) (.bool t) (.slice a2 n2 c2) (.int .i64 y) ∧ Box3 w' (w.heap.size + 1 + 1) r0 r1 r2 := by
  refine (exBoth_any s t a1 a2 n1 n2 c1 c2 x y xs ys _ (((h1.alloc _).alloc _).alloc _) (((h2.alloc _).alloc _).alloc _)).mono ?_
  rintro e w' ⟨rfl, hb⟩
  refine ⟨rfl, next (more (more (more (Below.refl _ _) _) _) _) hb, (((box3_new w _ _ _ _).alloc _).alloc _).stay hb, ?_, ?_⟩
  · have := ((box3_new (w.alloc (.cells #[.bool s, .slice a1 n1 c1, .int .i64 x] 90)) (.bool t) (.slice a2 n2 c2) (.int .i64 y) 90).alloc (.cells #[r0, r1, r2] ty)).stay hb
    rw [World.size_alloc] at this
    exact this
  · have := (box3_new ((w.alloc (.cells #[.bool s, .slice a1 n1 c1, .int .i64 x] 90)).alloc (.cells #[.bool t, .slice a2 n2 c2, .int .i64 y] 90)) r0 r1 r2 ty).stay hb
    rw [World.size_alloc, World.size_alloc] at this
    exact this

theorem bigN_of {N : Nat} (h : bigE N = 0) : bigN N = N := by
  unfold bigE at h
  unfold bigN
  split at h
  · rename_i hh; exact if_pos hh
  · cases h

theorem cmpF_ok {s t : Bool} {x y : Int} {xs ys : List Nat} (h : cmpF s xs x t ys y = 0) : dchk s xs x = 0 ∧ dchk t ys y = 0 := by
  unfold cmpF at h
  by_cases h0 : dchk s xs x = 0
  · rw [if_neg (by simp [h0])] at h
    exact ⟨h0, h⟩
  · rw [if_pos h0] at h
    exact absurd h h0

end Go.Proofs.YtaddnoneoflimaaGreatDoor

namespace Go.Proofs.YtaddnoneoflimaaGreatDoor

open Go.RowKit Go.Lb

theorem chk_big {N : Nat} (h : bigE N = 0) : chk (limbs N) = 0 := by
  refine chk_limbs ?_
  unfold bigE at h
  split at h
  · assumption
  · cases h

set_option maxRecDepth 100000 in
set_option maxHeartbeats 4000000 in
theorem exAdd_many (s t : Bool) (a1 a2 : Option Addr) (n1 n2 c1 c2 : Nat) (x y : Int) (xs ys : List Nat) (w : World) (h1 : Sl w a1 n1 c1 xs) (h2 : Sl w a2 n2 c2 ys) (h0 : cmpF s xs x t ys y = 0) (hn1 : noneB n1 = false) (hn2 : noneB n2 = false) (g1 : bigE (lvN (val xs) x y) = 0) (g2 : bigE (lvN (val ys) y x) = 0) (hst : (s == t) = true) (g3 : bigE (lvN (val xs) x y + lvN (val ys) y x) = 4) :
    Calls Tryz.prog 236 #[.agg #[.bool s, .slice a1 n1 c1, .int .i64 x], .agg #[.bool t, .slice a2 n2 c2, .int .i64 y]] w (Dyn (noA 4) w) := by
  obtain ⟨d1, d2⟩ := cmpF_ok h0
  have k1 := dchk_chk d1
  have k2 := dchk_chk d2
  have ⟨x1, x2⟩ := dchk_exp d1
  have ⟨y1, y2⟩ := dchk_exp d2
  have hm1 : min x y ≤ x := Int.min_le_left _ _
  have hm2 : -1073741824 ≤ min x y := by omega
  go_enter Tryz.func236, Tryz.ntmps236
  go_wp2_with (first
    | (go_at_call 171; refine (both_new s t a1 a2 n1 n2 c1 c2 x y xs ys w _ _ _ _ h1 h2).mono ?_; rintro e w1 ⟨rfl, hW, A, B, R⟩; rw [h0]; have ⟨v32_0, v32_1, v32_2, v32z0, v32z1, v32z2⟩ := A; have ⟨v33_0, v33_1, v33_2, v33z0, v33z1, v33z2⟩ := B; have ⟨v34_0, v34_1, v34_2, v34z0, v34z1, v34z2⟩ := R)
    | (go_at_call 248; (with_reducible refine (none_any a1 n1 c1 _).mono ?_); rintro e w2 ⟨rfl, hb2⟩; rw [hn1]; replace hW := next hW hb2; replace A := A.stay hb2; replace B := B.stay hb2; replace R := R.stay hb2; have ⟨v35_0, v35_1, v35_2, v35z0, v35z1, v35z2⟩ := A; have ⟨v36_0, v36_1, v36_2, v36z0, v36z1, v36z2⟩ := B; have ⟨v37_0, v37_1, v37_2, v37z0, v37z1, v37z2⟩ := R)
    | (go_at_call 248; (with_reducible refine (none_any a2 n2 c2 _).mono ?_); rintro e w3 ⟨rfl, hb3⟩; rw [hn2]; replace hW := next hW hb3; replace A := A.stay hb3; replace B := B.stay hb3; replace R := R.stay hb3; have ⟨v38_0, v38_1, v38_2, v38z0, v38z1, v38z2⟩ := A; have ⟨v39_0, v39_1, v39_2, v39z0, v39z1, v39z2⟩ := B; have ⟨v40_0, v40_1, v40_2, v40z0, v40z1, v40z2⟩ := R)
    | (go_at_call 174; refine (level_ok s t a1 a2 n1 n2 c1 c2 x y xs ys _ (h1.below hW) (h2.below hW) k1 k2 x1 x2 y1 y2 g1).mono ?_; rintro e w4 ⟨a5, n5, c5, a6, n6, c6, rfl, hF, hG, hb4⟩; rw [g2]; rw [bigN_of g1] at hF; rw [bigN_of g2] at hG; replace hW := more (more (next hW hb4) (.cells #[.slice a5 n5 c5] 78)) (.cells #[.slice a6 n6 c6] 78); replace A := ((A.stay hb4).alloc (.cells #[.slice a5 n5 c5] 78)).alloc (.cells #[.slice a6 n6 c6] 78); replace B := ((B.stay hb4).alloc (.cells #[.slice a5 n5 c5] 78)).alloc (.cells #[.slice a6 n6 c6] 78); replace R := ((R.stay hb4).alloc (.cells #[.slice a5 n5 c5] 78)).alloc (.cells #[.slice a6 n6 c6] 78); have X := (box1_new w4 (.slice a5 n5 c5) 78).alloc (.cells #[.slice a6 n6 c6] 78); have Y := box1_new (w4.alloc (.cells #[.slice a5 n5 c5] 78)) (.slice a6 n6 c6) 78; rw [World.size_alloc] at Y; replace hF := (hF.alloc (.cells #[.slice a5 n5 c5] 78)).alloc (.cells #[.slice a6 n6 c6] 78); replace hG := (hG.alloc (.cells #[.slice a5 n5 c5] 78)).alloc (.cells #[.slice a6 n6 c6] 78); have ⟨v41_0, v41_1, v41_2, v41z0, v41z1, v41z2⟩ := A; have ⟨v42_0, v42_1, v42_2, v42z0, v42z1, v42z2⟩ := B; have ⟨v43_0, v43_1, v43_2, v43z0, v43z1, v43z2⟩ := R; have ⟨v44_0, v44z0⟩ := X; have ⟨v45_0, v45z0⟩ := Y)
    | (go_at_call 340; refine (natAdd_any a5 a6 n5 n6 c5 c6 (limbs (lvN (val xs) x y)) (limbs (lvN (val ys) y x)) _ hF.sl hG.sl (chk_big g1) (chk_big g2)).mono ?_; rintro e w6 ⟨a7, n7, c7, rfl, hH, hb6⟩; rw [val_limbs', val_limbs'] at hH; rw [val_limbs', val_limbs', g3]; replace hW := more (next hW hb6) (.cells #[.slice a7 n7 c7] 78); replace A := (A.stay hb6).alloc (.cells #[.slice a7 n7 c7] 78); replace B := (B.stay hb6).alloc (.cells #[.slice a7 n7 c7] 78); replace R := (R.stay hb6).alloc (.cells #[.slice a7 n7 c7] 78); replace hH := hH.alloc (.cells #[.slice a7 n7 c7] 78); have ⟨v46_0, v46_1, v46_2, v46z0, v46z1, v46z2⟩ := A; have ⟨v47_0, v47_1, v47_2, v47z0, v47z1, v47z2⟩ := B; have ⟨v48_0, v48_1, v48_2, v48z0, v48z1, v48z2⟩ := R))
  have ⟨t0, t1, t2⟩ := R.set (.bool false) (.slice none 0 0) (.int .i64 0)
  refine bodyPost_ret (v := .tuple #[.agg #[.bool false, .slice none 0 0, .int .i64 0], .int .i64 4]) (by simp [results, Tryz.results236, go_sem, t0, t1, t2]) rfl (dyn_no (((hW.setCell (by simp; omega) _).setCell (by simp; omega) _).setCell (by simp; omega) _))

end Go.Proofs.YtaddnoneoflimaaGreatDoor

namespace Go.Proofs.YtaddnoneoflimaaGreatDoor

open Go.RowKit Go.Lb

end Go.Proofs.YtaddnoneoflimaaGreatDoor

namespace Go.Proofs.YtaddnoneoflimaaGreatDoor

open Go.RowKit Go.Lb

/-- What a block of three cells holds. -/
structure Cell3 (w : World) (b : Nat) (u v x : Value) : Prop where
  c0 : w.cell? ⟨b, 0, none⟩ = some u
  c1 : w.cell? ⟨b, 1, none⟩ = some v
  c2 : w.cell? ⟨b, 2, none⟩ = some x

theorem cmpN_bounds (m n : Nat) : -1 ≤ cmpN m n ∧ cmpN m n ≤ 1 := by
  rcases Nat.lt_trichotomy m n with h | h | h
  · rw [cmpN_lt h]; decide
  · rw [cmpN_eq h]; decide
  · rw [cmpN_gt h]; decide

theorem Cell3.stay {wp w' : World} {b : Nat} {u v x : Value} (h : Cell3 wp b u v x) (k : Below wp.heap.size wp w') : Cell3 w' b u v x := ⟨cellStay h.c0 k, cellStay h.c1 k, cellStay h.c2 k⟩

set_option maxRecDepth 100000 in
set_option maxHeartbeats 4000000 in
theorem exCmp_bad (s t : Bool) (a1 a2 : Option Addr) (n1 n2 c1 c2 : Nat) (x y : Int) (xs ys : List Nat) (w : World) (h1 : Sl w a1 n1 c1 xs) (h2 : Sl w a2 n2 c2 ys) (h0 : cmpF s xs x t ys y ≠ 0) :
    Calls Tryz.prog 63 #[.agg #[.bool s, .slice a1 n1 c1, .int .i64 x], .agg #[.bool t, .slice a2 n2 c2, .int .i64 y]] w fun e w' => e = .returned (.tuple #[.int .i64 0, .int .i64 (cmpF s xs x t ys y)]) ∧ Below w.heap.size w w' := by
  have h0B : (cmpF s xs x t ys y != 0) = true := by simp [h0]
  have h1B : (cmpF s xs x t ys y == 0) = false := by simp [h0]
  generalize hE : cmpF s xs x t ys y = E at h0 h0B h1B ⊢
  go_enter Tryz.func63, Tryz.ntmps63
  go_wp2_with (first
    | (go_at_call 171; refine (exBoth_any s t a1 a2 n1 n2 c1 c2 x y xs ys _ ((h1.alloc _).alloc _) ((h2.alloc _).alloc _)).mono ?_; rintro e w1 ⟨rfl, hb1⟩; rw [hE]; have hW := next (more (more (Below.refl _ _) _) _) hb1))
  go_ret2
  exact ⟨rfl, hW⟩

set_option maxRecDepth 100000 in
set_option maxHeartbeats 4000000 in
theorem exCmp_differ (s t : Bool) (a1 a2 : Option Addr) (n1 n2 c1 c2 : Nat) (x y : Int) (xs ys : List Nat) (w : World) (h1 : Sl w a1 n1 c1 xs) (h2 : Sl w a2 n2 c2 ys) (S Z : Int) (hS : sgA s n1 = S) (hZ : sgA t n2 = Z) (h0 : cmpF s xs x t ys y = 0) (bS : -1 ≤ S ∧ S ≤ 1) (bZ : -1 ≤ Z ∧ Z ≤ 1) (hd : S ≠ Z ∨ S = 0) :
    Calls Tryz.prog 63 #[.agg #[.bool s, .slice a1 n1 c1, .int .i64 x], .agg #[.bool t, .slice a2 n2 c2, .int .i64 y]] w fun e w' => e = .returned (.tuple #[.int .i64 (max (-1) (min 1 (S - Z))), .int .i64 0]) ∧ Below w.heap.size w w' := by
  have hb : ((S != Z) = true) ∨ ((S != Z) = false ∧ (S == 0) = true) := by
    by_cases h : S = Z
    · exact .inr ⟨by simp [h], by simpa using hd.resolve_left (by simp [h])⟩
    · exact .inl (by simp [h])
  obtain ⟨bS1, bS2⟩ := bS
  obtain ⟨bZ1, bZ2⟩ := bZ
  go_enter Tryz.func63, Tryz.ntmps63
  go_wp2_with (first
    | (go_at_call 171; refine (exBoth_any s t a1 a2 n1 n2 c1 c2 x y xs ys _ ((h1.alloc _).alloc _) ((h2.alloc _).alloc _)).mono ?_; rintro e w1 ⟨rfl, hb1⟩; rw [h0]; have A := ((box3_new w _ _ _ _).alloc _).stay hb1; have B := (box3_new _ _ _ _ _).stay hb1; rw [World.size_alloc] at B; have hW := next (more (more (Below.refl _ _) _) _) hb1; have ⟨v3_0, v3_1, v3_2, v3z0, v3z1, v3z2⟩ := A; have ⟨v4_0, v4_1, v4_2, v4z0, v4z1, v4z2⟩ := B))
  have cS : ∀ W : World, Calls Tryz.prog 172 #[.agg #[.bool s, .slice a1 n1 c1, .int .i64 x]] W fun e w' => e = .returned (.int .i64 S) ∧ Below W.heap.size W w' := fun W => hS ▸ exSign_any s a1 n1 c1 x W
  have cZ : ∀ W : World, Calls Tryz.prog 172 #[.agg #[.bool t, .slice a2 n2 c2, .int .i64 y]] W fun e w' => e = .returned (.int .i64 Z) ∧ Below W.heap.size W w' := fun W => hZ ▸ exSign_any t a2 n2 c2 y W
  go_region_held3 (fun w' => w'.cell? ⟨w.heap.size, 0, none⟩ = some (.bool s) ∧ w'.cell? ⟨w.heap.size, 1, none⟩ = some (.slice a1 n1 c1) ∧ w'.cell? ⟨w.heap.size, 2, none⟩ = some (.int .i64 x) ∧ w'.cell? ⟨w.heap.size + 1, 0, none⟩ = some (.bool t) ∧ w'.cell? ⟨w.heap.size + 1, 1, none⟩ = some (.slice a2 n2 c2) ∧ w'.cell? ⟨w.heap.size + 1, 2, none⟩ = some (.int .i64 y) ∧ Below w.heap.size w w')
    ((go_split_ands; refine ⟨?_, ?_, ?_, ?_, ?_, ?_, ?_⟩ <;> (first | assumption | exact Below.drew (by assumption) | exact cellStay (by assumption) hbB | exact next (by assumption) hbB | (go_keep; done))))
    (first | (go_at_call 172; (with_reducible refine (cS _).mono ?_); rintro en wB ⟨rfl, hbB⟩) | (go_at_call 172; (with_reducible refine (cZ _).mono ?_); rintro en wB ⟨rfl, hbB⟩))
  go_split_ands
  go_wp2
  all_goals
    refine bodyPost_ret (v := .tuple #[.int .i64 (max (-1) (min 1 (S - Z))), .int .i64 0]) (by simp [results, Tryz.results63, go_sem] <;> omega) rfl ⟨rfl, by assumption⟩

set_option maxRecDepth 100000 in
set_option maxHeartbeats 4000000 in
theorem exCmp_below (s t : Bool) (a1 a2 : Option Addr) (n1 n2 c1 c2 : Nat) (x y : Int) (xs ys : List Nat) (w : World) (h1 : Sl w a1 n1 c1 xs) (h2 : Sl w a2 n2 c2 ys) (S : Int) (hS : sgA s n1 = S) (hZ : sgA t n2 = S) (h0 : cmpF s xs x t ys y = 0) (bS : -1 ≤ S ∧ S ≤ 1) (hs0 : S ≠ 0) (hv : (szN xs : Int) + x < szN ys + y) :
    Calls Tryz.prog 63 #[.agg #[.bool s, .slice a1 n1 c1, .int .i64 x], .agg #[.bool t, .slice a2 n2 c2, .int .i64 y]] w fun e w' => e = .returned (.tuple #[.int .i64 (-S), .int .i64 0]) ∧ Below w.heap.size w w' := by
  obtain ⟨d1, d2⟩ := cmpF_ok h0
  have k1 := dchk_chk d1
  have k2 := dchk_chk d2
  have ⟨x1, x2⟩ := dchk_exp d1
  have ⟨y1, y2⟩ := dchk_exp d2
  have m1 := szN_max h1.ok k1
  have m2 := szN_max h2.ok k2
  have hz1 : bitsN xs = (szN xs : Int) := by unfold bitsN; rw [if_pos k1]
  have hz2 : bitsN ys = (szN ys : Int) := by unfold bitsN; rw [if_pos k2]
  have hb : ((S != S) = false) ∧ (S == 0) = false := ⟨by simp, by simpa using hs0⟩
  obtain ⟨bS1, bS2⟩ := bS
  generalize szN xs = p at hz1 m1 hv
  generalize szN ys = q at hz2 m2 hv
  go_enter Tryz.func63, Tryz.ntmps63
  go_wp2_with (first
    | (go_at_call 171; refine (exBoth_any s t a1 a2 n1 n2 c1 c2 x y xs ys _ ((h1.alloc _).alloc _) ((h2.alloc _).alloc _)).mono ?_; rintro e w1 ⟨rfl, hb1⟩; rw [h0]; have A := ((box3_new w _ _ _ _).alloc _).stay hb1; have B := (box3_new _ _ _ _ _).stay hb1; rw [World.size_alloc] at B; have hW := next (more (more (Below.refl _ _) _) _) hb1; have ⟨v11_0, v11_1, v11_2, v11z0, v11z1, v11z2⟩ := A; have ⟨v12_0, v12_1, v12_2, v12z0, v12z1, v12z2⟩ := B))
  have cS : ∀ W : World, Calls Tryz.prog 172 #[.agg #[.bool s, .slice a1 n1 c1, .int .i64 x]] W fun e w' => e = .returned (.int .i64 S) ∧ Below W.heap.size W w' := fun W => hS ▸ exSign_any s a1 n1 c1 x W
  have cZ : ∀ W : World, Calls Tryz.prog 172 #[.agg #[.bool t, .slice a2 n2 c2, .int .i64 y]] W fun e w' => e = .returned (.int .i64 S) ∧ Below W.heap.size W w' := fun W => hZ ▸ exSign_any t a2 n2 c2 y W
  go_region_held3 (fun w' => w'.cell? ⟨w.heap.size, 0, none⟩ = some (.bool s) ∧ w'.cell? ⟨w.heap.size, 1, none⟩ = some (.slice a1 n1 c1) ∧ w'.cell? ⟨w.heap.size, 2, none⟩ = some (.int .i64 x) ∧ w'.cell? ⟨w.heap.size + 1, 0, none⟩ = some (.bool t) ∧ w'.cell? ⟨w.heap.size + 1, 1, none⟩ = some (.slice a2 n2 c2) ∧ w'.cell? ⟨w.heap.size + 1, 2, none⟩ = some (.int .i64 y) ∧ Below w.heap.size w w')
    ((go_split_ands; refine ⟨?_, ?_, ?_, ?_, ?_, ?_, ?_⟩ <;> (first | assumption | exact Below.drew (by assumption) | exact cellStay (by assumption) hbB | exact next (by assumption) hbB | (go_keep; done))))
    (first | (go_at_call 172; (with_reducible refine (cS _).mono ?_); rintro en wB ⟨rfl, hbB⟩) | (go_at_call 172; (with_reducible refine (cZ _).mono ?_); rintro en wB ⟨rfl, hbB⟩))
  go_split_ands
  have hW : Below w.heap.size w wB := by assumption
  have A : Cell3 wB w.heap.size (.bool s) (.slice a1 n1 c1) (.int .i64 x) := ⟨by assumption, by assumption, by assumption⟩
  have B : Cell3 wB (w.heap.size + 1) (.bool t) (.slice a2 n2 c2) (.int .i64 y) := ⟨by assumption, by assumption, by assumption⟩
  go_wp2_with (first
    | (go_at_call 173; (with_reducible refine (natBits_any a1 n1 c1 xs _ (h1.below hW)).mono ?_); rintro e w4 ⟨rfl, hb4⟩; rw [hz1]; replace hW := next hW hb4; replace A := A.stay hb4; replace B := B.stay hb4; have ⟨v7_0, v7_1, v7_2⟩ := A; have ⟨v8_0, v8_1, v8_2⟩ := B)
    | (go_at_call 173; (with_reducible refine (natBits_any a2 n2 c2 ys _ (h2.below hW)).mono ?_); rintro e w5 ⟨rfl, hb5⟩; rw [hz2]; replace hW := next hW hb5; replace A := A.stay hb5; replace B := B.stay hb5; have ⟨v9_0, v9_1, v9_2⟩ := A; have ⟨v10_0, v10_1, v10_2⟩ := B))
  go_quiet (fail)
  rename_i nq
  have hW2 := next hW (drewn (Below.refl _ _) nq)
  go_wp2
  refine bodyPost_ret (v := .tuple #[.int .i64 (-S), .int .i64 0]) (by simp [results, Tryz.results63, go_sem]) rfl ⟨rfl, hW2⟩

set_option maxRecDepth 100000 in
set_option maxHeartbeats 4000000 in
theorem exCmp_above (s t : Bool) (a1 a2 : Option Addr) (n1 n2 c1 c2 : Nat) (x y : Int) (xs ys : List Nat) (w : World) (h1 : Sl w a1 n1 c1 xs) (h2 : Sl w a2 n2 c2 ys) (S : Int) (hS : sgA s n1 = S) (hZ : sgA t n2 = S) (h0 : cmpF s xs x t ys y = 0) (bS : -1 ≤ S ∧ S ≤ 1) (hs0 : S ≠ 0) (hv : (szN ys : Int) + y < szN xs + x) :
    Calls Tryz.prog 63 #[.agg #[.bool s, .slice a1 n1 c1, .int .i64 x], .agg #[.bool t, .slice a2 n2 c2, .int .i64 y]] w fun e w' => e = .returned (.tuple #[.int .i64 S, .int .i64 0]) ∧ Below w.heap.size w w' := by
  obtain ⟨d1, d2⟩ := cmpF_ok h0
  have k1 := dchk_chk d1
  have k2 := dchk_chk d2
  have ⟨x1, x2⟩ := dchk_exp d1
  have ⟨y1, y2⟩ := dchk_exp d2
  have m1 := szN_max h1.ok k1
  have m2 := szN_max h2.ok k2
  have hz1 : bitsN xs = (szN xs : Int) := by unfold bitsN; rw [if_pos k1]
  have hz2 : bitsN ys = (szN ys : Int) := by unfold bitsN; rw [if_pos k2]
  have hb : ((S != S) = false) ∧ (S == 0) = false := ⟨by simp, by simpa using hs0⟩
  obtain ⟨bS1, bS2⟩ := bS
  generalize szN xs = p at hz1 m1 hv
  generalize szN ys = q at hz2 m2 hv
  go_enter Tryz.func63, Tryz.ntmps63
  go_wp2_with (first
    | (go_at_call 171; refine (exBoth_any s t a1 a2 n1 n2 c1 c2 x y xs ys _ ((h1.alloc _).alloc _) ((h2.alloc _).alloc _)).mono ?_; rintro e w1 ⟨rfl, hb1⟩; rw [h0]; have A := ((box3_new w _ _ _ _).alloc _).stay hb1; have B := (box3_new _ _ _ _ _).stay hb1; rw [World.size_alloc] at B; have hW := next (more (more (Below.refl _ _) _) _) hb1; have ⟨v17_0, v17_1, v17_2, v17z0, v17z1, v17z2⟩ := A; have ⟨v18_0, v18_1, v18_2, v18z0, v18z1, v18z2⟩ := B))
  have cS : ∀ W : World, Calls Tryz.prog 172 #[.agg #[.bool s, .slice a1 n1 c1, .int .i64 x]] W fun e w' => e = .returned (.int .i64 S) ∧ Below W.heap.size W w' := fun W => hS ▸ exSign_any s a1 n1 c1 x W
  have cZ : ∀ W : World, Calls Tryz.prog 172 #[.agg #[.bool t, .slice a2 n2 c2, .int .i64 y]] W fun e w' => e = .returned (.int .i64 S) ∧ Below W.heap.size W w' := fun W => hZ ▸ exSign_any t a2 n2 c2 y W
  go_region_held3 (fun w' => w'.cell? ⟨w.heap.size, 0, none⟩ = some (.bool s) ∧ w'.cell? ⟨w.heap.size, 1, none⟩ = some (.slice a1 n1 c1) ∧ w'.cell? ⟨w.heap.size, 2, none⟩ = some (.int .i64 x) ∧ w'.cell? ⟨w.heap.size + 1, 0, none⟩ = some (.bool t) ∧ w'.cell? ⟨w.heap.size + 1, 1, none⟩ = some (.slice a2 n2 c2) ∧ w'.cell? ⟨w.heap.size + 1, 2, none⟩ = some (.int .i64 y) ∧ Below w.heap.size w w')
    ((go_split_ands; refine ⟨?_, ?_, ?_, ?_, ?_, ?_, ?_⟩ <;> (first | assumption | exact Below.drew (by assumption) | exact cellStay (by assumption) hbB | exact next (by assumption) hbB | (go_keep; done))))
    (first | (go_at_call 172; (with_reducible refine (cS _).mono ?_); rintro en wB ⟨rfl, hbB⟩) | (go_at_call 172; (with_reducible refine (cZ _).mono ?_); rintro en wB ⟨rfl, hbB⟩))
  go_split_ands
  have hW : Below w.heap.size w wB := by assumption
  have A : Cell3 wB w.heap.size (.bool s) (.slice a1 n1 c1) (.int .i64 x) := ⟨by assumption, by assumption, by assumption⟩
  have B : Cell3 wB (w.heap.size + 1) (.bool t) (.slice a2 n2 c2) (.int .i64 y) := ⟨by assumption, by assumption, by assumption⟩
  go_wp2_with (first
    | (go_at_call 173; (with_reducible refine (natBits_any a1 n1 c1 xs _ (h1.below hW)).mono ?_); rintro e w4 ⟨rfl, hb4⟩; rw [hz1]; replace hW := next hW hb4; replace A := A.stay hb4; replace B := B.stay hb4; have ⟨v13_0, v13_1, v13_2⟩ := A; have ⟨v14_0, v14_1, v14_2⟩ := B)
    | (go_at_call 173; (with_reducible refine (natBits_any a2 n2 c2 ys _ (h2.below hW)).mono ?_); rintro e w5 ⟨rfl, hb5⟩; rw [hz2]; replace hW := next hW hb5; replace A := A.stay hb5; replace B := B.stay hb5; have ⟨v15_0, v15_1, v15_2⟩ := A; have ⟨v16_0, v16_1, v16_2⟩ := B))
  go_quiet (fail)
  rename_i nq
  have hW2 := next hW (drewn (Below.refl _ _) nq)
  go_wp2
  refine bodyPost_ret (v := .tuple #[.int .i64 S, .int .i64 0]) (by simp [results, Tryz.results63, go_sem]) rfl ⟨rfl, hW2⟩

set_option maxRecDepth 100000 in
set_option maxHeartbeats 4000000 in
theorem exCmp_level (s t : Bool) (a1 a2 : Option Addr) (n1 n2 c1 c2 : Nat) (x y : Int) (xs ys : List Nat) (w : World) (h1 : Sl w a1 n1 c1 xs) (h2 : Sl w a2 n2 c2 ys) (S : Int) (hS : sgA s n1 = S) (hZ : sgA t n2 = S) (h0 : cmpF s xs x t ys y = 0) (bS : -1 ≤ S ∧ S ≤ 1) (hs0 : S ≠ 0) (hv : (szN xs : Int) + x = szN ys + y) (zx : val xs ≠ 0) (zy : val ys ≠ 0) :
    Calls Tryz.prog 63 #[.agg #[.bool s, .slice a1 n1 c1, .int .i64 x], .agg #[.bool t, .slice a2 n2 c2, .int .i64 y]] w fun e w' => e = .returned (.tuple #[.int .i64 (S * cmpN (lvN (val xs) x y) (lvN (val ys) y x)), .int .i64 0]) ∧ Below w.heap.size w w' := by
  obtain ⟨d1, d2⟩ := cmpF_ok h0
  have k1 := dchk_chk d1
  have k2 := dchk_chk d2
  have ⟨x1, x2⟩ := dchk_exp d1
  have ⟨y1, y2⟩ := dchk_exp d2
  have m1 := szN_max h1.ok k1
  have m2 := szN_max h2.ok k2
  have hz1 : bitsN xs = (szN xs : Int) := by unfold bitsN; rw [if_pos k1]
  have hz2 : bitsN ys = (szN ys : Int) := by unfold bitsN; rw [if_pos k2]
  have hb : ((S != S) = false) ∧ (S == 0) = false := ⟨by simp, by simpa using hs0⟩
  obtain ⟨bS1, bS2⟩ := bS
  obtain ⟨e1, e2⟩ := lv_same h1.ok h2.ok k1 k2 zx zy hv
  have g1 := (bigE_ok e1).1
  have g2 := (bigE_ok e2).1
  have cmb := cmpN_bounds (lvN (val xs) x y) (lvN (val ys) y x)
  generalize hcg : cmpN (lvN (val xs) x y) (lvN (val ys) y x) = cm at cmb
  have hwr : wrap64 (S * cm) = S * cm := by
    rcases (by omega : S = -1 ∨ S = 1) with h | h <;> rw [h] <;> exact IntWalk.wrap64_in _ ⟨by omega, by omega⟩
  clear cmb
  generalize szN xs = p at hz1 m1 hv
  generalize szN ys = q at hz2 m2 hv
  go_enter Tryz.func63, Tryz.ntmps63
  go_wp2_with (first
    | (go_at_call 171; refine (exBoth_any s t a1 a2 n1 n2 c1 c2 x y xs ys _ ((h1.alloc _).alloc _) ((h2.alloc _).alloc _)).mono ?_; rintro e w1 ⟨rfl, hb1⟩; rw [h0]; have A := ((box3_new w _ _ _ _).alloc _).stay hb1; have B := (box3_new _ _ _ _ _).stay hb1; rw [World.size_alloc] at B; have hW := next (more (more (Below.refl _ _) _) _) hb1; have ⟨v23_0, v23_1, v23_2, v23z0, v23z1, v23z2⟩ := A; have ⟨v24_0, v24_1, v24_2, v24z0, v24z1, v24z2⟩ := B))
  have cS : ∀ W : World, Calls Tryz.prog 172 #[.agg #[.bool s, .slice a1 n1 c1, .int .i64 x]] W fun e w' => e = .returned (.int .i64 S) ∧ Below W.heap.size W w' := fun W => hS ▸ exSign_any s a1 n1 c1 x W
  have cZ : ∀ W : World, Calls Tryz.prog 172 #[.agg #[.bool t, .slice a2 n2 c2, .int .i64 y]] W fun e w' => e = .returned (.int .i64 S) ∧ Below W.heap.size W w' := fun W => hZ ▸ exSign_any t a2 n2 c2 y W
  go_region_held3 (fun w' => w'.cell? ⟨w.heap.size, 0, none⟩ = some (.bool s) ∧ w'.cell? ⟨w.heap.size, 1, none⟩ = some (.slice a1 n1 c1) ∧ w'.cell? ⟨w.heap.size, 2, none⟩ = some (.int .i64 x) ∧ w'.cell? ⟨w.heap.size + 1, 0, none⟩ = some (.bool t) ∧ w'.cell? ⟨w.heap.size + 1, 1, none⟩ = some (.slice a2 n2 c2) ∧ w'.cell? ⟨w.heap.size + 1, 2, none⟩ = some (.int .i64 y) ∧ Below w.heap.size w w')
    ((go_split_ands; refine ⟨?_, ?_, ?_, ?_, ?_, ?_, ?_⟩ <;> (first | assumption | exact Below.drew (by assumption) | exact cellStay (by assumption) hbB | exact next (by assumption) hbB | (go_keep; done))))
    (first | (go_at_call 172; (with_reducible refine (cS _).mono ?_); rintro en wB ⟨rfl, hbB⟩) | (go_at_call 172; (with_reducible refine (cZ _).mono ?_); rintro en wB ⟨rfl, hbB⟩))
  go_split_ands
  have hW : Below w.heap.size w wB := by assumption
  have A : Cell3 wB w.heap.size (.bool s) (.slice a1 n1 c1) (.int .i64 x) := ⟨by assumption, by assumption, by assumption⟩
  have B : Cell3 wB (w.heap.size + 1) (.bool t) (.slice a2 n2 c2) (.int .i64 y) := ⟨by assumption, by assumption, by assumption⟩
  go_wp2_with (first
    | (go_at_call 173; (with_reducible refine (natBits_any a1 n1 c1 xs _ (h1.below hW)).mono ?_); rintro e w4 ⟨rfl, hb4⟩; rw [hz1]; replace hW := next hW hb4; replace A := A.stay hb4; replace B := B.stay hb4; have ⟨v19_0, v19_1, v19_2⟩ := A; have ⟨v20_0, v20_1, v20_2⟩ := B)
    | (go_at_call 173; (with_reducible refine (natBits_any a2 n2 c2 ys _ (h2.below hW)).mono ?_); rintro e w5 ⟨rfl, hb5⟩; rw [hz2]; replace hW := next hW hb5; replace A := A.stay hb5; replace B := B.stay hb5; have ⟨v21_0, v21_1, v21_2⟩ := A; have ⟨v22_0, v22_1, v22_2⟩ := B))
  go_quiet (fail)
  rename_i nq
  have hW2 := next hW (drewn (Below.refl _ _) nq)
  have A2 := A.stay (drewn (Below.refl _ _) nq)
  have B2 := B.stay (drewn (Below.refl _ _) nq)
  generalize World.drewN _ nq = wq at hW2 A2 B2 ⊢
  replace hW := hW2
  replace A := A2
  replace B := B2
  clear hW2 A2 B2
  have ⟨v5_0, v5_1, v5_2⟩ := A
  have ⟨v6_0, v6_1, v6_2⟩ := B
  go_wp2_with (first
    | (go_at_call 174; refine (level_ok s t a1 a2 n1 n2 c1 c2 x y xs ys _ (h1.below hW) (h2.below hW) k1 k2 x1 x2 y1 y2 g1).mono ?_; rintro e w6 ⟨a5, n5, c5, a6, n6, c6, rfl, hF, hG, hb6⟩; rw [g2]; rw [bigN_of g1] at hF; rw [bigN_of g2] at hG; replace hW := more (more (next hW hb6) (.cells #[.slice a5 n5 c5] 78)) (.cells #[.slice a6 n6 c6] 78); have X := (box1_new w6 (.slice a5 n5 c5) 78).alloc (.cells #[.slice a6 n6 c6] 78); have Y := box1_new (w6.alloc (.cells #[.slice a5 n5 c5] 78)) (.slice a6 n6 c6) 78; rw [World.size_alloc] at Y; replace hF := (hF.alloc (.cells #[.slice a5 n5 c5] 78)).alloc (.cells #[.slice a6 n6 c6] 78); replace hG := (hG.alloc (.cells #[.slice a5 n5 c5] 78)).alloc (.cells #[.slice a6 n6 c6] 78); have ⟨v25_0, v25z0⟩ := X; have ⟨v26_0, v26z0⟩ := Y)
    | (go_at_call 175; refine (natCmp_any a5 a6 n5 n6 c5 c6 (limbs (lvN (val xs) x y)) (limbs (lvN (val ys) y x)) _ hF.sl hG.sl (chk_big g1) (chk_big g2)).mono ?_; rintro e w7 ⟨rfl, hb7⟩; rw [val_limbs', val_limbs', hcg]; replace hW := next hW hb7))
  refine bodyPost_ret (v := .tuple #[.int .i64 (S * cm), .int .i64 0]) (by simp [results, Tryz.results63, go_sem, hwr]) rfl ⟨rfl, hW⟩

theorem sg_bounds (s : Bool) (n : Nat) : -1 ≤ sgA s n ∧ sgA s n ≤ 1 := by
  unfold sgA
  split
  · decide
  · split <;> decide

theorem sg_zero {s : Bool} {n : Nat} : sgA s n = 0 ↔ n = 0 := by
  unfold sgA
  constructor
  · intro h
    split at h
    · assumption
    · split at h <;> cases h
  · intro h
    exact if_pos h

theorem cmpA_bad {s t : Bool} {x y : Int} {xs ys : List Nat} (h : cmpF s xs x t ys y ≠ 0) : cmpA s xs x t ys y = 0 := by
  unfold cmpF at h
  unfold cmpA
  by_cases h0 : dchk s xs x = 0
  · rw [if_neg (by simp [h0])] at h
    exact if_pos (.inr h)
  · exact if_pos (.inl h0)

theorem cmpA_differ {s t : Bool} {x y : Int} {xs ys : List Nat} {n1 n2 : Nat} (e1 : xs.length = n1) (e2 : ys.length = n2) (h : cmpF s xs x t ys y = 0) (hd : sgA s n1 ≠ sgA t n2 ∨ sgA s n1 = 0) :
    cmpA s xs x t ys y = max (-1) (min 1 (sgA s n1 - sgA t n2)) := by
  obtain ⟨d1, d2⟩ := cmpF_ok h
  have b1 := sg_bounds s n1
  have b2 := sg_bounds t n2
  unfold cmpA
  rw [if_neg (by simp [d1, d2]), e1, e2]
  generalize sgA s n1 = S at *
  generalize sgA t n2 = Z at *
  split
  · omega
  · split
    · omega
    · split <;> omega

theorem cmpA_same {s t : Bool} {x y : Int} {xs ys : List Nat} {n1 n2 : Nat} (e1 : xs.length = n1) (e2 : ys.length = n2) (h : cmpF s xs x t ys y = 0) (hd : sgA t n2 = sgA s n1) (h0 : sgA s n1 ≠ 0) :
    cmpA s xs x t ys y = sgA s n1 * bgA xs x ys y := by
  obtain ⟨d1, d2⟩ := cmpF_ok h
  unfold cmpA
  rw [if_neg (by simp [d1, d2]), e1, e2, hd, if_neg (by omega), if_neg (by omega), if_neg h0]

theorem exCmp_any (s t : Bool) (a1 a2 : Option Addr) (n1 n2 c1 c2 : Nat) (x y : Int) (xs ys : List Nat) (w : World) (h1 : Sl w a1 n1 c1 xs) (h2 : Sl w a2 n2 c2 ys) :
    Calls Tryz.prog 63 #[.agg #[.bool s, .slice a1 n1 c1, .int .i64 x], .agg #[.bool t, .slice a2 n2 c2, .int .i64 y]] w fun e w' => e = .returned (.tuple #[.int .i64 (cmpA s xs x t ys y), .int .i64 (cmpF s xs x t ys y)]) ∧ Below w.heap.size w w' := by
  by_cases h0 : cmpF s xs x t ys y = 0
  · obtain ⟨d1, d2⟩ := cmpF_ok h0
    by_cases hd : sgA s n1 ≠ sgA t n2 ∨ sgA s n1 = 0
    · rw [h0, cmpA_differ h1.len h2.len h0 hd]
      exact exCmp_differ s t a1 a2 n1 n2 c1 c2 x y xs ys w h1 h2 _ _ rfl rfl h0 (sg_bounds _ _) (sg_bounds _ _) hd
    · have hs : sgA t n2 = sgA s n1 := Decidable.byContradiction fun hh => hd (.inl fun e => hh e.symm)
      have hz : sgA s n1 ≠ 0 := fun hh => hd (.inr hh)
      have z1 : val xs ≠ 0 := fun hh => hz (sg_zero.2 ((val_zero_n h1 (dchk_chk d1)).1 hh))
      have z2 : val ys ≠ 0 := fun hh => hz (hs ▸ sg_zero.2 ((val_zero_n h2 (dchk_chk d2)).1 hh))
      rw [h0, cmpA_same h1.len h2.len h0 hs hz]
      unfold bgA
      by_cases g1 : (szN xs : Int) + x < szN ys + y
      · rw [if_pos g1, Int.mul_neg, Int.mul_one]
        exact exCmp_below s t a1 a2 n1 n2 c1 c2 x y xs ys w h1 h2 _ rfl hs h0 (sg_bounds _ _) hz g1
      · rw [if_neg g1]
        by_cases g2 : (szN ys : Int) + y < szN xs + x
        · rw [if_pos g2, Int.mul_one]
          exact exCmp_above s t a1 a2 n1 n2 c1 c2 x y xs ys w h1 h2 _ rfl hs h0 (sg_bounds _ _) hz g2
        · rw [if_neg g2]
          exact exCmp_level s t a1 a2 n1 n2 c1 c2 x y xs ys w h1 h2 _ rfl hs h0 (sg_bounds _ _) hz (by omega) z1 z2
  · rw [cmpA_bad h0]
    exact exCmp_bad s t a1 a2 n1 n2 c1 c2 x y xs ys w h1 h2 h0

end Go.Proofs.YtaddnoneoflimaaGreatDoor

