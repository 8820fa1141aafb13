/-
  The walk of exact.Cmp. (Printed by wip/gen/cmp.py.)
-/
import Derived.Test.YtnokabglkmiidaaDoorExAdd
import Derived.Deep.RegionHeld3
namespace Go.Proofs.YtnokabglkmiidaaDoor
open Go.RowKit Go.Lb

/-- What a block of three cells holds. -/
structure Cell3 (w : World) (b : Nat) (u v x : Value) : Prop where
  c0 : w.cell? ⟨b, 0, none⟩ = some u
  c1 : w.cell? ⟨b, 1, none⟩ = some v
  c2 : w.cell? ⟨b, 2, none⟩ = some x

theorem cmpN_bounds (m n : Nat) : -1 ≤ cmpN m n ∧ cmpN m n ≤ 1 := by
  rcases Nat.lt_trichotomy m n with h | h | h
  · rw [cmpN_lt h]; decide
  · rw [cmpN_eq h]; decide
  · rw [cmpN_gt h]; decide

theorem Cell3.stay {wp w' : World} {b : Nat} {u v x : Value} (h : Cell3 wp b u v x) (k : Below wp.heap.size wp w') : Cell3 w' b u v x := ⟨cellStay h.c0 k, cellStay h.c1 k, cellStay h.c2 k⟩

set_option maxRecDepth 100000 in
set_option maxHeartbeats 4000000 in
theorem exCmp_bad (s t : Bool) (a1 a2 : Option Addr) (n1 n2 c1 c2 : Nat) (x y : Int) (xs ys : List Nat) (w : World) (h1 : Sl w a1 n1 c1 xs) (h2 : Sl w a2 n2 c2 ys) (h0 : cmpF s xs x t ys y ≠ 0) :
    Calls Tryd.prog 54 #[.agg #[.bool s, .slice a1 n1 c1, .int .i64 x], .agg #[.bool t, .slice a2 n2 c2, .int .i64 y]] w fun e w' => e = .returned (.tuple #[.int .i64 0, .int .i64 (cmpF s xs x t ys y)]) ∧ Below w.heap.size w w' := by
  have h0B : (cmpF s xs x t ys y != 0) = true := by simp [h0]
  have h1B : (cmpF s xs x t ys y == 0) = false := by simp [h0]
  generalize hE : cmpF s xs x t ys y = E at h0 h0B h1B ⊢
  go_enter Tryd.func54, Tryd.ntmps54
  go_wp2_with (first
    | (go_at_call 84; refine (exBoth_any s t a1 a2 n1 n2 c1 c2 x y xs ys _ ((h1.alloc _).alloc _) ((h2.alloc _).alloc _)).mono ?_; rintro e w1 ⟨rfl, hb1⟩; rw [hE]; have hW := next (more (more (Below.refl _ _) _) _) hb1))
  go_ret2
  exact ⟨rfl, hW⟩

set_option maxRecDepth 100000 in
set_option maxHeartbeats 4000000 in
theorem exCmp_differ (s t : Bool) (a1 a2 : Option Addr) (n1 n2 c1 c2 : Nat) (x y : Int) (xs ys : List Nat) (w : World) (h1 : Sl w a1 n1 c1 xs) (h2 : Sl w a2 n2 c2 ys) (S Z : Int) (hS : sgA s n1 = S) (hZ : sgA t n2 = Z) (h0 : cmpF s xs x t ys y = 0) (bS : -1 ≤ S ∧ S ≤ 1) (bZ : -1 ≤ Z ∧ Z ≤ 1) (hd : S ≠ Z ∨ S = 0) :
    Calls Tryd.prog 54 #[.agg #[.bool s, .slice a1 n1 c1, .int .i64 x], .agg #[.bool t, .slice a2 n2 c2, .int .i64 y]] w fun e w' => e = .returned (.tuple #[.int .i64 (max (-1) (min 1 (S - Z))), .int .i64 0]) ∧ Below w.heap.size w w' := by
  have hb : ((S != Z) = true) ∨ ((S != Z) = false ∧ (S == 0) = true) := by
    by_cases h : S = Z
    · exact .inr ⟨by simp [h], by simpa using hd.resolve_left (by simp [h])⟩
    · exact .inl (by simp [h])
  obtain ⟨bS1, bS2⟩ := bS
  obtain ⟨bZ1, bZ2⟩ := bZ
  go_enter Tryd.func54, Tryd.ntmps54
  go_wp2_with (first
    | (go_at_call 84; refine (exBoth_any s t a1 a2 n1 n2 c1 c2 x y xs ys _ ((h1.alloc _).alloc _) ((h2.alloc _).alloc _)).mono ?_; rintro e w1 ⟨rfl, hb1⟩; rw [h0]; have A := ((box3_new w _ _ _ _).alloc _).stay hb1; have B := (box3_new _ _ _ _ _).stay hb1; rw [World.size_alloc] at B; have hW := next (more (more (Below.refl _ _) _) _) hb1; have ⟨v3_0, v3_1, v3_2, v3z0, v3z1, v3z2⟩ := A; have ⟨v4_0, v4_1, v4_2, v4z0, v4z1, v4z2⟩ := B))
  have cS : ∀ W : World, Calls Tryd.prog 85 #[.agg #[.bool s, .slice a1 n1 c1, .int .i64 x]] W fun e w' => e = .returned (.int .i64 S) ∧ Below W.heap.size W w' := fun W => hS ▸ exSign_any s a1 n1 c1 x W
  have cZ : ∀ W : World, Calls Tryd.prog 85 #[.agg #[.bool t, .slice a2 n2 c2, .int .i64 y]] W fun e w' => e = .returned (.int .i64 Z) ∧ Below W.heap.size W w' := fun W => hZ ▸ exSign_any t a2 n2 c2 y W
  go_region_held3 (fun w' => w'.cell? ⟨w.heap.size, 0, none⟩ = some (.bool s) ∧ w'.cell? ⟨w.heap.size, 1, none⟩ = some (.slice a1 n1 c1) ∧ w'.cell? ⟨w.heap.size, 2, none⟩ = some (.int .i64 x) ∧ w'.cell? ⟨w.heap.size + 1, 0, none⟩ = some (.bool t) ∧ w'.cell? ⟨w.heap.size + 1, 1, none⟩ = some (.slice a2 n2 c2) ∧ w'.cell? ⟨w.heap.size + 1, 2, none⟩ = some (.int .i64 y) ∧ Below w.heap.size w w')
    ((go_split_ands; refine ⟨?_, ?_, ?_, ?_, ?_, ?_, ?_⟩ <;> (first | assumption | exact Below.drew (by assumption) | exact cellStay (by assumption) hbB | exact next (by assumption) hbB | (go_keep; done))))
    (first | (go_at_call 85; (with_reducible refine (cS _).mono ?_); rintro en wB ⟨rfl, hbB⟩) | (go_at_call 85; (with_reducible refine (cZ _).mono ?_); rintro en wB ⟨rfl, hbB⟩))
  go_split_ands
  go_wp2
  all_goals
    refine bodyPost_ret (v := .tuple #[.int .i64 (max (-1) (min 1 (S - Z))), .int .i64 0]) (by simp [results, Tryd.results54, go_sem] <;> omega) rfl ⟨rfl, by assumption⟩

set_option maxRecDepth 100000 in
set_option maxHeartbeats 4000000 in
theorem exCmp_below (s t : Bool) (a1 a2 : Option Addr) (n1 n2 c1 c2 : Nat) (x y : Int) (xs ys : List Nat) (w : World) (h1 : Sl w a1 n1 c1 xs) (h2 : Sl w a2 n2 c2 ys) (S : Int) (hS : sgA s n1 = S) (hZ : sgA t n2 = S) (h0 : cmpF s xs x t ys y = 0) (bS : -1 ≤ S ∧ S ≤ 1) (hs0 : S ≠ 0) (hv : (szN xs : Int) + x < szN ys + y) :
    Calls Tryd.prog 54 #[.agg #[.bool s, .slice a1 n1 c1, .int .i64 x], .agg #[.bool t, .slice a2 n2 c2, .int .i64 y]] w fun e w' => e = .returned (.tuple #[.int .i64 (-S), .int .i64 0]) ∧ Below w.heap.size w w' := by
  obtain ⟨d1, d2⟩ := cmpF_ok h0
  have k1 := dchk_chk d1
  have k2 := dchk_chk d2
  have ⟨x1, x2⟩ := dchk_exp d1
  have ⟨y1, y2⟩ := dchk_exp d2
  have m1 := szN_max h1.ok k1
  have m2 := szN_max h2.ok k2
  have hz1 : bitsN xs = (szN xs : Int) := by unfold bitsN; rw [if_pos k1]
  have hz2 : bitsN ys = (szN ys : Int) := by unfold bitsN; rw [if_pos k2]
  have hb : ((S != S) = false) ∧ (S == 0) = false := ⟨by simp, by simpa using hs0⟩
  obtain ⟨bS1, bS2⟩ := bS
  generalize szN xs = p at hz1 m1 hv
  generalize szN ys = q at hz2 m2 hv
  go_enter Tryd.func54, Tryd.ntmps54
  go_wp2_with (first
    | (go_at_call 84; refine (exBoth_any s t a1 a2 n1 n2 c1 c2 x y xs ys _ ((h1.alloc _).alloc _) ((h2.alloc _).alloc _)).mono ?_; rintro e w1 ⟨rfl, hb1⟩; rw [h0]; have A := ((box3_new w _ _ _ _).alloc _).stay hb1; have B := (box3_new _ _ _ _ _).stay hb1; rw [World.size_alloc] at B; have hW := next (more (more (Below.refl _ _) _) _) hb1; have ⟨v11_0, v11_1, v11_2, v11z0, v11z1, v11z2⟩ := A; have ⟨v12_0, v12_1, v12_2, v12z0, v12z1, v12z2⟩ := B))
  have cS : ∀ W : World, Calls Tryd.prog 85 #[.agg #[.bool s, .slice a1 n1 c1, .int .i64 x]] W fun e w' => e = .returned (.int .i64 S) ∧ Below W.heap.size W w' := fun W => hS ▸ exSign_any s a1 n1 c1 x W
  have cZ : ∀ W : World, Calls Tryd.prog 85 #[.agg #[.bool t, .slice a2 n2 c2, .int .i64 y]] W fun e w' => e = .returned (.int .i64 S) ∧ Below W.heap.size W w' := fun W => hZ ▸ exSign_any t a2 n2 c2 y W
  go_region_held3 (fun w' => w'.cell? ⟨w.heap.size, 0, none⟩ = some (.bool s) ∧ w'.cell? ⟨w.heap.size, 1, none⟩ = some (.slice a1 n1 c1) ∧ w'.cell? ⟨w.heap.size, 2, none⟩ = some (.int .i64 x) ∧ w'.cell? ⟨w.heap.size + 1, 0, none⟩ = some (.bool t) ∧ w'.cell? ⟨w.heap.size + 1, 1, none⟩ = some (.slice a2 n2 c2) ∧ w'.cell? ⟨w.heap.size + 1, 2, none⟩ = some (.int .i64 y) ∧ Below w.heap.size w w')
    ((go_split_ands; refine ⟨?_, ?_, ?_, ?_, ?_, ?_, ?_⟩ <;> (first | assumption | exact Below.drew (by assumption) | exact cellStay (by assumption) hbB | exact next (by assumption) hbB | (go_keep; done))))
    (first | (go_at_call 85; (with_reducible refine (cS _).mono ?_); rintro en wB ⟨rfl, hbB⟩) | (go_at_call 85; (with_reducible refine (cZ _).mono ?_); rintro en wB ⟨rfl, hbB⟩))
  go_split_ands
  have hW : Below w.heap.size w wB := by assumption
  have A : Cell3 wB w.heap.size (.bool s) (.slice a1 n1 c1) (.int .i64 x) := ⟨by assumption, by assumption, by assumption⟩
  have B : Cell3 wB (w.heap.size + 1) (.bool t) (.slice a2 n2 c2) (.int .i64 y) := ⟨by assumption, by assumption, by assumption⟩
  go_wp2_with (first
    | (go_at_call 86; (with_reducible refine (natBits_any a1 n1 c1 xs _ (h1.below hW)).mono ?_); rintro e w4 ⟨rfl, hb4⟩; rw [hz1]; replace hW := next hW hb4; replace A := A.stay hb4; replace B := B.stay hb4; have ⟨v7_0, v7_1, v7_2⟩ := A; have ⟨v8_0, v8_1, v8_2⟩ := B)
    | (go_at_call 86; (with_reducible refine (natBits_any a2 n2 c2 ys _ (h2.below hW)).mono ?_); rintro e w5 ⟨rfl, hb5⟩; rw [hz2]; replace hW := next hW hb5; replace A := A.stay hb5; replace B := B.stay hb5; have ⟨v9_0, v9_1, v9_2⟩ := A; have ⟨v10_0, v10_1, v10_2⟩ := B))
  go_quiet (fail)
  rename_i nq
  have hW2 := next hW (drewn (Below.refl _ _) nq)
  go_wp2
  refine bodyPost_ret (v := .tuple #[.int .i64 (-S), .int .i64 0]) (by simp [results, Tryd.results54, go_sem]) rfl ⟨rfl, hW2⟩

set_option maxRecDepth 100000 in
set_option maxHeartbeats 4000000 in
theorem exCmp_above (s t : Bool) (a1 a2 : Option Addr) (n1 n2 c1 c2 : Nat) (x y : Int) (xs ys : List Nat) (w : World) (h1 : Sl w a1 n1 c1 xs) (h2 : Sl w a2 n2 c2 ys) (S : Int) (hS : sgA s n1 = S) (hZ : sgA t n2 = S) (h0 : cmpF s xs x t ys y = 0) (bS : -1 ≤ S ∧ S ≤ 1) (hs0 : S ≠ 0) (hv : (szN ys : Int) + y < szN xs + x) :
    Calls Tryd.prog 54 #[.agg #[.bool s, .slice a1 n1 c1, .int .i64 x], .agg #[.bool t, .slice a2 n2 c2, .int .i64 y]] w fun e w' => e = .returned (.tuple #[.int .i64 S, .int .i64 0]) ∧ Below w.heap.size w w' := by
  obtain ⟨d1, d2⟩ := cmpF_ok h0
  have k1 := dchk_chk d1
  have k2 := dchk_chk d2
  have ⟨x1, x2⟩ := dchk_exp d1
  have ⟨y1, y2⟩ := dchk_exp d2
  have m1 := szN_max h1.ok k1
  have m2 := szN_max h2.ok k2
  have hz1 : bitsN xs = (szN xs : Int) := by unfold bitsN; rw [if_pos k1]
  have hz2 : bitsN ys = (szN ys : Int) := by unfold bitsN; rw [if_pos k2]
  have hb : ((S != S) = false) ∧ (S == 0) = false := ⟨by simp, by simpa using hs0⟩
  obtain ⟨bS1, bS2⟩ := bS
  generalize szN xs = p at hz1 m1 hv
  generalize szN ys = q at hz2 m2 hv
  go_enter Tryd.func54, Tryd.ntmps54
  go_wp2_with (first
    | (go_at_call 84; refine (exBoth_any s t a1 a2 n1 n2 c1 c2 x y xs ys _ ((h1.alloc _).alloc _) ((h2.alloc _).alloc _)).mono ?_; rintro e w1 ⟨rfl, hb1⟩; rw [h0]; have A := ((box3_new w _ _ _ _).alloc _).stay hb1; have B := (box3_new _ _ _ _ _).stay hb1; rw [World.size_alloc] at B; have hW := next (more (more (Below.refl _ _) _) _) hb1; have ⟨v17_0, v17_1, v17_2, v17z0, v17z1, v17z2⟩ := A; have ⟨v18_0, v18_1, v18_2, v18z0, v18z1, v18z2⟩ := B))
  have cS : ∀ W : World, Calls Tryd.prog 85 #[.agg #[.bool s, .slice a1 n1 c1, .int .i64 x]] W fun e w' => e = .returned (.int .i64 S) ∧ Below W.heap.size W w' := fun W => hS ▸ exSign_any s a1 n1 c1 x W
  have cZ : ∀ W : World, Calls Tryd.prog 85 #[.agg #[.bool t, .slice a2 n2 c2, .int .i64 y]] W fun e w' => e = .returned (.int .i64 S) ∧ Below W.heap.size W w' := fun W => hZ ▸ exSign_any t a2 n2 c2 y W
  go_region_held3 (fun w' => w'.cell? ⟨w.heap.size, 0, none⟩ = some (.bool s) ∧ w'.cell? ⟨w.heap.size, 1, none⟩ = some (.slice a1 n1 c1) ∧ w'.cell? ⟨w.heap.size, 2, none⟩ = some (.int .i64 x) ∧ w'.cell? ⟨w.heap.size + 1, 0, none⟩ = some (.bool t) ∧ w'.cell? ⟨w.heap.size + 1, 1, none⟩ = some (.slice a2 n2 c2) ∧ w'.cell? ⟨w.heap.size + 1, 2, none⟩ = some (.int .i64 y) ∧ Below w.heap.size w w')
    ((go_split_ands; refine ⟨?_, ?_, ?_, ?_, ?_, ?_, ?_⟩ <;> (first | assumption | exact Below.drew (by assumption) | exact cellStay (by assumption) hbB | exact next (by assumption) hbB | (go_keep; done))))
    (first | (go_at_call 85; (with_reducible refine (cS _).mono ?_); rintro en wB ⟨rfl, hbB⟩) | (go_at_call 85; (with_reducible refine (cZ _).mono ?_); rintro en wB ⟨rfl, hbB⟩))
  go_split_ands
  have hW : Below w.heap.size w wB := by assumption
  have A : Cell3 wB w.heap.size (.bool s) (.slice a1 n1 c1) (.int .i64 x) := ⟨by assumption, by assumption, by assumption⟩
  have B : Cell3 wB (w.heap.size + 1) (.bool t) (.slice a2 n2 c2) (.int .i64 y) := ⟨by assumption, by assumption, by assumption⟩
  go_wp2_with (first
    | (go_at_call 86; (with_reducible refine (natBits_any a1 n1 c1 xs _ (h1.below hW)).mono ?_); rintro e w4 ⟨rfl, hb4⟩; rw [hz1]; replace hW := next hW hb4; replace A := A.stay hb4; replace B := B.stay hb4; have ⟨v13_0, v13_1, v13_2⟩ := A; have ⟨v14_0, v14_1, v14_2⟩ := B)
    | (go_at_call 86; (with_reducible refine (natBits_any a2 n2 c2 ys _ (h2.below hW)).mono ?_); rintro e w5 ⟨rfl, hb5⟩; rw [hz2]; replace hW := next hW hb5; replace A := A.stay hb5; replace B := B.stay hb5; have ⟨v15_0, v15_1, v15_2⟩ := A; have ⟨v16_0, v16_1, v16_2⟩ := B))
  go_quiet (fail)
  rename_i nq
  have hW2 := next hW (drewn (Below.refl _ _) nq)
  go_wp2
  refine bodyPost_ret (v := .tuple #[.int .i64 S, .int .i64 0]) (by simp [results, Tryd.results54, go_sem]) rfl ⟨rfl, hW2⟩

set_option maxRecDepth 100000 in
set_option maxHeartbeats 4000000 in
theorem exCmp_level (s t : Bool) (a1 a2 : Option Addr) (n1 n2 c1 c2 : Nat) (x y : Int) (xs ys : List Nat) (w : World) (h1 : Sl w a1 n1 c1 xs) (h2 : Sl w a2 n2 c2 ys) (S : Int) (hS : sgA s n1 = S) (hZ : sgA t n2 = S) (h0 : cmpF s xs x t ys y = 0) (bS : -1 ≤ S ∧ S ≤ 1) (hs0 : S ≠ 0) (hv : (szN xs : Int) + x = szN ys + y) (zx : val xs ≠ 0) (zy : val ys ≠ 0) :
    Calls Tryd.prog 54 #[.agg #[.bool s, .slice a1 n1 c1, .int .i64 x], .agg #[.bool t, .slice a2 n2 c2, .int .i64 y]] w fun e w' => e = .returned (.tuple #[.int .i64 (S * cmpN (lvN (val xs) x y) (lvN (val ys) y x)), .int .i64 0]) ∧ Below w.heap.size w w' := by
  obtain ⟨d1, d2⟩ := cmpF_ok h0
  have k1 := dchk_chk d1
  have k2 := dchk_chk d2
  have ⟨x1, x2⟩ := dchk_exp d1
  have ⟨y1, y2⟩ := dchk_exp d2
  have m1 := szN_max h1.ok k1
  have m2 := szN_max h2.ok k2
  have hz1 : bitsN xs = (szN xs : Int) := by unfold bitsN; rw [if_pos k1]
  have hz2 : bitsN ys = (szN ys : Int) := by unfold bitsN; rw [if_pos k2]
  have hb : ((S != S) = false) ∧ (S == 0) = false := ⟨by simp, by simpa using hs0⟩
  obtain ⟨bS1, bS2⟩ := bS
  obtain ⟨e1, e2⟩ := lv_same h1.ok h2.ok k1 k2 zx zy hv
  have g1 := (bigE_ok e1).1
  have g2 := (bigE_ok e2).1
  have cmb := cmpN_bounds (lvN (val xs) x y) (lvN (val ys) y x)
  generalize hcg : cmpN (lvN (val xs) x y) (lvN (val ys) y x) = cm at cmb
  have hwr : wrap64 (S * cm) = S * cm := by
    rcases (by omega : S = -1 ∨ S = 1) with h | h <;> rw [h] <;> exact IntWalk.wrap64_in _ ⟨by omega, by omega⟩
  clear cmb
  generalize szN xs = p at hz1 m1 hv
  generalize szN ys = q at hz2 m2 hv
  go_enter Tryd.func54, Tryd.ntmps54
  go_wp2_with (first
    | (go_at_call 84; refine (exBoth_any s t a1 a2 n1 n2 c1 c2 x y xs ys _ ((h1.alloc _).alloc _) ((h2.alloc _).alloc _)).mono ?_; rintro e w1 ⟨rfl, hb1⟩; rw [h0]; have A := ((box3_new w _ _ _ _).alloc _).stay hb1; have B := (box3_new _ _ _ _ _).stay hb1; rw [World.size_alloc] at B; have hW := next (more (more (Below.refl _ _) _) _) hb1; have ⟨v23_0, v23_1, v23_2, v23z0, v23z1, v23z2⟩ := A; have ⟨v24_0, v24_1, v24_2, v24z0, v24z1, v24z2⟩ := B))
  have cS : ∀ W : World, Calls Tryd.prog 85 #[.agg #[.bool s, .slice a1 n1 c1, .int .i64 x]] W fun e w' => e = .returned (.int .i64 S) ∧ Below W.heap.size W w' := fun W => hS ▸ exSign_any s a1 n1 c1 x W
  have cZ : ∀ W : World, Calls Tryd.prog 85 #[.agg #[.bool t, .slice a2 n2 c2, .int .i64 y]] W fun e w' => e = .returned (.int .i64 S) ∧ Below W.heap.size W w' := fun W => hZ ▸ exSign_any t a2 n2 c2 y W
  go_region_held3 (fun w' => w'.cell? ⟨w.heap.size, 0, none⟩ = some (.bool s) ∧ w'.cell? ⟨w.heap.size, 1, none⟩ = some (.slice a1 n1 c1) ∧ w'.cell? ⟨w.heap.size, 2, none⟩ = some (.int .i64 x) ∧ w'.cell? ⟨w.heap.size + 1, 0, none⟩ = some (.bool t) ∧ w'.cell? ⟨w.heap.size + 1, 1, none⟩ = some (.slice a2 n2 c2) ∧ w'.cell? ⟨w.heap.size + 1, 2, none⟩ = some (.int .i64 y) ∧ Below w.heap.size w w')
    ((go_split_ands; refine ⟨?_, ?_, ?_, ?_, ?_, ?_, ?_⟩ <;> (first | assumption | exact Below.drew (by assumption) | exact cellStay (by assumption) hbB | exact next (by assumption) hbB | (go_keep; done))))
    (first | (go_at_call 85; (with_reducible refine (cS _).mono ?_); rintro en wB ⟨rfl, hbB⟩) | (go_at_call 85; (with_reducible refine (cZ _).mono ?_); rintro en wB ⟨rfl, hbB⟩))
  go_split_ands
  have hW : Below w.heap.size w wB := by assumption
  have A : Cell3 wB w.heap.size (.bool s) (.slice a1 n1 c1) (.int .i64 x) := ⟨by assumption, by assumption, by assumption⟩
  have B : Cell3 wB (w.heap.size + 1) (.bool t) (.slice a2 n2 c2) (.int .i64 y) := ⟨by assumption, by assumption, by assumption⟩
  go_wp2_with (first
    | (go_at_call 86; (with_reducible refine (natBits_any a1 n1 c1 xs _ (h1.below hW)).mono ?_); rintro e w4 ⟨rfl, hb4⟩; rw [hz1]; replace hW := next hW hb4; replace A := A.stay hb4; replace B := B.stay hb4; have ⟨v19_0, v19_1, v19_2⟩ := A; have ⟨v20_0, v20_1, v20_2⟩ := B)
    | (go_at_call 86; (with_reducible refine (natBits_any a2 n2 c2 ys _ (h2.below hW)).mono ?_); rintro e w5 ⟨rfl, hb5⟩; rw [hz2]; replace hW := next hW hb5; replace A := A.stay hb5; replace B := B.stay hb5; have ⟨v21_0, v21_1, v21_2⟩ := A; have ⟨v22_0, v22_1, v22_2⟩ := B))
  go_quiet (fail)
  rename_i nq
  have hW2 := next hW (drewn (Below.refl _ _) nq)
  have A2 := A.stay (drewn (Below.refl _ _) nq)
  have B2 := B.stay (drewn (Below.refl _ _) nq)
  generalize World.drewN _ nq = wq at hW2 A2 B2 ⊢
  replace hW := hW2
  replace A := A2
  replace B := B2
  clear hW2 A2 B2
  have ⟨v5_0, v5_1, v5_2⟩ := A
  have ⟨v6_0, v6_1, v6_2⟩ := B
  go_wp2_with (first
    | (go_at_call 87; refine (level_ok s t a1 a2 n1 n2 c1 c2 x y xs ys _ (h1.below hW) (h2.below hW) k1 k2 x1 x2 y1 y2 g1).mono ?_; rintro e w6 ⟨a5, n5, c5, a6, n6, c6, rfl, hF, hG, hb6⟩; rw [g2]; rw [bigN_of g1] at hF; rw [bigN_of g2] at hG; replace hW := more (more (next hW hb6) (.cells #[.slice a5 n5 c5] 24)) (.cells #[.slice a6 n6 c6] 24); have X := (box1_new w6 (.slice a5 n5 c5) 24).alloc (.cells #[.slice a6 n6 c6] 24); have Y := box1_new (w6.alloc (.cells #[.slice a5 n5 c5] 24)) (.slice a6 n6 c6) 24; rw [World.size_alloc] at Y; replace hF := (hF.alloc (.cells #[.slice a5 n5 c5] 24)).alloc (.cells #[.slice a6 n6 c6] 24); replace hG := (hG.alloc (.cells #[.slice a5 n5 c5] 24)).alloc (.cells #[.slice a6 n6 c6] 24); have ⟨v25_0, v25z0⟩ := X; have ⟨v26_0, v26z0⟩ := Y)
    | (go_at_call 88; refine (natCmp_any a5 a6 n5 n6 c5 c6 (limbs (lvN (val xs) x y)) (limbs (lvN (val ys) y x)) _ hF.sl hG.sl (chk_big g1) (chk_big g2)).mono ?_; rintro e w7 ⟨rfl, hb7⟩; rw [val_limbs', val_limbs', hcg]; replace hW := next hW hb7))
  refine bodyPost_ret (v := .tuple #[.int .i64 (S * cm), .int .i64 0]) (by simp [results, Tryd.results54, go_sem, hwr]) rfl ⟨rfl, hW⟩

theorem sg_bounds (s : Bool) (n : Nat) : -1 ≤ sgA s n ∧ sgA s n ≤ 1 := by
  unfold sgA
  split
  · decide
  · split <;> decide

theorem sg_zero {s : Bool} {n : Nat} : sgA s n = 0 ↔ n = 0 := by
  unfold sgA
  constructor
  · intro h
    split at h
    · assumption
    · split at h <;> cases h
  · intro h
    exact if_pos h

theorem cmpA_bad {s t : Bool} {x y : Int} {xs ys : List Nat} (h : cmpF s xs x t ys y ≠ 0) : cmpA s xs x t ys y = 0 := by
  unfold cmpF at h
  unfold cmpA
  by_cases h0 : dchk s xs x = 0
  · rw [if_neg (by simp [h0])] at h
    exact if_pos (.inr h)
  · exact if_pos (.inl h0)

theorem cmpA_differ {s t : Bool} {x y : Int} {xs ys : List Nat} {n1 n2 : Nat} (e1 : xs.length = n1) (e2 : ys.length = n2) (h : cmpF s xs x t ys y = 0) (hd : sgA s n1 ≠ sgA t n2 ∨ sgA s n1 = 0) :
    cmpA s xs x t ys y = max (-1) (min 1 (sgA s n1 - sgA t n2)) := by
  obtain ⟨d1, d2⟩ := cmpF_ok h
  have b1 := sg_bounds s n1
  have b2 := sg_bounds t n2
  unfold cmpA
  rw [if_neg (by simp [d1, d2]), e1, e2]
  generalize sgA s n1 = S at *
  generalize sgA t n2 = Z at *
  split
  · omega
  · split
    · omega
    · split <;> omega

theorem cmpA_same {s t : Bool} {x y : Int} {xs ys : List Nat} {n1 n2 : Nat} (e1 : xs.length = n1) (e2 : ys.length = n2) (h : cmpF s xs x t ys y = 0) (hd : sgA t n2 = sgA s n1) (h0 : sgA s n1 ≠ 0) :
    cmpA s xs x t ys y = sgA s n1 * bgA xs x ys y := by
  obtain ⟨d1, d2⟩ := cmpF_ok h
  unfold cmpA
  rw [if_neg (by simp [d1, d2]), e1, e2, hd, if_neg (by omega), if_neg (by omega), if_neg h0]

theorem exCmp_any (s t : Bool) (a1 a2 : Option Addr) (n1 n2 c1 c2 : Nat) (x y : Int) (xs ys : List Nat) (w : World) (h1 : Sl w a1 n1 c1 xs) (h2 : Sl w a2 n2 c2 ys) :
    Calls Tryd.prog 54 #[.agg #[.bool s, .slice a1 n1 c1, .int .i64 x], .agg #[.bool t, .slice a2 n2 c2, .int .i64 y]] w fun e w' => e = .returned (.tuple #[.int .i64 (cmpA s xs x t ys y), .int .i64 (cmpF s xs x t ys y)]) ∧ Below w.heap.size w w' := by
  by_cases h0 : cmpF s xs x t ys y = 0
  · obtain ⟨d1, d2⟩ := cmpF_ok h0
    by_cases hd : sgA s n1 ≠ sgA t n2 ∨ sgA s n1 = 0
    · rw [h0, cmpA_differ h1.len h2.len h0 hd]
      exact exCmp_differ s t a1 a2 n1 n2 c1 c2 x y xs ys w h1 h2 _ _ rfl rfl h0 (sg_bounds _ _) (sg_bounds _ _) hd
    · have hs : sgA t n2 = sgA s n1 := Decidable.byContradiction fun hh => hd (.inl fun e => hh e.symm)
      have hz : sgA s n1 ≠ 0 := fun hh => hd (.inr hh)
      have z1 : val xs ≠ 0 := fun hh => hz (sg_zero.2 ((val_zero_n h1 (dchk_chk d1)).1 hh))
      have z2 : val ys ≠ 0 := fun hh => hz (hs ▸ sg_zero.2 ((val_zero_n h2 (dchk_chk d2)).1 hh))
      rw [h0, cmpA_same h1.len h2.len h0 hs hz]
      unfold bgA
      by_cases g1 : (szN xs : Int) + x < szN ys + y
      · rw [if_pos g1, Int.mul_neg, Int.mul_one]
        exact exCmp_below s t a1 a2 n1 n2 c1 c2 x y xs ys w h1 h2 _ rfl hs h0 (sg_bounds _ _) hz g1
      · rw [if_neg g1]
        by_cases g2 : (szN ys : Int) + y < szN xs + x
        · rw [if_pos g2, Int.mul_one]
          exact exCmp_above s t a1 a2 n1 n2 c1 c2 x y xs ys w h1 h2 _ rfl hs h0 (sg_bounds _ _) hz g2
        · rw [if_neg g2]
          exact exCmp_level s t a1 a2 n1 n2 c1 c2 x y xs ys w h1 h2 _ rfl hs h0 (sg_bounds _ _) hz (by omega) z1 z2
  · rw [cmpA_bad h0]
    exact exCmp_bad s t a1 a2 n1 n2 c1 c2 x y xs ys w h1 h2 h0

end Go.Proofs.YtnokabglkmiidaaDoor
