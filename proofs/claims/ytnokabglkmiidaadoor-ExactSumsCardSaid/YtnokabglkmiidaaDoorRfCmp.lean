/-
  The walks of the reference's top, bigger and Cmp of dyadics. (Printed by wip/gen/rcmp.py.)
-/
import Derived.Test.YtnokabglkmiidaaDoorExCmp
import Derived.Test.YtnokabglkmiidaaDoorRfAdd
import Derived.Test.YtnokabglkmiidaaDoorNatD
namespace Go.Proofs.YtnokabglkmiidaaDoor
open Go.RowKit Go.Lb

theorem cell3_alloc {w : World} {b : Nat} {u v x : Value} (h : Cell3 w b u v x) (o : Obj) : Cell3 (w.alloc o) b u v x := h.stay ((Below.refl _ _).alloc (Nat.le_refl _) o)

set_option maxRecDepth 100000 in
theorem rfTop_any (s : Bool) (ao : Option Addr) (n c : Nat) (x : Int) (xs : List Nat) (w : World) (h : Sl w ao n c xs) (hc : chk xs = 0) (x1 : -1073741824 ≤ x) (x2 : x ≤ 1073741824) :
    Calls Tryd.prog 110 #[.agg #[.bool s, .slice ao n c, .int .i64 x]] w fun e w' => e = .returned (.int .i64 ((szN xs : Int) + x)) ∧ Below w.heap.size w w' := by
  have hz : bitsN xs = (szN xs : Int) := by unfold bitsN; rw [if_pos hc]
  have hm := szN_max h.ok hc
  generalize szN xs = z at hz hm
  go_enter Tryd.func110, Tryd.ntmps110
  go_wp2_with (go_at_call 125; refine (refBits_any ao n c xs _ (h.alloc _)).mono ?_; rintro e w1 ⟨rfl, hb1⟩; rw [hz]; have A := (box3_new w _ _ _ _).stay hb1; have hW := next (more (Below.refl _ _) _) hb1; have ⟨q0, q1, q2, qz0, qz1, qz2⟩ := A)
  go_ret
  exact ⟨rfl, hW⟩

set_option maxRecDepth 100000 in
set_option maxHeartbeats 4000000 in
theorem rfBig_below (s t : Bool) (a1 a2 : Option Addr) (n1 n2 c1 c2 : Nat) (x y : Int) (xs ys : List Nat) (w : World) (h1 : Sl w a1 n1 c1 xs) (h2 : Sl w a2 n2 c2 ys) (k1 : chk xs = 0) (k2 : chk ys = 0) (x1 : -1073741824 ≤ x) (x2 : x ≤ 1073741824) (y1 : -1073741824 ≤ y) (y2 : y ≤ 1073741824) (hv : (szN xs : Int) + x < szN ys + y) :
    Calls Tryd.prog 91 #[.agg #[.bool s, .slice a1 n1 c1, .int .i64 x], .agg #[.bool t, .slice a2 n2 c2, .int .i64 y]] w fun e w' => e = .returned (.int .i64 (-1)) ∧ Below w.heap.size w w' := by
  have m1 := szN_max h1.ok k1
  have m2 := szN_max h2.ok k2
  have cA : ∀ W : World, Below w.heap.size w W → Calls Tryd.prog 110 #[.agg #[.bool s, .slice a1 n1 c1, .int .i64 x]] W fun e w' => e = .returned (.int .i64 ((szN xs : Int) + x)) ∧ Below W.heap.size W w' := fun W hW => rfTop_any s a1 n1 c1 x xs W (h1.below hW) k1 x1 x2
  have cB : ∀ W : World, Below w.heap.size w W → Calls Tryd.prog 110 #[.agg #[.bool t, .slice a2 n2 c2, .int .i64 y]] W fun e w' => e = .returned (.int .i64 ((szN ys : Int) + y)) ∧ Below W.heap.size W w' := fun W hW => rfTop_any t a2 n2 c2 y ys W (h2.below hW) k2 y1 y2
  generalize szN xs = p at m1 hv cA
  generalize szN ys = q at m2 hv cB
  go_enter Tryd.func91, Tryd.ntmps91
  go_wp2
  have hW0 : Below w.heap.size w ((w.alloc (.cells #[.bool s, .slice a1 n1 c1, .int .i64 x] 26)).alloc (.cells #[.bool t, .slice a2 n2 c2, .int .i64 y] 26)) := more (more (Below.refl _ _) _) _
  go_region_held3 (fun w' => w'.cell? ⟨w.heap.size, 0, none⟩ = some (.bool s) ∧ w'.cell? ⟨w.heap.size, 1, none⟩ = some (.slice a1 n1 c1) ∧ w'.cell? ⟨w.heap.size, 2, none⟩ = some (.int .i64 x) ∧ w'.cell? ⟨w.heap.size + 1, 0, none⟩ = some (.bool t) ∧ w'.cell? ⟨w.heap.size + 1, 1, none⟩ = some (.slice a2 n2 c2) ∧ w'.cell? ⟨w.heap.size + 1, 2, none⟩ = some (.int .i64 y) ∧ Below w.heap.size w w')
    ((go_split_ands; refine ⟨?_, ?_, ?_, ?_, ?_, ?_, ?_⟩ <;> (first | assumption | exact Below.drew (by assumption) | exact cellStay (by assumption) hbB | exact next (by assumption) hbB | (go_keep; done))))
    (first | (go_at_call 110; (with_reducible refine (cA _ ?_).mono ?_); (go_split_ands; assumption); rintro en wB ⟨rfl, hbB⟩) | (go_at_call 110; (with_reducible refine (cB _ ?_).mono ?_); (go_split_ands; assumption); rintro en wB ⟨rfl, hbB⟩))
  go_split_ands
  go_wp2
  go_region_held3 (fun w' => w'.cell? ⟨w.heap.size, 0, none⟩ = some (.bool s) ∧ w'.cell? ⟨w.heap.size, 1, none⟩ = some (.slice a1 n1 c1) ∧ w'.cell? ⟨w.heap.size, 2, none⟩ = some (.int .i64 x) ∧ w'.cell? ⟨w.heap.size + 1, 0, none⟩ = some (.bool t) ∧ w'.cell? ⟨w.heap.size + 1, 1, none⟩ = some (.slice a2 n2 c2) ∧ w'.cell? ⟨w.heap.size + 1, 2, none⟩ = some (.int .i64 y) ∧ Below w.heap.size w w')
    ((go_split_ands; refine ⟨?_, ?_, ?_, ?_, ?_, ?_, ?_⟩ <;> (first | assumption | exact Below.drew (by assumption) | exact cellStay (by assumption) hbB | exact next (by assumption) hbB | (go_keep; done))))
    (first | (go_at_call 110; (with_reducible refine (cA _ ?_).mono ?_); (go_split_ands; assumption); rintro en wB ⟨rfl, hbB⟩) | (go_at_call 110; (with_reducible refine (cB _ ?_).mono ?_); (go_split_ands; assumption); rintro en wB ⟨rfl, hbB⟩))
  go_split_ands
  go_wp2
  refine bodyPost_ret (v := .int .i64 (-1)) (by simp [results, Tryd.results91, go_sem]) rfl ⟨rfl, by assumption⟩

set_option maxRecDepth 100000 in
set_option maxHeartbeats 4000000 in
theorem rfBig_above (s t : Bool) (a1 a2 : Option Addr) (n1 n2 c1 c2 : Nat) (x y : Int) (xs ys : List Nat) (w : World) (h1 : Sl w a1 n1 c1 xs) (h2 : Sl w a2 n2 c2 ys) (k1 : chk xs = 0) (k2 : chk ys = 0) (x1 : -1073741824 ≤ x) (x2 : x ≤ 1073741824) (y1 : -1073741824 ≤ y) (y2 : y ≤ 1073741824) (hv : (szN ys : Int) + y < szN xs + x) :
    Calls Tryd.prog 91 #[.agg #[.bool s, .slice a1 n1 c1, .int .i64 x], .agg #[.bool t, .slice a2 n2 c2, .int .i64 y]] w fun e w' => e = .returned (.int .i64 1) ∧ Below w.heap.size w w' := by
  have m1 := szN_max h1.ok k1
  have m2 := szN_max h2.ok k2
  have cA : ∀ W : World, Below w.heap.size w W → Calls Tryd.prog 110 #[.agg #[.bool s, .slice a1 n1 c1, .int .i64 x]] W fun e w' => e = .returned (.int .i64 ((szN xs : Int) + x)) ∧ Below W.heap.size W w' := fun W hW => rfTop_any s a1 n1 c1 x xs W (h1.below hW) k1 x1 x2
  have cB : ∀ W : World, Below w.heap.size w W → Calls Tryd.prog 110 #[.agg #[.bool t, .slice a2 n2 c2, .int .i64 y]] W fun e w' => e = .returned (.int .i64 ((szN ys : Int) + y)) ∧ Below W.heap.size W w' := fun W hW => rfTop_any t a2 n2 c2 y ys W (h2.below hW) k2 y1 y2
  generalize szN xs = p at m1 hv cA
  generalize szN ys = q at m2 hv cB
  go_enter Tryd.func91, Tryd.ntmps91
  go_wp2
  have hW0 : Below w.heap.size w ((w.alloc (.cells #[.bool s, .slice a1 n1 c1, .int .i64 x] 26)).alloc (.cells #[.bool t, .slice a2 n2 c2, .int .i64 y] 26)) := more (more (Below.refl _ _) _) _
  go_region_held3 (fun w' => w'.cell? ⟨w.heap.size, 0, none⟩ = some (.bool s) ∧ w'.cell? ⟨w.heap.size, 1, none⟩ = some (.slice a1 n1 c1) ∧ w'.cell? ⟨w.heap.size, 2, none⟩ = some (.int .i64 x) ∧ w'.cell? ⟨w.heap.size + 1, 0, none⟩ = some (.bool t) ∧ w'.cell? ⟨w.heap.size + 1, 1, none⟩ = some (.slice a2 n2 c2) ∧ w'.cell? ⟨w.heap.size + 1, 2, none⟩ = some (.int .i64 y) ∧ Below w.heap.size w w')
    ((go_split_ands; refine ⟨?_, ?_, ?_, ?_, ?_, ?_, ?_⟩ <;> (first | assumption | exact Below.drew (by assumption) | exact cellStay (by assumption) hbB | exact next (by assumption) hbB | (go_keep; done))))
    (first | (go_at_call 110; (with_reducible refine (cA _ ?_).mono ?_); (go_split_ands; assumption); rintro en wB ⟨rfl, hbB⟩) | (go_at_call 110; (with_reducible refine (cB _ ?_).mono ?_); (go_split_ands; assumption); rintro en wB ⟨rfl, hbB⟩))
  go_split_ands
  go_wp2
  go_region_held3 (fun w' => w'.cell? ⟨w.heap.size, 0, none⟩ = some (.bool s) ∧ w'.cell? ⟨w.heap.size, 1, none⟩ = some (.slice a1 n1 c1) ∧ w'.cell? ⟨w.heap.size, 2, none⟩ = some (.int .i64 x) ∧ w'.cell? ⟨w.heap.size + 1, 0, none⟩ = some (.bool t) ∧ w'.cell? ⟨w.heap.size + 1, 1, none⟩ = some (.slice a2 n2 c2) ∧ w'.cell? ⟨w.heap.size + 1, 2, none⟩ = some (.int .i64 y) ∧ Below w.heap.size w w')
    ((go_split_ands; refine ⟨?_, ?_, ?_, ?_, ?_, ?_, ?_⟩ <;> (first | assumption | exact Below.drew (by assumption) | exact cellStay (by assumption) hbB | exact next (by assumption) hbB | (go_keep; done))))
    (first | (go_at_call 110; (with_reducible refine (cA _ ?_).mono ?_); (go_split_ands; assumption); rintro en wB ⟨rfl, hbB⟩) | (go_at_call 110; (with_reducible refine (cB _ ?_).mono ?_); (go_split_ands; assumption); rintro en wB ⟨rfl, hbB⟩))
  go_split_ands
  go_wp2
  refine bodyPost_ret (v := .int .i64 1) (by simp [results, Tryd.results91, go_sem]) rfl ⟨rfl, by assumption⟩

set_option maxRecDepth 100000 in
set_option maxHeartbeats 4000000 in
theorem rfBig_level (s t : Bool) (a1 a2 : Option Addr) (n1 n2 c1 c2 : Nat) (x y : Int) (xs ys : List Nat) (w : World) (h1 : Sl w a1 n1 c1 xs) (h2 : Sl w a2 n2 c2 ys) (k1 : chk xs = 0) (k2 : chk ys = 0) (x1 : -1073741824 ≤ x) (x2 : x ≤ 1073741824) (y1 : -1073741824 ≤ y) (y2 : y ≤ 1073741824) (hv : (szN xs : Int) + x = szN ys + y) (zx : val xs ≠ 0) (zy : val ys ≠ 0) :
    Calls Tryd.prog 91 #[.agg #[.bool s, .slice a1 n1 c1, .int .i64 x], .agg #[.bool t, .slice a2 n2 c2, .int .i64 y]] w fun e w' => e = .returned (.int .i64 (cmpN (lvN (val xs) x y) (lvN (val ys) y x))) ∧ Below w.heap.size w w' := by
  have hm1 : min x y ≤ x := Int.min_le_left _ _
  have hm2 : min x y ≤ y := Int.min_le_right _ _
  have hm3 : -1073741824 ≤ min x y := by omega
  have hl1 : val xs * 2 ^ (x - min x y).toNat = lvN (val xs) x y := rfl
  have hl2 : val ys * 2 ^ (y - min x y).toNat = lvN (val ys) y x := by unfold lvN; rw [Int.min_comm]
  have u1 : 0 ≤ x - min x y := by omega
  have u2 : 0 ≤ y - min x y := by omega
  obtain ⟨e1, e2⟩ := lv_same h1.ok h2.ok k1 k2 zx zy hv
  have g1 := (bigE_ok e1).1
  have g2 := (bigE_ok e2).1
  generalize hcg : cmpN (lvN (val xs) x y) (lvN (val ys) y x) = cm
  have m1 := szN_max h1.ok k1
  have m2 := szN_max h2.ok k2
  have cA : ∀ W : World, Below w.heap.size w W → Calls Tryd.prog 110 #[.agg #[.bool s, .slice a1 n1 c1, .int .i64 x]] W fun e w' => e = .returned (.int .i64 ((szN xs : Int) + x)) ∧ Below W.heap.size W w' := fun W hW => rfTop_any s a1 n1 c1 x xs W (h1.below hW) k1 x1 x2
  have cB : ∀ W : World, Below w.heap.size w W → Calls Tryd.prog 110 #[.agg #[.bool t, .slice a2 n2 c2, .int .i64 y]] W fun e w' => e = .returned (.int .i64 ((szN ys : Int) + y)) ∧ Below W.heap.size W w' := fun W hW => rfTop_any t a2 n2 c2 y ys W (h2.below hW) k2 y1 y2
  generalize szN xs = p at m1 hv cA
  generalize szN ys = q at m2 hv cB
  go_enter Tryd.func91, Tryd.ntmps91
  go_wp2
  have hW0 : Below w.heap.size w ((w.alloc (.cells #[.bool s, .slice a1 n1 c1, .int .i64 x] 26)).alloc (.cells #[.bool t, .slice a2 n2 c2, .int .i64 y] 26)) := more (more (Below.refl _ _) _) _
  go_region_held3 (fun w' => w'.cell? ⟨w.heap.size, 0, none⟩ = some (.bool s) ∧ w'.cell? ⟨w.heap.size, 1, none⟩ = some (.slice a1 n1 c1) ∧ w'.cell? ⟨w.heap.size, 2, none⟩ = some (.int .i64 x) ∧ w'.cell? ⟨w.heap.size + 1, 0, none⟩ = some (.bool t) ∧ w'.cell? ⟨w.heap.size + 1, 1, none⟩ = some (.slice a2 n2 c2) ∧ w'.cell? ⟨w.heap.size + 1, 2, none⟩ = some (.int .i64 y) ∧ Below w.heap.size w w')
    ((go_split_ands; refine ⟨?_, ?_, ?_, ?_, ?_, ?_, ?_⟩ <;> (first | assumption | exact Below.drew (by assumption) | exact cellStay (by assumption) hbB | exact next (by assumption) hbB | (go_keep; done))))
    (first | (go_at_call 110; (with_reducible refine (cA _ ?_).mono ?_); (go_split_ands; assumption); rintro en wB ⟨rfl, hbB⟩) | (go_at_call 110; (with_reducible refine (cB _ ?_).mono ?_); (go_split_ands; assumption); rintro en wB ⟨rfl, hbB⟩))
  go_split_ands
  have hW : Below w.heap.size w wB := by assumption
  have A : Cell3 wB w.heap.size (.bool s) (.slice a1 n1 c1) (.int .i64 x) := ⟨by assumption, by assumption, by assumption⟩
  have B : Cell3 wB (w.heap.size + 1) (.bool t) (.slice a2 n2 c2) (.int .i64 y) := ⟨by assumption, by assumption, by assumption⟩
  go_wp2_with (first
    | (go_at_call 94; (with_reducible refine (refUp_i a1 n1 c1 (x - min x y) u1 xs _ (h1.below hW) k1).mono ?_); rintro e w4 ⟨a5, n5, c5, rfl, hF, hb4⟩; rw [hl1] at hF ⊢; rw [g1]; rw [bigN_of g1] at hF; replace hW := more (next hW hb4) (.cells #[.slice a5 n5 c5] 24); replace A := cell3_alloc (A.stay hb4) (.cells #[.slice a5 n5 c5] 24); replace B := cell3_alloc (B.stay hb4) (.cells #[.slice a5 n5 c5] 24); have X := box1_new w4 (.slice a5 n5 c5) 24; replace hF := hF.alloc (.cells #[.slice a5 n5 c5] 24); have ⟨v1_0, v1_1, v1_2⟩ := A; have ⟨v2_0, v2_1, v2_2⟩ := B; have ⟨xx0, xxz⟩ := X)
    | (go_at_call 94; (with_reducible refine (refUp_i a2 n2 c2 (y - min x y) u2 ys _ (h2.below hW) k2).mono ?_); rintro e w5 ⟨a6, n6, c6, rfl, hG, hb5⟩; rw [hl2] at hG ⊢; rw [g2]; rw [bigN_of g2] at hG; replace hW := more (next hW hb5) (.cells #[.slice a6 n6 c6] 24); have Y := box1_new w5 (.slice a6 n6 c6) 24; replace hF := (hF.below hb5).alloc (.cells #[.slice a6 n6 c6] 24); replace hG := hG.alloc (.cells #[.slice a6 n6 c6] 24); have X2 := (X.stay hb5).alloc (.cells #[.slice a6 n6 c6] 24); have ⟨yx0, yxz⟩ := X2; have ⟨yy0, yyz⟩ := Y)
    | (go_at_call 96; refine (refCmp_any a5 a6 n5 n6 c5 c6 (limbs (lvN (val xs) x y)) (limbs (lvN (val ys) y x)) _ hF.sl hG.sl (chk_big g1) (chk_big g2)).mono ?_; rintro e w7 ⟨rfl, hb7⟩; rw [val_limbs', val_limbs', hcg]; replace hW := next hW hb7))
  refine bodyPost_ret (v := .int .i64 cm) (by simp [results, Tryd.results91, go_sem]) rfl ⟨rfl, hW⟩

theorem rfBig_any (s t : Bool) (a1 a2 : Option Addr) (n1 n2 c1 c2 : Nat) (x y : Int) (xs ys : List Nat) (w : World) (h1 : Sl w a1 n1 c1 xs) (h2 : Sl w a2 n2 c2 ys) (k1 : chk xs = 0) (k2 : chk ys = 0) (x1 : -1073741824 ≤ x) (x2 : x ≤ 1073741824) (y1 : -1073741824 ≤ y) (y2 : y ≤ 1073741824) (zx : val xs ≠ 0) (zy : val ys ≠ 0) :
    Calls Tryd.prog 91 #[.agg #[.bool s, .slice a1 n1 c1, .int .i64 x], .agg #[.bool t, .slice a2 n2 c2, .int .i64 y]] w fun e w' => e = .returned (.int .i64 (bgA xs x ys y)) ∧ Below w.heap.size w w' := by
  unfold bgA
  by_cases g1 : (szN xs : Int) + x < szN ys + y
  · rw [if_pos g1]
    exact rfBig_below s t a1 a2 n1 n2 c1 c2 x y xs ys w h1 h2 k1 k2 x1 x2 y1 y2 g1
  · rw [if_neg g1]
    by_cases g2 : (szN ys : Int) + y < szN xs + x
    · rw [if_pos g2]
      exact rfBig_above s t a1 a2 n1 n2 c1 c2 x y xs ys w h1 h2 k1 k2 x1 x2 y1 y2 g2
    · rw [if_neg g2]
      exact rfBig_level s t a1 a2 n1 n2 c1 c2 x y xs ys w h1 h2 k1 k2 x1 x2 y1 y2 (by omega) zx zy

set_option maxRecDepth 100000 in
set_option maxHeartbeats 4000000 in
theorem rfCmp_bad (s t : Bool) (a1 a2 : Option Addr) (n1 n2 c1 c2 : Nat) (x y : Int) (xs ys : List Nat) (w : World) (h1 : Sl w a1 n1 c1 xs) (h2 : Sl w a2 n2 c2 ys) (h0 : cmpF s xs x t ys y ≠ 0) :
    Calls Tryd.prog 55 #[.agg #[.bool s, .slice a1 n1 c1, .int .i64 x], .agg #[.bool t, .slice a2 n2 c2, .int .i64 y]] w fun e w' => e = .returned (.tuple #[.int .i64 0, .int .i64 (cmpF s xs x t ys y)]) ∧ Below w.heap.size w w' := by
  have h0B : (cmpF s xs x t ys y != 0) = true := by simp [h0]
  have h1B : (cmpF s xs x t ys y == 0) = false := by simp [h0]
  generalize hE : cmpF s xs x t ys y = E at h0 h0B h1B ⊢
  go_enter Tryd.func55, Tryd.ntmps55
  go_wp2_with (first
    | (go_at_call 89; refine (rfTwo_any s t a1 a2 n1 n2 c1 c2 x y xs ys _ ((h1.alloc _).alloc _) ((h2.alloc _).alloc _)).mono ?_; rintro e w1 ⟨rfl, hb1⟩; rw [hE]; have hW := next (more (more (Below.refl _ _) _) _) hb1))
  go_ret2
  exact ⟨rfl, hW⟩

set_option maxRecDepth 100000 in
set_option maxHeartbeats 4000000 in
theorem rfCmp_below (s t : Bool) (a1 a2 : Option Addr) (n1 n2 c1 c2 : Nat) (x y : Int) (xs ys : List Nat) (w : World) (h1 : Sl w a1 n1 c1 xs) (h2 : Sl w a2 n2 c2 ys) (S Z : Int) (hS : sgA s n1 = S) (hZ : sgA t n2 = Z) (h0 : cmpF s xs x t ys y = 0) (hd : S < Z) :
    Calls Tryd.prog 55 #[.agg #[.bool s, .slice a1 n1 c1, .int .i64 x], .agg #[.bool t, .slice a2 n2 c2, .int .i64 y]] w fun e w' => e = .returned (.tuple #[.int .i64 (-1), .int .i64 0]) ∧ Below w.heap.size w w' := by
  have cS : ∀ W : World, Calls Tryd.prog 90 #[.agg #[.bool s, .slice a1 n1 c1, .int .i64 x]] W fun e w' => e = .returned (.int .i64 S) ∧ Below W.heap.size W w' := fun W => hS ▸ rfSign_any s a1 n1 c1 x W
  have cZ : ∀ W : World, Calls Tryd.prog 90 #[.agg #[.bool t, .slice a2 n2 c2, .int .i64 y]] W fun e w' => e = .returned (.int .i64 Z) ∧ Below W.heap.size W w' := fun W => hZ ▸ rfSign_any t a2 n2 c2 y W
  go_enter Tryd.func55, Tryd.ntmps55
  go_wp2_with (first
    | (go_at_call 89; refine (rfTwo_any s t a1 a2 n1 n2 c1 c2 x y xs ys _ ((h1.alloc _).alloc _) ((h2.alloc _).alloc _)).mono ?_; rintro e w1 ⟨rfl, hb1⟩; rw [h0]; have A := ((box3_new w _ _ _ _).alloc _).stay hb1; have B := (box3_new _ _ _ _ _).stay hb1; rw [World.size_alloc] at B; have hW := next (more (more (Below.refl _ _) _) _) hb1; have ⟨v5_0, v5_1, v5_2, v5z0, v5z1, v5z2⟩ := A; have ⟨v6_0, v6_1, v6_2, v6z0, v6z1, v6z2⟩ := B))
  go_region_held3 (fun w' => w'.cell? ⟨w.heap.size, 0, none⟩ = some (.bool s) ∧ w'.cell? ⟨w.heap.size, 1, none⟩ = some (.slice a1 n1 c1) ∧ w'.cell? ⟨w.heap.size, 2, none⟩ = some (.int .i64 x) ∧ w'.cell? ⟨w.heap.size + 1, 0, none⟩ = some (.bool t) ∧ w'.cell? ⟨w.heap.size + 1, 1, none⟩ = some (.slice a2 n2 c2) ∧ w'.cell? ⟨w.heap.size + 1, 2, none⟩ = some (.int .i64 y) ∧ Below w.heap.size w w')
    ((go_split_ands; refine ⟨?_, ?_, ?_, ?_, ?_, ?_, ?_⟩ <;> (first | assumption | exact Below.drew (by assumption) | exact cellStay (by assumption) hbB | exact next (by assumption) hbB | (go_keep; done))))
    (first | (go_at_call 90; (with_reducible refine (cS _).mono ?_); rintro en wB ⟨rfl, hbB⟩) | (go_at_call 90; (with_reducible refine (cZ _).mono ?_); rintro en wB ⟨rfl, hbB⟩))
  go_split_ands
  go_wp2
  refine bodyPost_ret (v := .tuple #[.int .i64 (-1), .int .i64 0]) (by simp [results, Tryd.results55, go_sem]) rfl ⟨rfl, by assumption⟩

set_option maxRecDepth 100000 in
set_option maxHeartbeats 4000000 in
theorem rfCmp_above (s t : Bool) (a1 a2 : Option Addr) (n1 n2 c1 c2 : Nat) (x y : Int) (xs ys : List Nat) (w : World) (h1 : Sl w a1 n1 c1 xs) (h2 : Sl w a2 n2 c2 ys) (S Z : Int) (hS : sgA s n1 = S) (hZ : sgA t n2 = Z) (h0 : cmpF s xs x t ys y = 0) (hd : Z < S) :
    Calls Tryd.prog 55 #[.agg #[.bool s, .slice a1 n1 c1, .int .i64 x], .agg #[.bool t, .slice a2 n2 c2, .int .i64 y]] w fun e w' => e = .returned (.tuple #[.int .i64 1, .int .i64 0]) ∧ Below w.heap.size w w' := by
  have cS : ∀ W : World, Calls Tryd.prog 90 #[.agg #[.bool s, .slice a1 n1 c1, .int .i64 x]] W fun e w' => e = .returned (.int .i64 S) ∧ Below W.heap.size W w' := fun W => hS ▸ rfSign_any s a1 n1 c1 x W
  have cZ : ∀ W : World, Calls Tryd.prog 90 #[.agg #[.bool t, .slice a2 n2 c2, .int .i64 y]] W fun e w' => e = .returned (.int .i64 Z) ∧ Below W.heap.size W w' := fun W => hZ ▸ rfSign_any t a2 n2 c2 y W
  go_enter Tryd.func55, Tryd.ntmps55
  go_wp2_with (first
    | (go_at_call 89; refine (rfTwo_any s t a1 a2 n1 n2 c1 c2 x y xs ys _ ((h1.alloc _).alloc _) ((h2.alloc _).alloc _)).mono ?_; rintro e w1 ⟨rfl, hb1⟩; rw [h0]; have A := ((box3_new w _ _ _ _).alloc _).stay hb1; have B := (box3_new _ _ _ _ _).stay hb1; rw [World.size_alloc] at B; have hW := next (more (more (Below.refl _ _) _) _) hb1; have ⟨v7_0, v7_1, v7_2, v7z0, v7z1, v7z2⟩ := A; have ⟨v8_0, v8_1, v8_2, v8z0, v8z1, v8z2⟩ := B))
  go_region_held3 (fun w' => w'.cell? ⟨w.heap.size, 0, none⟩ = some (.bool s) ∧ w'.cell? ⟨w.heap.size, 1, none⟩ = some (.slice a1 n1 c1) ∧ w'.cell? ⟨w.heap.size, 2, none⟩ = some (.int .i64 x) ∧ w'.cell? ⟨w.heap.size + 1, 0, none⟩ = some (.bool t) ∧ w'.cell? ⟨w.heap.size + 1, 1, none⟩ = some (.slice a2 n2 c2) ∧ w'.cell? ⟨w.heap.size + 1, 2, none⟩ = some (.int .i64 y) ∧ Below w.heap.size w w')
    ((go_split_ands; refine ⟨?_, ?_, ?_, ?_, ?_, ?_, ?_⟩ <;> (first | assumption | exact Below.drew (by assumption) | exact cellStay (by assumption) hbB | exact next (by assumption) hbB | (go_keep; done))))
    (first | (go_at_call 90; (with_reducible refine (cS _).mono ?_); rintro en wB ⟨rfl, hbB⟩) | (go_at_call 90; (with_reducible refine (cZ _).mono ?_); rintro en wB ⟨rfl, hbB⟩))
  go_split_ands
  go_wp2
  refine bodyPost_ret (v := .tuple #[.int .i64 1, .int .i64 0]) (by simp [results, Tryd.results55, go_sem]) rfl ⟨rfl, by assumption⟩

set_option maxRecDepth 100000 in
set_option maxHeartbeats 4000000 in
theorem rfCmp_nought (s t : Bool) (a1 a2 : Option Addr) (n1 n2 c1 c2 : Nat) (x y : Int) (xs ys : List Nat) (w : World) (h1 : Sl w a1 n1 c1 xs) (h2 : Sl w a2 n2 c2 ys) (hS : sgA s n1 = 0) (hZ : sgA t n2 = 0) (h0 : cmpF s xs x t ys y = 0) :
    Calls Tryd.prog 55 #[.agg #[.bool s, .slice a1 n1 c1, .int .i64 x], .agg #[.bool t, .slice a2 n2 c2, .int .i64 y]] w fun e w' => e = .returned (.tuple #[.int .i64 0, .int .i64 0]) ∧ Below w.heap.size w w' := by
  have cS : ∀ W : World, Calls Tryd.prog 90 #[.agg #[.bool s, .slice a1 n1 c1, .int .i64 x]] W fun e w' => e = .returned (.int .i64 0) ∧ Below W.heap.size W w' := fun W => hS ▸ rfSign_any s a1 n1 c1 x W
  have cZ : ∀ W : World, Calls Tryd.prog 90 #[.agg #[.bool t, .slice a2 n2 c2, .int .i64 y]] W fun e w' => e = .returned (.int .i64 0) ∧ Below W.heap.size W w' := fun W => hZ ▸ rfSign_any t a2 n2 c2 y W
  go_enter Tryd.func55, Tryd.ntmps55
  go_wp2_with (first
    | (go_at_call 89; refine (rfTwo_any s t a1 a2 n1 n2 c1 c2 x y xs ys _ ((h1.alloc _).alloc _) ((h2.alloc _).alloc _)).mono ?_; rintro e w1 ⟨rfl, hb1⟩; rw [h0]; have A := ((box3_new w _ _ _ _).alloc _).stay hb1; have B := (box3_new _ _ _ _ _).stay hb1; rw [World.size_alloc] at B; have hW := next (more (more (Below.refl _ _) _) _) hb1; have ⟨v9_0, v9_1, v9_2, v9z0, v9z1, v9z2⟩ := A; have ⟨v10_0, v10_1, v10_2, v10z0, v10z1, v10z2⟩ := B))
  go_region_held3 (fun w' => w'.cell? ⟨w.heap.size, 0, none⟩ = some (.bool s) ∧ w'.cell? ⟨w.heap.size, 1, none⟩ = some (.slice a1 n1 c1) ∧ w'.cell? ⟨w.heap.size, 2, none⟩ = some (.int .i64 x) ∧ w'.cell? ⟨w.heap.size + 1, 0, none⟩ = some (.bool t) ∧ w'.cell? ⟨w.heap.size + 1, 1, none⟩ = some (.slice a2 n2 c2) ∧ w'.cell? ⟨w.heap.size + 1, 2, none⟩ = some (.int .i64 y) ∧ Below w.heap.size w w')
    ((go_split_ands; refine ⟨?_, ?_, ?_, ?_, ?_, ?_, ?_⟩ <;> (first | assumption | exact Below.drew (by assumption) | exact cellStay (by assumption) hbB | exact next (by assumption) hbB | (go_keep; done))))
    (first | (go_at_call 90; (with_reducible refine (cS _).mono ?_); rintro en wB ⟨rfl, hbB⟩) | (go_at_call 90; (with_reducible refine (cZ _).mono ?_); rintro en wB ⟨rfl, hbB⟩))
  go_split_ands
  go_wp2
  refine bodyPost_ret (v := .tuple #[.int .i64 0, .int .i64 0]) (by simp [results, Tryd.results55, go_sem]) rfl ⟨rfl, by assumption⟩

theorem bgA_bounds (xs : List Nat) (x : Int) (ys : List Nat) (y : Int) : -1 ≤ bgA xs x ys y ∧ bgA xs x ys y ≤ 1 := by
  unfold bgA
  split
  · decide
  · split
    · decide
    · exact cmpN_bounds _ _

set_option maxRecDepth 100000 in
set_option maxHeartbeats 4000000 in
theorem rfCmp_same (s t : Bool) (a1 a2 : Option Addr) (n1 n2 c1 c2 : Nat) (x y : Int) (xs ys : List Nat) (w : World) (h1 : Sl w a1 n1 c1 xs) (h2 : Sl w a2 n2 c2 ys) (S : Int) (hS : sgA s n1 = S) (hZ : sgA t n2 = S) (h0 : cmpF s xs x t ys y = 0) (bS : -1 ≤ S ∧ S ≤ 1) (hs0 : S ≠ 0) (zx : val xs ≠ 0) (zy : val ys ≠ 0) :
    Calls Tryd.prog 55 #[.agg #[.bool s, .slice a1 n1 c1, .int .i64 x], .agg #[.bool t, .slice a2 n2 c2, .int .i64 y]] w fun e w' => e = .returned (.tuple #[.int .i64 (S * bgA xs x ys y), .int .i64 0]) ∧ Below w.heap.size w w' := by
  obtain ⟨d1, d2⟩ := cmpF_ok h0
  have k1 := dchk_chk d1
  have k2 := dchk_chk d2
  have ⟨x1, x2⟩ := dchk_exp d1
  have ⟨y1, y2⟩ := dchk_exp d2
  obtain ⟨bS1, bS2⟩ := bS
  have hb : (S == 0) = false := by simpa using hs0
  have cmb := bgA_bounds xs x ys y
  have cG : ∀ W : World, Below w.heap.size w W → Calls Tryd.prog 91 #[.agg #[.bool s, .slice a1 n1 c1, .int .i64 x], .agg #[.bool t, .slice a2 n2 c2, .int .i64 y]] W fun e w' => e = .returned (.int .i64 (bgA xs x ys y)) ∧ Below W.heap.size W w' := fun W hW => rfBig_any s t a1 a2 n1 n2 c1 c2 x y xs ys W (h1.below hW) (h2.below hW) k1 k2 x1 x2 y1 y2 zx zy
  generalize bgA xs x ys y = cm at cmb cG
  have hwr : wrap64 (S * cm) = S * cm := by
    rcases (by omega : S = -1 ∨ S = 1) with h | h <;> rw [h] <;> exact IntWalk.wrap64_in _ ⟨by omega, by omega⟩
  clear cmb
  have cS : ∀ W : World, Calls Tryd.prog 90 #[.agg #[.bool s, .slice a1 n1 c1, .int .i64 x]] W fun e w' => e = .returned (.int .i64 S) ∧ Below W.heap.size W w' := fun W => hS ▸ rfSign_any s a1 n1 c1 x W
  have cZ : ∀ W : World, Calls Tryd.prog 90 #[.agg #[.bool t, .slice a2 n2 c2, .int .i64 y]] W fun e w' => e = .returned (.int .i64 S) ∧ Below W.heap.size W w' := fun W => hZ ▸ rfSign_any t a2 n2 c2 y W
  go_enter Tryd.func55, Tryd.ntmps55
  go_wp2_with (first
    | (go_at_call 89; refine (rfTwo_any s t a1 a2 n1 n2 c1 c2 x y xs ys _ ((h1.alloc _).alloc _) ((h2.alloc _).alloc _)).mono ?_; rintro e w1 ⟨rfl, hb1⟩; rw [h0]; have A := ((box3_new w _ _ _ _).alloc _).stay hb1; have B := (box3_new _ _ _ _ _).stay hb1; rw [World.size_alloc] at B; have hW := next (more (more (Below.refl _ _) _) _) hb1; have ⟨v11_0, v11_1, v11_2, v11z0, v11z1, v11z2⟩ := A; have ⟨v12_0, v12_1, v12_2, v12z0, v12z1, v12z2⟩ := B))
  go_region_held3 (fun w' => w'.cell? ⟨w.heap.size, 0, none⟩ = some (.bool s) ∧ w'.cell? ⟨w.heap.size, 1, none⟩ = some (.slice a1 n1 c1) ∧ w'.cell? ⟨w.heap.size, 2, none⟩ = some (.int .i64 x) ∧ w'.cell? ⟨w.heap.size + 1, 0, none⟩ = some (.bool t) ∧ w'.cell? ⟨w.heap.size + 1, 1, none⟩ = some (.slice a2 n2 c2) ∧ w'.cell? ⟨w.heap.size + 1, 2, none⟩ = some (.int .i64 y) ∧ Below w.heap.size w w')
    ((go_split_ands; refine ⟨?_, ?_, ?_, ?_, ?_, ?_, ?_⟩ <;> (first | assumption | exact Below.drew (by assumption) | exact cellStay (by assumption) hbB | exact next (by assumption) hbB | (go_keep; done))))
    (first | (go_at_call 90; (with_reducible refine (cS _).mono ?_); rintro en wB ⟨rfl, hbB⟩) | (go_at_call 90; (with_reducible refine (cZ _).mono ?_); rintro en wB ⟨rfl, hbB⟩))
  go_split_ands
  have hW : Below w.heap.size w wB := by assumption
  have A : Cell3 wB w.heap.size (.bool s) (.slice a1 n1 c1) (.int .i64 x) := ⟨by assumption, by assumption, by assumption⟩
  have B : Cell3 wB (w.heap.size + 1) (.bool t) (.slice a2 n2 c2) (.int .i64 y) := ⟨by assumption, by assumption, by assumption⟩
  go_wp2_with (go_at_call 91; refine (cG _ hW).mono ?_; rintro e w5 ⟨rfl, hb5⟩; replace hW := next hW hb5)
  refine bodyPost_ret (v := .tuple #[.int .i64 (S * cm), .int .i64 0]) (by simp [results, Tryd.results55, go_sem, hwr]) rfl ⟨rfl, hW⟩

theorem rfCmp_any (s t : Bool) (a1 a2 : Option Addr) (n1 n2 c1 c2 : Nat) (x y : Int) (xs ys : List Nat) (w : World) (h1 : Sl w a1 n1 c1 xs) (h2 : Sl w a2 n2 c2 ys) :
    Calls Tryd.prog 55 #[.agg #[.bool s, .slice a1 n1 c1, .int .i64 x], .agg #[.bool t, .slice a2 n2 c2, .int .i64 y]] w fun e w' => e = .returned (.tuple #[.int .i64 (cmpA s xs x t ys y), .int .i64 (cmpF s xs x t ys y)]) ∧ Below w.heap.size w w' := by
  by_cases h0 : cmpF s xs x t ys y = 0
  · obtain ⟨d1, d2⟩ := cmpF_ok h0
    rw [h0]
    have hA : cmpA s xs x t ys y = if sgA s n1 < sgA t n2 then -1 else if sgA t n2 < sgA s n1 then 1 else if sgA s n1 = 0 then 0 else sgA s n1 * bgA xs x ys y := by
      unfold cmpA
      rw [if_neg (by simp [d1, d2]), h1.len, h2.len]
    rw [hA]
    by_cases g1 : sgA s n1 < sgA t n2
    · rw [if_pos g1]
      exact rfCmp_below s t a1 a2 n1 n2 c1 c2 x y xs ys w h1 h2 _ _ rfl rfl h0 g1
    · rw [if_neg g1]
      by_cases g2 : sgA t n2 < sgA s n1
      · rw [if_pos g2]
        exact rfCmp_above s t a1 a2 n1 n2 c1 c2 x y xs ys w h1 h2 _ _ rfl rfl h0 g2
      · rw [if_neg g2]
        have hs : sgA t n2 = sgA s n1 := by omega
        by_cases hz : sgA s n1 = 0
        · rw [if_pos hz]
          exact rfCmp_nought s t a1 a2 n1 n2 c1 c2 x y xs ys w h1 h2 hz (hs.trans hz) h0
        · rw [if_neg hz]
          have z1 : val xs ≠ 0 := fun hh => hz (sg_zero.2 ((val_zero_n h1 (dchk_chk d1)).1 hh))
          have z2 : val ys ≠ 0 := fun hh => hz (hs ▸ sg_zero.2 ((val_zero_n h2 (dchk_chk d2)).1 hh))
          exact rfCmp_same s t a1 a2 n1 n2 c1 c2 x y xs ys w h1 h2 _ rfl hs h0 (sg_bounds _ _) hz z1 z2
  · rw [cmpA_bad h0]
    exact rfCmp_bad s t a1 a2 n1 n2 c1 c2 x y xs ys w h1 h2 h0

end Go.Proofs.YtnokabglkmiidaaDoor
