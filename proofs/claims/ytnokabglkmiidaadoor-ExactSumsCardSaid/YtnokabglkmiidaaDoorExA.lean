/-
  The walks of exact.both, sign, twin, and of the reference's two, sign, Twin.
-/
import Derived.Test.YtnokabglkmiidaaDoorSumN
import Derived.Test.YtnokabglkmiidaaDoorNatC
import Derived.Test.YtnokabglkmiidaaDoorRefDown
namespace Go.Proofs.YtnokabglkmiidaaDoor
open Go.RowKit Go.Lb

set_option maxRecDepth 100000 in
theorem exBoth_any (s t : Bool) (a1 a2 : Option Addr) (n1 n2 c1 c2 : Nat) (x y : Int) (xs ys : List Nat) (w : World) (h1 : Sl w a1 n1 c1 xs) (h2 : Sl w a2 n2 c2 ys) :
    Calls Tryd.prog 84 #[.agg #[.bool s, .slice a1 n1 c1, .int .i64 x], .agg #[.bool t, .slice a2 n2 c2, .int .i64 y]] w fun e w' => e = .returned (.int .i64 (cmpF s xs x t ys y)) ∧ Below w.heap.size w w' := by
  by_cases h0 : dchk s xs x = 0
  · have h0B : (dchk s xs x != 0) = false := by simp [h0]
    have hF : cmpF s xs x t ys y = dchk t ys y := by unfold cmpF; rw [if_neg (by simp [h0])]
    rw [hF]
    go_enter Tryd.func84, Tryd.ntmps84
    go_wp2_with (first
      | (go_at_call 60; (with_reducible refine (dyCheck_any s a1 n1 c1 x xs _ ((h1.alloc _).alloc _)).mono ?_); rintro e w1 ⟨rfl, hb1⟩; have A := ((box3_new w _ _ _ _).alloc _).stay hb1; have B := (box3_new _ _ _ _ _).stay hb1; rw [World.size_alloc] at B; have hW := next (more (more (Below.refl _ _) _) _) hb1; have ⟨q0, q1, q2, qz0, qz1, qz2⟩ := A; have ⟨p0, p1, p2, pz0, pz1, pz2⟩ := B)
      | (go_at_call 60; refine (dyCheck_any t a2 n2 c2 y ys _ (h2.below hW)).mono ?_; rintro e w2 ⟨rfl, hb2⟩))
    go_ret
    exact ⟨rfl, next hW hb2⟩
  · have h0B : (dchk s xs x != 0) = true := by simp [h0]
    have hF : cmpF s xs x t ys y = dchk s xs x := by unfold cmpF; rw [if_pos h0]
    rw [hF]
    go_enter Tryd.func84, Tryd.ntmps84
    go_wp2_with (first
      | (go_at_call 60; (with_reducible refine (dyCheck_any s a1 n1 c1 x xs _ ((h1.alloc _).alloc _)).mono ?_); rintro e w1 ⟨rfl, hb1⟩; have hW := next (more (more (Below.refl _ _) _) _) hb1))
    go_ret
    exact ⟨rfl, hW⟩

set_option maxRecDepth 100000 in
theorem rfTwo_any (s t : Bool) (a1 a2 : Option Addr) (n1 n2 c1 c2 : Nat) (x y : Int) (xs ys : List Nat) (w : World) (h1 : Sl w a1 n1 c1 xs) (h2 : Sl w a2 n2 c2 ys) :
    Calls Tryd.prog 89 #[.agg #[.bool s, .slice a1 n1 c1, .int .i64 x], .agg #[.bool t, .slice a2 n2 c2, .int .i64 y]] w fun e w' => e = .returned (.int .i64 (cmpF s xs x t ys y)) ∧ Below w.heap.size w w' := by
  by_cases h0 : dchk s xs x = 0
  · have h0B : (dchk s xs x != 0) = false := by simp [h0]
    have hF : cmpF s xs x t ys y = dchk t ys y := by unfold cmpF; rw [if_neg (by simp [h0])]
    rw [hF]
    go_enter Tryd.func89, Tryd.ntmps89
    go_wp2_with (first
      | (go_at_call 62; (with_reducible refine (refDyCheck_any s a1 n1 c1 x xs _ ((h1.alloc _).alloc _)).mono ?_); rintro e w1 ⟨rfl, hb1⟩; have A := ((box3_new w _ _ _ _).alloc _).stay hb1; have B := (box3_new _ _ _ _ _).stay hb1; rw [World.size_alloc] at B; have hW := next (more (more (Below.refl _ _) _) _) hb1; have ⟨q0, q1, q2, qz0, qz1, qz2⟩ := A; have ⟨p0, p1, p2, pz0, pz1, pz2⟩ := B)
      | (go_at_call 62; refine (refDyCheck_any t a2 n2 c2 y ys _ (h2.below hW)).mono ?_; rintro e w2 ⟨rfl, hb2⟩))
    go_ret
    exact ⟨rfl, next hW hb2⟩
  · have h0B : (dchk s xs x != 0) = true := by simp [h0]
    have hF : cmpF s xs x t ys y = dchk s xs x := by unfold cmpF; rw [if_pos h0]
    rw [hF]
    go_enter Tryd.func89, Tryd.ntmps89
    go_wp2_with (first
      | (go_at_call 62; (with_reducible refine (refDyCheck_any s a1 n1 c1 x xs _ ((h1.alloc _).alloc _)).mono ?_); rintro e w1 ⟨rfl, hb1⟩; have hW := next (more (more (Below.refl _ _) _) _) hb1))
    go_ret
    exact ⟨rfl, hW⟩

set_option maxRecDepth 100000 in
theorem exSign_any (s : Bool) (ao : Option Addr) (n c : Nat) (x : Int) (w : World) :
    Calls Tryd.prog 85 #[.agg #[.bool s, .slice ao n c, .int .i64 x]] w fun e w' => e = .returned (.int .i64 (sgA s n)) ∧ Below w.heap.size w w' := by
  by_cases h0 : n = 0
  · subst h0
    have hnB : noneB 0 = true := rfl
    have hS : sgA s 0 = 0 := rfl
    rw [hS]
    go_enter Tryd.func85, Tryd.ntmps85
    go_wp2_with (go_at_call 36; refine (none_any _ 0 c _).mono ?_; rintro e w2 ⟨rfl, hb2⟩; rw [hnB])
    go_ret
    exact ⟨rfl, next (more (Below.refl _ _) _) hb2⟩
  · have hnB : noneB n = false := by unfold noneB; exact decide_eq_false h0
    cases s
    · have hS : sgA false n = 1 := if_neg h0
      rw [hS]
      go_enter Tryd.func85, Tryd.ntmps85
      go_wp2_with (go_at_call 36; refine (none_any _ n c _).mono ?_; rintro e w2 ⟨rfl, hb2⟩; rw [hnB]; have A := (box3_new w _ _ _ _).stay hb2; have ⟨q0, q1, q2, qz0, qz1, qz2⟩ := A)
      go_ret
      exact ⟨rfl, next (more (Below.refl _ _) _) hb2⟩
    · have hS : sgA true n = -1 := if_neg h0
      rw [hS]
      go_enter Tryd.func85, Tryd.ntmps85
      go_wp2_with (go_at_call 36; refine (none_any _ n c _).mono ?_; rintro e w2 ⟨rfl, hb2⟩; rw [hnB]; have A := (box3_new w _ _ _ _).stay hb2; have ⟨q0, q1, q2, qz0, qz1, qz2⟩ := A)
      go_ret
      exact ⟨rfl, next (more (Below.refl _ _) _) hb2⟩

set_option maxRecDepth 100000 in
theorem rfSign_any (s : Bool) (ao : Option Addr) (n c : Nat) (x : Int) (w : World) :
    Calls Tryd.prog 90 #[.agg #[.bool s, .slice ao n c, .int .i64 x]] w fun e w' => e = .returned (.int .i64 (sgA s n)) ∧ Below w.heap.size w w' := by
  by_cases h0 : n = 0
  · subst h0
    have hnB : noneB 0 = true := rfl
    have hS : sgA s 0 = 0 := rfl
    rw [hS]
    go_enter Tryd.func90, Tryd.ntmps90
    go_wp2_with (go_at_call 31; refine (refNone_any _ 0 c _).mono ?_; rintro e w2 ⟨rfl, hb2⟩; rw [hnB])
    go_ret
    exact ⟨rfl, next (more (Below.refl _ _) _) hb2⟩
  · have hnB : noneB n = false := by unfold noneB; exact decide_eq_false h0
    cases s
    · have hS : sgA false n = 1 := if_neg h0
      rw [hS]
      go_enter Tryd.func90, Tryd.ntmps90
      go_wp2_with (go_at_call 31; refine (refNone_any _ n c _).mono ?_; rintro e w2 ⟨rfl, hb2⟩; rw [hnB]; have A := (box3_new w _ _ _ _).stay hb2; have ⟨q0, q1, q2, qz0, qz1, qz2⟩ := A)
      go_ret
      exact ⟨rfl, next (more (Below.refl _ _) _) hb2⟩
    · have hS : sgA true n = -1 := if_neg h0
      rw [hS]
      go_enter Tryd.func90, Tryd.ntmps90
      go_wp2_with (go_at_call 31; refine (refNone_any _ n c _).mono ?_; rintro e w2 ⟨rfl, hb2⟩; rw [hnB]; have A := (box3_new w _ _ _ _).stay hb2; have ⟨q0, q1, q2, qz0, qz1, qz2⟩ := A)
      go_ret
      exact ⟨rfl, next (more (Below.refl _ _) _) hb2⟩

/-- A dyadic in memory of its own. -/
def Twn (s : Bool) (x : Int) (w : World) (n : Nat) (xs : List Nat) (e : Ending) (w' : World) : Prop :=
  ∃ ao c, e = .returned (.agg #[.bool s, .slice ao n c, .int .i64 x]) ∧ Fr 55 w' w.heap.size ao n c xs ∧ Below w.heap.size w w'

set_option maxHeartbeats 800000 in
set_option maxRecDepth 100000 in
theorem exTwin_any (s : Bool) (ao : Option Addr) (n c : Nat) (x : Int) (xs : List Nat) (w : World) (h : Sl w ao n c xs) (hn : n ≤ 35184372088832) :
    Calls Tryd.prog 61 #[.agg #[.bool s, .slice ao n c, .int .i64 x]] w (Twn s x w n xs) := by
  obtain ⟨i0, hi0, hz0, hz1, hz2⟩ := info_parts u32_infoL
  go_enter Tryd.func61, Tryd.ntmps61
  go_wp2_with (first
    | (at_builtin; refine wpList_append_sl _ rfl (.const (.slice none 0 0)) (.tmp 5) _ rfl (w.heap.size + 2) 55 i0 _ Tryd.underlying22 hi0 hz0 hz1 hz2 rfl (.slice none 0 0) 0 [] rfl (World.ownsRow_nil _ _ _ _) ao n c xs rfl ((h.alloc _).alloc _) (by omega) (by simp) ?_; intro v1 w1 hown1 hg1 hat1; have hbA := (Below.refl _ _).grown hg1 (Nat.le_refl _) (by simp [Value.ownBlock]); obtain ⟨a3, c3, rfl, hF⟩ := fr_own_any hown1 (ok_append ok_nil h.ok); simp only [Nat.zero_add, List.nil_append] at hF ⊢; have A := ((box3_new w _ _ _ _).alloc _).stay hbA; have B := (box3_new _ _ _ _ _).stay hbA; rw [World.size_alloc] at B; have ⟨q0, q1, q2, qz0, qz1, qz2⟩ := A; have ⟨p0, p1, p2, pz0, pz1, pz2⟩ := B; have hW := next (more (more (Below.refl _ _) _) _) hbA; have l1 := A.lt; have l2 := B.lt))
  have B' : Box3 (w1.setCell ⟨w.heap.size, 1, none⟩ (.slice a3 n c3)) (w.heap.size + 1) (.bool false) (.slice none 0 0) (.int .i64 0) := ⟨(World.cell?_setCell_other _ _ _ _ (by simp)).trans p0, (World.cell?_setCell_other _ _ _ _ (by simp)).trans p1, (World.cell?_setCell_other _ _ _ _ (by simp)).trans p2, by simp [pz0], by simp [pz1], by simp [pz2]⟩
  have ⟨t0, t1, t2⟩ := B'.set (.bool s) (.slice a3 n c3) (.int .i64 x)
  refine bodyPost_ret (v := .agg #[.bool s, .slice a3 n c3, .int .i64 x]) (by simp [results, Tryd.results61, go_sem, t0, t1, t2]) rfl ⟨a3, c3, rfl, ?_, (((hW.setCell (by simp) _).setCell (by simp) _).setCell (by simp) _).setCell (by simp) _⟩
  refine Fr.mono (Fr.setCell (Fr.setCell (Fr.setCell (Fr.setCell hF ?_ _) ?_ _) ?_ _) ?_ _) (by omega : w.heap.size ≤ w.heap.size + 2) <;> simp

set_option maxHeartbeats 800000 in
set_option maxRecDepth 100000 in
theorem refTwin_any (ao : Option Addr) (n c : Nat) (xs : List Nat) (w : World) (h : Sl w ao n c xs) (hn : n ≤ 35184372088832) :
    Calls Tryd.prog 63 #[.agg #[.slice ao n c]] w fun e w' => ∃ a3 c3, e = .returned (.agg #[.slice a3 n c3]) ∧ Fr 55 w' w.heap.size a3 n c3 xs ∧ Below w.heap.size w w' := by
  obtain ⟨i0, hi0, hz0, hz1, hz2⟩ := info_parts u32_infoL
  go_enter Tryd.func63, Tryd.ntmps63
  go_wp2_with (first
    | (at_builtin; refine wpList_append_sl _ rfl (.tmp 4) (.tmp 6) _ rfl (w.heap.size + 2) 55 i0 _ Tryd.underlying22 hi0 hz0 hz1 hz2 rfl (.slice none 0 0) 0 [] rfl (World.ownsRow_nil _ _ _ _) ao n c xs rfl ((h.alloc _).alloc _) (by omega) (by simp) ?_; intro v1 w1 hown1 hg1 hat1; have hbA := (Below.refl _ _).grown hg1 (Nat.le_refl _) (by simp [Value.ownBlock]); obtain ⟨a3, c3, rfl, hF⟩ := fr_own_any hown1 (ok_append ok_nil h.ok); simp only [Nat.zero_add, List.nil_append] at hF ⊢; have B := (box1_new _ _ _).stay hbA; rw [World.size_alloc] at B; have ⟨p0, pz0⟩ := B; have hW := next (more (more (Below.refl _ _) _) _) hbA; have l2 := B.lt)
    | (go_at_call 65; refine (refNat_any _ a3 n c3 rfl _).mono ?_; rintro e w3 ⟨rfl, hb3⟩; replace hW := next hW hb3; replace B := B.stay hb3; replace hF := hF.below hb3; have ⟨b0, bz⟩ := B))
  refine bodyPost_ret (v := .agg #[.slice a3 n c3]) (by simp [results, Tryd.results63, go_sem, B.set]) rfl ⟨a3, c3, rfl, (hF.setCell (by simp) _).mono (by omega), hW.setCell (by simp) _⟩

set_option maxHeartbeats 800000 in
set_option maxRecDepth 100000 in
theorem rfTwin_any (s : Bool) (ao : Option Addr) (n c : Nat) (x : Int) (xs : List Nat) (w : World) (h : Sl w ao n c xs) (hn : n ≤ 35184372088832) :
    Calls Tryd.prog 29 #[.agg #[.bool s, .slice ao n c, .int .i64 x]] w (Twn s x w n xs) := by
  go_enter Tryd.func29, Tryd.ntmps29
  go_wp2_with (go_at_call 63; refine (refTwin_any ao n c xs _ ((h.alloc _).alloc _) hn).mono ?_; rintro e w1 ⟨a3, c3, rfl, hF, hb1⟩; have A := ((box3_new w _ _ _ _).alloc _).stay hb1; have B := (box3_new _ _ _ _ _).stay hb1; rw [World.size_alloc] at B; have ⟨q0, q1, q2, qz0, qz1, qz2⟩ := A; have ⟨p0, p1, p2, pz0, pz1, pz2⟩ := B; have hW := next (more (more (Below.refl _ _) _) _) hb1; have l1 := A.lt; have l2 := B.lt)
  have B' : Box3 (w1.setCell ⟨w.heap.size, 1, none⟩ (.slice a3 n c3)) (w.heap.size + 1) (.bool false) (.slice none 0 0) (.int .i64 0) := ⟨(World.cell?_setCell_other _ _ _ _ (by simp)).trans p0, (World.cell?_setCell_other _ _ _ _ (by simp)).trans p1, (World.cell?_setCell_other _ _ _ _ (by simp)).trans p2, by simp [pz0], by simp [pz1], by simp [pz2]⟩
  have ⟨t0, t1, t2⟩ := B'.set (.bool s) (.slice a3 n c3) (.int .i64 x)
  refine bodyPost_ret (v := .agg #[.bool s, .slice a3 n c3, .int .i64 x]) (by simp [results, Tryd.results29, go_sem, t0, t1, t2]) rfl ⟨a3, c3, rfl, ?_, (((hW.setCell (by simp) _).setCell (by simp) _).setCell (by simp) _).setCell (by simp) _⟩
  refine Fr.mono (Fr.setCell (Fr.setCell (Fr.setCell (Fr.setCell hF ?_ _) ?_ _) ?_ _) ?_ _) (by simp; omega : w.heap.size ≤ _) <;> (simp; try omega)

end Go.Proofs.YtnokabglkmiidaaDoor
