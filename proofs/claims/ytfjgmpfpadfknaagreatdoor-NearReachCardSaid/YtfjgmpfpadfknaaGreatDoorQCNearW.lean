/-
  near.Reach where it refuses: the walk.
-/
import Derived.Test.YtfjgmpfpadfknaaGreatDoorQNbBase
namespace Go.Proofs.YtfjgmpfpadfknaaGreatDoor

open Go.RowKit Go.Lb

attribute [local go_sem] Go.World.cell?_alloc_some

/-- Why Reach refuses. -/
def rcE (e f : Int) (b m : Nat) : Int := if fitsE e f b ≠ 0 then fitsE e f b else if 4 < m then 7 else fnE e f [b]

theorem rc_ok {e f : Int} {b m : Nat} (h : rcE e f b m = 0) : ∃ E F : Nat, e = (E : Int) ∧ f = (F : Int) ∧ fitsE (E : Int) (F : Int) b = 0 ∧ exN E F b ≠ maskN E ∧ m < 5 := by
  unfold rcE at h
  by_cases h0 : fitsE e f b = 0
  · rw [if_neg (by simp [h0])] at h
    by_cases h1 : 4 < m
    · rw [if_pos h1] at h; cases h
    · rw [if_neg h1] at h
      obtain ⟨_, hx⟩ := fn_ok h
      obtain ⟨hf, _⟩ := fitsE_parts h0
      obtain ⟨q1, q2, q3, q4⟩ := formE_ok hf
      obtain ⟨E, rfl⟩ := Int.eq_ofNat_of_zero_le (by omega : 0 ≤ e)
      obtain ⟨F, rfl⟩ := Int.eq_ofNat_of_zero_le (by omega : 0 ≤ f)
      exact ⟨E, F, rfl, rfl, h0, hx, by omega⟩
  · rw [if_pos h0] at h
    exact absurd h h0

set_option maxRecDepth 100000 in
set_option maxHeartbeats 4000000 in
theorem nearReach_no (e f : Int) (b m : Nat) (w : World) (hb : b < 18446744073709551616) (hm : m < 256) (hE : rcE e f b m ≠ 0) :
    Calls Tryz.prog 11 #[.agg #[.int .i64 e, .int .i64 f], .int .u64 (b : Int), .int .u8 (m : Int)] w fun en w' => en = .returned (.tuple #[.agg #[.bool false, .slice none 0 0, .slice none 0 0], .agg #[.bool false, .slice none 0 0, .slice none 0 0], .bool false, .bool false, .int .i64 (rcE e f b m)]) ∧ Below w.heap.size w w' := by
  obtain ⟨W2, hW2⟩ : ∃ W2 : World, W2 = ((w.alloc (.cells #[.int .i64 e, .int .i64 f] 23)).alloc (.cells #[.bool false, .slice none 0 0, .slice none 0 0] 30)).alloc (.cells #[.bool false, .slice none 0 0, .slice none 0 0] 30) := ⟨_, rfl⟩
  have hb2 : Below w.heap.size w W2 := hW2 ▸ more (more (more (Below.refl _ _) _) _) _
  have F2 : Box2 W2 w.heap.size (.int .i64 e) (.int .i64 f) := by
    rw [hW2]; exact ((box2_new w _ _ _).alloc _).alloc _
  have R2 : Box3 W2 (w.heap.size + 1) (.bool false) (.slice none 0 0) (.slice none 0 0) := by
    have := (box3_new (w.alloc (.cells #[.int .i64 e, .int .i64 f] 23)) (.bool false) (.slice none 0 0) (.slice none 0 0) 30).alloc (.cells #[.bool false, .slice none 0 0, .slice none 0 0] 30)
    rw [World.size_alloc] at this
    exact hW2 ▸ this
  have S2 : Box3 W2 (w.heap.size + 1 + 1) (.bool false) (.slice none 0 0) (.slice none 0 0) := by
    have := box3_new ((w.alloc (.cells #[.int .i64 e, .int .i64 f] 23)).alloc (.cells #[.bool false, .slice none 0 0, .slice none 0 0] 30)) (.bool false) (.slice none 0 0) (.slice none 0 0) 30
    rw [World.size_alloc, World.size_alloc] at this
    exact hW2 ▸ this
  obtain ⟨W3, hW3⟩ : ∃ W3 : World, W3 = W2.alloc (.cells #[.int .u64 (b : Int)] 24) := ⟨_, rfl⟩
  have hb3 : Below W2.heap.size W2 W3 := hW3 ▸ more (Below.refl _ _) _
  have v0 : W3.cell? ⟨W2.heap.size, 0, none⟩ = some (.int .u64 (b : Int)) := by rw [hW3]; simp
  have cN := nearNumber_any W2.heap.size e f [b] W3 (by simp) (by simp) (one_cells hb v0)
  rw [askL_one, anN_one] at cN
  replace cN : Calls Tryz.prog 47 #[.agg #[.int .i64 e, .int .i64 f], .slice (some ⟨W2.heap.size, 0, none⟩) 1 1] W3 fun en w' => en = .returned (.tuple #[.int .i64 (fitsE e f b), .bool (decide (fitsE e f b = 0) && !nanB e.toNat f.toNat b)]) ∧ Below W3.heap.size W3 w' := cN
  have cF := fun P W (v : W.cell? ⟨P, 0, none⟩ = some (.int .u64 (b : Int))) => nearFinite_any P e f [b] W (by simp) (by simp) (one_cells hb v)
  replace cF : ∀ P W, W.cell? ⟨P, 0, none⟩ = some (.int .u64 (b : Int)) → Calls Tryz.prog 48 #[.agg #[.int .i64 e, .int .i64 f], .slice (some ⟨P, 0, none⟩) 1 1] W fun en w' => en = .returned (.int .i64 (fnE e f [b])) ∧ Below W.heap.size W w' := cF
  generalize (decide (fitsE e f b = 0) && !nanB e.toNat f.toNat b) = nn at cN
  unfold rcE at hE ⊢
  by_cases h0 : fitsE e f b = 0
  · rw [if_neg (by simp [h0])] at hE ⊢
    rw [h0] at cN
    clear h0
    by_cases h1 : 4 < m
    · rw [if_pos h1]
      have hmI : (4 : Int) < (m : Int) := by omega
      clear cF hE h1
      have ⟨f0, f1⟩ := F2
      go_enter Tryz.func11, Tryz.ntmps11
      go_upto_region 1 with fail
      rw [← hW2]
      clear hW2
      go_wp2_with fail
      rw [← hW3]
      refine cN.mono ?_
      rintro en w4 ⟨rfl, hb4⟩
      have hs4 := next hb3 hb4
      have R4 := R2.stay hs4
      have S4 := S2.stay hs4
      have V4 := next hb2 hs4
      have ⟨r0, r1, r2, r3, r4, r5⟩ := R4
      have ⟨s0, s1, s2, s3, s4, s5⟩ := S4
      clear f0 f1 cN
      go_wp2
      have y6 := set3_other (box3_put R4 (.bool false) (.slice none 0 0) (.slice none 0 0)) (show w.heap.size + 1 ≠ w.heap.size + 1 + 1 by omega) (.bool false) (.slice none 0 0) (.slice none 0 0)
      have y7 := box3_put (set3_other S4 (show w.heap.size + 1 + 1 ≠ w.heap.size + 1 by omega) (.bool false) (.slice none 0 0) (.slice none 0 0)) (.bool false) (.slice none 0 0) (.slice none 0 0)
      have ⟨t0, t1, t2, _, _, _⟩ := y6
      have ⟨t3, t4, t5, _, _, _⟩ := y7
      refine bodyPost_ret (v := .tuple #[.agg #[.bool false, .slice none 0 0, .slice none 0 0], .agg #[.bool false, .slice none 0 0, .slice none 0 0], .bool false, .bool false, .int .i64 7]) (by simp [results, Tryz.results11, go_sem, t0, t1, t2, t3, t4, t5]) rfl ⟨rfl, ?_⟩
      exact (((((V4.setCell (by simp) _).setCell (by simp) _).setCell (by simp) _).setCell (by simp; omega) _).setCell (by simp; omega) _).setCell (by simp; omega) _
    · rw [if_neg h1] at hE ⊢
      have hmI : ¬ (4 : Int) < (m : Int) := by omega
      generalize fnE e f [b] = T at *
      clear h1
      have ⟨f0, f1⟩ := F2
      go_enter Tryz.func11, Tryz.ntmps11
      go_upto_region 1 with fail
      rw [← hW2]
      clear hW2
      go_wp2_with fail
      rw [← hW3]
      refine cN.mono ?_
      rintro en w4 ⟨rfl, hb4⟩
      have hs4 := next hb3 hb4
      have F4 := F2.stay hs4
      have R4 := R2.stay hs4
      have S4 := S2.stay hs4
      have V4 := next hb2 hs4
      clear F2 R2 S2 hb2 hb3 hb4 hs4 cN f0 f1 v0 hW3
      have ⟨f0, f1⟩ := F4
      obtain ⟨W5, hW5⟩ : ∃ W5 : World, W5 = w4.alloc (.cells #[.int .u64 (b : Int)] 24) := ⟨_, rfl⟩
      have hb5 : Below w4.heap.size w4 W5 := hW5 ▸ more (Below.refl _ _) _
      have v5 : W5.cell? ⟨w4.heap.size, 0, none⟩ = some (.int .u64 (b : Int)) := by rw [hW5]; simp
      go_wp2_with fail
      rw [← hW5]
      refine (cF w4.heap.size W5 v5).mono ?_
      rintro en w6 ⟨rfl, hb6⟩
      have hs6 := next hb5 hb6
      have R6 := R4.stay hs6
      have S6 := S4.stay hs6
      have V6 := next V4 hs6
      clear f0 f1 v5 cF hW5
      have ⟨r0, r1, r2, r3, r4, r5⟩ := R6
      have ⟨s0, s1, s2, s3, s4, s5⟩ := S6
      go_wp2
      have y6 := set3_other (box3_put R6 (.bool false) (.slice none 0 0) (.slice none 0 0)) (show w.heap.size + 1 ≠ w.heap.size + 1 + 1 by omega) (.bool false) (.slice none 0 0) (.slice none 0 0)
      have y7 := box3_put (set3_other S6 (show w.heap.size + 1 + 1 ≠ w.heap.size + 1 by omega) (.bool false) (.slice none 0 0) (.slice none 0 0)) (.bool false) (.slice none 0 0) (.slice none 0 0)
      have ⟨t0, t1, t2, _, _, _⟩ := y6
      have ⟨t3, t4, t5, _, _, _⟩ := y7
      refine bodyPost_ret (v := .tuple #[.agg #[.bool false, .slice none 0 0, .slice none 0 0], .agg #[.bool false, .slice none 0 0, .slice none 0 0], .bool false, .bool false, .int .i64 T]) (by simp [results, Tryz.results11, go_sem, t0, t1, t2, t3, t4, t5]) rfl ⟨rfl, ?_⟩
      exact (((((V6.setCell (by simp) _).setCell (by simp) _).setCell (by simp) _).setCell (by simp; omega) _).setCell (by simp; omega) _).setCell (by simp; omega) _
  · rw [if_pos h0]
    generalize fitsE e f b = T at *
    clear cF hE
    have ⟨f0, f1⟩ := F2
    go_enter Tryz.func11, Tryz.ntmps11
    go_upto_region 1 with fail
    rw [← hW2]
    clear hW2
    go_wp2_with fail
    rw [← hW3]
    refine cN.mono ?_
    rintro en w4 ⟨rfl, hb4⟩
    have hs4 := next hb3 hb4
    have R4 := R2.stay hs4
    have S4 := S2.stay hs4
    have V4 := next hb2 hs4
    have ⟨r0, r1, r2, r3, r4, r5⟩ := R4
    have ⟨s0, s1, s2, s3, s4, s5⟩ := S4
    clear f0 f1 cN
    go_wp2
    have y6 := set3_other (box3_put R4 (.bool false) (.slice none 0 0) (.slice none 0 0)) (show w.heap.size + 1 ≠ w.heap.size + 1 + 1 by omega) (.bool false) (.slice none 0 0) (.slice none 0 0)
    have y7 := box3_put (set3_other S4 (show w.heap.size + 1 + 1 ≠ w.heap.size + 1 by omega) (.bool false) (.slice none 0 0) (.slice none 0 0)) (.bool false) (.slice none 0 0) (.slice none 0 0)
    have ⟨t0, t1, t2, _, _, _⟩ := y6
    have ⟨t3, t4, t5, _, _, _⟩ := y7
    refine bodyPost_ret (v := .tuple #[.agg #[.bool false, .slice none 0 0, .slice none 0 0], .agg #[.bool false, .slice none 0 0, .slice none 0 0], .bool false, .bool false, .int .i64 T]) (by simp [results, Tryz.results11, go_sem, t0, t1, t2, t3, t4, t5]) rfl ⟨rfl, ?_⟩
    exact (((((V4.setCell (by simp) _).setCell (by simp) _).setCell (by simp) _).setCell (by simp; omega) _).setCell (by simp; omega) _).setCell (by simp; omega) _

end Go.Proofs.YtfjgmpfpadfknaaGreatDoor

