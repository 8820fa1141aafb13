/-
  The reference's Reach (numeralref06): where it refuses.
-/
import Derived.Test.YtfjgmpfpadfknaaGreatDoorQNbBase
import Derived.Test.YtfjgmpfpadfknaaGreatDoorQCNearRf
namespace Go.Proofs.YtfjgmpfpadfknaaGreatDoor

open Go.RowKit Go.Lb

attribute [local go_sem] Go.World.cell?_alloc_some

set_option maxRecDepth 100000 in
set_option maxHeartbeats 4000000 in
theorem rreach6_no (e f : Int) (b m : Nat) (w : World) (hb : b < 18446744073709551616) (hm : m < 256) (hE : rcE e f b m ≠ 0) :
    Calls Tryz.prog 12 #[.agg #[.int .i64 e, .int .i64 f], .int .u64 (b : Int), .int .u8 (m : Int)] w fun en w' => en = .returned (.tuple #[.agg #[.bool false, .slice none 0 0, .slice none 0 0], .agg #[.bool false, .slice none 0 0, .slice none 0 0], .bool false, .bool false, .int .i64 (rcE e f b m)]) ∧ Below w.heap.size w w' := by
  obtain ⟨W2, hW2⟩ : ∃ W2 : World, W2 = ((w.alloc (.cells #[.int .i64 e, .int .i64 f] 23)).alloc (.cells #[.bool false, .slice none 0 0, .slice none 0 0] 30)).alloc (.cells #[.bool false, .slice none 0 0, .slice none 0 0] 30) := ⟨_, rfl⟩
  have hb2 : Below w.heap.size w W2 := hW2 ▸ more (more (more (Below.refl _ _) _) _) _
  have F2 : Box2 W2 w.heap.size (.int .i64 e) (.int .i64 f) := by
    rw [hW2]; exact ((box2_new w _ _ _).alloc _).alloc _
  have R2 : Box3 W2 (w.heap.size + 1) (.bool false) (.slice none 0 0) (.slice none 0 0) := by
    have := (box3_new (w.alloc (.cells #[.int .i64 e, .int .i64 f] 23)) (.bool false) (.slice none 0 0) (.slice none 0 0) 30).alloc (.cells #[.bool false, .slice none 0 0, .slice none 0 0] 30)
    rw [World.size_alloc] at this
    exact hW2 ▸ this
  have S2 : Box3 W2 (w.heap.size + 1 + 1) (.bool false) (.slice none 0 0) (.slice none 0 0) := by
    have := box3_new ((w.alloc (.cells #[.int .i64 e, .int .i64 f] 23)).alloc (.cells #[.bool false, .slice none 0 0, .slice none 0 0] 30)) (.bool false) (.slice none 0 0) (.slice none 0 0) 30
    rw [World.size_alloc, World.size_alloc] at this
    exact hW2 ▸ this
  have cF := fun W => refFits3_any e f b W hb
  have fin : ∀ W x, Below w.heap.size w W → Box3 W (w.heap.size + 1) (.bool false) (.slice none 0 0) (.slice none 0 0) → Box3 W (w.heap.size + 1 + 1) (.bool false) (.slice none 0 0) (.slice none 0 0) → x = rcE e f b m →
      Box3 ((((((W.setCell ⟨w.heap.size + 1, 0, none⟩ (.bool false)).setCell ⟨w.heap.size + 1, 1, none⟩ (.slice none 0 0)).setCell ⟨w.heap.size + 1, 2, none⟩ (.slice none 0 0)).setCell ⟨w.heap.size + 1 + 1, 0, none⟩ (.bool false)).setCell ⟨w.heap.size + 1 + 1, 1, none⟩ (.slice none 0 0)).setCell ⟨w.heap.size + 1 + 1, 2, none⟩ (.slice none 0 0)) (w.heap.size + 1) (.bool false) (.slice none 0 0) (.slice none 0 0) ∧
      Box3 ((((((W.setCell ⟨w.heap.size + 1, 0, none⟩ (.bool false)).setCell ⟨w.heap.size + 1, 1, none⟩ (.slice none 0 0)).setCell ⟨w.heap.size + 1, 2, none⟩ (.slice none 0 0)).setCell ⟨w.heap.size + 1 + 1, 0, none⟩ (.bool false)).setCell ⟨w.heap.size + 1 + 1, 1, none⟩ (.slice none 0 0)).setCell ⟨w.heap.size + 1 + 1, 2, none⟩ (.slice none 0 0)) (w.heap.size + 1 + 1) (.bool false) (.slice none 0 0) (.slice none 0 0) ∧
      Below w.heap.size w ((((((W.setCell ⟨w.heap.size + 1, 0, none⟩ (.bool false)).setCell ⟨w.heap.size + 1, 1, none⟩ (.slice none 0 0)).setCell ⟨w.heap.size + 1, 2, none⟩ (.slice none 0 0)).setCell ⟨w.heap.size + 1 + 1, 0, none⟩ (.bool false)).setCell ⟨w.heap.size + 1 + 1, 1, none⟩ (.slice none 0 0)).setCell ⟨w.heap.size + 1 + 1, 2, none⟩ (.slice none 0 0)) := fun W x V R S _ =>
    ⟨set3_other (box3_put R (.bool false) (.slice none 0 0) (.slice none 0 0)) (show w.heap.size + 1 ≠ w.heap.size + 1 + 1 by omega) (.bool false) (.slice none 0 0) (.slice none 0 0),
     box3_put (set3_other S (show w.heap.size + 1 + 1 ≠ w.heap.size + 1 by omega) (.bool false) (.slice none 0 0) (.slice none 0 0)) (.bool false) (.slice none 0 0) (.slice none 0 0),
     (((((V.setCell (by simp) _).setCell (by simp) _).setCell (by simp) _).setCell (by simp; omega) _).setCell (by simp; omega) _).setCell (by simp; omega) _⟩
  have ⟨f0, f1⟩ := F2
  by_cases h0 : fitsE e f b = 0
  · have hcase : (4 < m ∧ rcE e f b m = 7) ∨ (¬ 4 < m ∧ rcE e f b m = 8 ∧ ∃ E F : Nat, e = (E : Int) ∧ f = (F : Int) ∧ formE (E : Int) (F : Int) = 0 ∧ b < pw (1 + E + F) ∧ exN E F b = maskN E) := by
      unfold rcE at hE ⊢
      rw [if_neg (by simp [h0])] at hE ⊢
      by_cases h1 : 4 < m
      · rw [if_pos h1]; exact .inl ⟨h1, rfl⟩
      · rw [if_neg h1] at hE ⊢
        obtain ⟨hf, hp⟩ := fitsE_parts h0
        obtain ⟨q1, q2, q3, q4⟩ := formE_ok hf
        obtain ⟨E, rfl⟩ := Int.eq_ofNat_of_zero_le (by omega : 0 ≤ e)
        obtain ⟨F, rfl⟩ := Int.eq_ofNat_of_zero_le (by omega : 0 ≤ f)
        unfold fnE at hE ⊢
        rw [askL_one, anI_one, if_neg (by simp [h0])] at hE ⊢
        by_cases hx : exN E F b = maskN E
        · right
          refine ⟨h1, ?_, E, F, rfl, rfl, hf, hp, hx⟩
          simp [hx]
        · simp [hx] at hE
    rw [h0] at cF
    rcases hcase with ⟨h1, h2⟩ | ⟨h1, h2, E, F, rfl, rfl, hf, hp, hx⟩
    · rw [h2]
      have hmI : (4 : Int) < (m : Int) := by omega
      clear h1 hE
      go_enter Tryz.func12, Tryz.ntmps12
      go_upto_region 1 with fail
      rw [← hW2]
      clear hW2
      go_wp2_with fail
      refine (cF W2).mono ?_
      rintro en w3 ⟨rfl, hb3⟩
      have R3 := R2.stay hb3
      have S3 := S2.stay hb3
      obtain ⟨⟨t0, t1, t2, _, _, _⟩, ⟨t3, t4, t5, _, _, _⟩, VZ⟩ := fin w3 _ (next hb2 hb3) R3 S3 h2.symm
      have ⟨r0, r1, r2, r3, r4, r5⟩ := R3
      have ⟨s0, s1, s2, s3, s4, s5⟩ := S3
      clear fin cF f0 f1
      go_wp2
      exact bodyPost_ret (v := .tuple #[.agg #[.bool false, .slice none 0 0, .slice none 0 0], .agg #[.bool false, .slice none 0 0, .slice none 0 0], .bool false, .bool false, .int .i64 7]) (by simp [results, Tryz.results12, go_sem, t0, t1, t2, t3, t4, t5]) rfl ⟨rfl, VZ⟩
    · rw [h2]
      have hmI : ¬ (4 : Int) < (m : Int) := by omega
      have cX := fun W => refFinite3_any E F b W hf hb hp
      rw [decide_eq_false (fun h => h hx)] at cX
      clear h1 hE hx
      go_enter Tryz.func12, Tryz.ntmps12
      go_upto_region 1 with fail
      rw [← hW2]
      clear hW2
      go_wp2_with fail
      refine (cF W2).mono ?_
      rintro en w3 ⟨rfl, hb3⟩
      have F3 := F2.stay hb3
      clear f0 f1 cF
      have ⟨f0, f1⟩ := F3
      go_wp2_with fail
      refine (cX w3).mono ?_
      rintro en w4 ⟨rfl, hb4⟩
      have hb34 := next hb3 hb4
      have R3 := R2.stay hb34
      have S3 := S2.stay hb34
      obtain ⟨⟨t0, t1, t2, _, _, _⟩, ⟨t3, t4, t5, _, _, _⟩, VZ⟩ := fin w4 _ (next hb2 hb34) R3 S3 h2.symm
      have ⟨r0, r1, r2, r3, r4, r5⟩ := R3
      have ⟨s0, s1, s2, s3, s4, s5⟩ := S3
      clear fin cX f0 f1
      go_wp2
      exact bodyPost_ret (v := .tuple #[.agg #[.bool false, .slice none 0 0, .slice none 0 0], .agg #[.bool false, .slice none 0 0, .slice none 0 0], .bool false, .bool false, .int .i64 8]) (by simp [results, Tryz.results12, go_sem, t0, t1, t2, t3, t4, t5]) rfl ⟨rfl, VZ⟩
  · have h2 : rcE e f b m = fitsE e f b := if_pos h0
    rw [h2]
    generalize fitsE e f b = T at *
    have hT0 : (T == 0) = false := by simpa using h0
    have hT1 : (T != 0) = true := by simpa using h0
    clear hE
    go_enter Tryz.func12, Tryz.ntmps12
    go_upto_region 1 with fail
    rw [← hW2]
    clear hW2
    go_wp2_with fail
    refine (cF W2).mono ?_
    rintro en w3 ⟨rfl, hb3⟩
    have R3 := R2.stay hb3
    have S3 := S2.stay hb3
    obtain ⟨⟨t0, t1, t2, _, _, _⟩, ⟨t3, t4, t5, _, _, _⟩, VZ⟩ := fin w3 _ (next hb2 hb3) R3 S3 h2.symm
    have ⟨r0, r1, r2, r3, r4, r5⟩ := R3
    have ⟨s0, s1, s2, s3, s4, s5⟩ := S3
    clear fin cF f0 f1 h2
    go_wp2
    exact bodyPost_ret (v := .tuple #[.agg #[.bool false, .slice none 0 0, .slice none 0 0], .agg #[.bool false, .slice none 0 0, .slice none 0 0], .bool false, .bool false, .int .i64 T]) (by simp [results, Tryz.results12, go_sem, t0, t1, t2, t3, t4, t5]) rfl ⟨rfl, VZ⟩

end Go.Proofs.YtfjgmpfpadfknaaGreatDoor

