/-
  The walks of forms.Split of bits that may not be, and of forms.Class.
-/
import Derived.Test.YtnokabglkmiidaaDoorSplit
namespace Go.Proofs.YtnokabglkmiidaaDoor
open Go.RowKit Go.Lb

set_option maxRecDepth 100000 in
set_option maxHeartbeats 800000 in
theorem split_no (e f : Int) (b : Nat) (w : World) (h : fitsE e f b ≠ 0) (hb : b < 18446744073709551616) :
    Calls Tryd.prog 47 #[.agg #[.int .i64 e, .int .i64 f], .int .u64 b] w fun en w' => en = .returned (.tuple #[.agg #[.bool false, .int .i64 0, .int .u64 0], .int .i64 (fitsE e f b)]) ∧ Below w.heap.size w w' := by
  have hz : (fitsE e f b != 0) = true := by simp [h]
  clear h
  go_enter Tryd.func47, Tryd.ntmps47
  go_wp2_with (go_at_call 72; refine (fits_any e f b _ hb).mono ?_; rintro en w1 ⟨rfl, hb1⟩; have B := (box3_new _ _ _ _ _).stay hb1; rw [World.size_alloc] at B; have ⟨b0, b1, b2, z0, z1, z2⟩ := B; have hW := next (more (more (Below.refl _ _) _) _) hb1)
  obtain ⟨t0, t1, t2⟩ := B.set (.bool false) (.int .i64 0) (.int .u64 0)
  refine bodyPost_ret (v := .tuple #[.agg #[.bool false, .int .i64 0, .int .u64 0], .int .i64 (fitsE e f b)]) (by simp [results, Tryd.results47, go_sem, t0, t1, t2]) rfl ⟨rfl, ((hW.setCell (by simp) _).setCell (by simp) _).setCell (by simp) _⟩

/-- A float's class: nought, subnormal, normal, infinite, none. -/
def classN (e ex fr : Nat) : Nat := if ex = 0 then (if fr = 0 then 1 else 2) else if ex = maskN e then (if fr = 0 then 4 else 5) else 3

theorem exN_lt (e f b : Nat) : exN e f b < pw e := takeN_lt b f e
theorem maskN_lt11 {e : Nat} (h : e ≤ 11) : maskN e ≤ 2047 := by
  have := pw_le h
  have e11 : pw 11 = 2048 := by unfold pw; rfl
  rw [maskN_eq]; omega

set_option maxRecDepth 100000 in
set_option maxHeartbeats 2000000 in
theorem class_any (e f b : Nat) (w : World) (h : formE (e : Int) (f : Int) = 0) (hb : b < 18446744073709551616) (hp : b < pw (1 + e + f)) :
    Calls Tryd.prog 48 #[.agg #[.int .i64 e, .int .i64 f], .int .u64 b] w fun en w' => en = .returned (.tuple #[.int .u8 (classN e (exN e f b) (frN f b)), .int .i64 0]) ∧ Below w.heap.size w w' := by
  obtain ⟨h1, h2, h3, h4⟩ := formE_ok h
  have g2 : e ≤ 11 := by omega
  have hm := maskN_lt11 g2
  have hex : exN e f b ≤ 2047 := by have := exN_lt e f b; have := pw_le g2; have e11 : pw 11 = 2048 := (by unfold pw; rfl); omega
  have hw : IntKind.u64.wrap (exN e f b : Int) = (exN e f b : Int) := IntWalk.u64_in _ (by omega)
  have sp := split_any e f b
  obtain ⟨ex, hexd⟩ : ∃ ex, ex = exN e f b := ⟨_, rfl⟩
  obtain ⟨fr, hfrd⟩ : ∃ fr, fr = frN f b := ⟨_, rfl⟩
  rw [← hexd, ← hfrd] at sp
  rw [← hexd] at hex hw
  rw [← hexd, ← hfrd]
  clear hexd hfrd
  have way : ∀ k : Nat, classN e ex fr = k → (ex = 0 ∧ fr = 0 ∧ k = 1 ∨ ex = 0 ∧ fr ≠ 0 ∧ k = 2 ∨ ex ≠ 0 ∧ ex = maskN e ∧ fr = 0 ∧ k = 4 ∨ ex ≠ 0 ∧ ex = maskN e ∧ fr ≠ 0 ∧ k = 5 ∨ ex ≠ 0 ∧ ex ≠ maskN e ∧ k = 3) := fun k hk => by
    unfold classN at hk
    by_cases c1 : ex = 0
    · by_cases c2 : fr = 0
      · rw [if_pos c1, if_pos c2] at hk; omega
      · rw [if_pos c1, if_neg c2] at hk; omega
    · by_cases c3 : ex = maskN e
      · by_cases c2 : fr = 0
        · rw [if_neg c1, if_pos c3, if_pos c2] at hk; omega
        · rw [if_neg c1, if_pos c3, if_neg c2] at hk; omega
      · rw [if_neg c1, if_neg c3] at hk; omega
  obtain ⟨k, hk⟩ : ∃ k, k = classN e ex fr := ⟨_, rfl⟩
  have wy := way k hk.symm
  rw [← hk]
  clear way hk
  rcases wy with ⟨c1, c2, rfl⟩ | ⟨c1, c2, rfl⟩ | ⟨c1, c2, c3, rfl⟩ | ⟨c1, c2, c3, rfl⟩ | ⟨c1, c2, rfl⟩
  all_goals
    have hx0 : ((ex : Int) == 0) = decide (ex = 0) := by rw [Bool.eq_iff_iff]; simp
    have hxm : ((ex : Int) == (maskN e : Int)) = decide (ex = maskN e) := by rw [Bool.eq_iff_iff]; simp; omega
    have hf0 : ((fr : Int) == 0) = decide (fr = 0) := by rw [Bool.eq_iff_iff]; simp
  · rw [decide_eq_true c1] at hx0
    rw [decide_eq_true c2] at hf0
    clear hxm c1 c2
    go_enter Tryd.func48, Tryd.ntmps48
    go_wp2_with (first
      | (go_at_call 47; refine (sp _ h hb hp).mono ?_; rintro en w1 ⟨rfl, hb1⟩; have A := (box2_new w (.int .i64 (e : Int)) (.int .i64 (f : Int)) 40).stay hb1; have ⟨a0, a1⟩ := A; have hl := A.lt; have hW := next (more (Below.refl _ _) _) hb1)
      | (go_at_call 75; refine (mask_any e _ (by omega)).mono ?_; rintro en w2 ⟨rfl, rfl⟩))
    go_ret2
    exact ⟨rfl, more hW _⟩
  · rw [decide_eq_true c1] at hx0
    rw [decide_eq_false c2] at hf0
    clear hxm c1 c2
    go_enter Tryd.func48, Tryd.ntmps48
    go_wp2_with (first
      | (go_at_call 47; refine (sp _ h hb hp).mono ?_; rintro en w1 ⟨rfl, hb1⟩; have A := (box2_new w (.int .i64 (e : Int)) (.int .i64 (f : Int)) 40).stay hb1; have ⟨a0, a1⟩ := A; have hl := A.lt; have hW := next (more (Below.refl _ _) _) hb1)
      | (go_at_call 75; refine (mask_any e _ (by omega)).mono ?_; rintro en w2 ⟨rfl, rfl⟩))
    go_ret2
    exact ⟨rfl, more hW _⟩
  · rw [decide_eq_false c1] at hx0
    rw [decide_eq_true c2] at hxm
    rw [decide_eq_true c3] at hf0
    clear c1 c2 c3
    go_enter Tryd.func48, Tryd.ntmps48
    go_wp2_with (first
      | (go_at_call 47; refine (sp _ h hb hp).mono ?_; rintro en w1 ⟨rfl, hb1⟩; have A := (box2_new w (.int .i64 (e : Int)) (.int .i64 (f : Int)) 40).stay hb1; have ⟨a0, a1⟩ := A; have hl := A.lt; have hW := next (more (Below.refl _ _) _) hb1)
      | (go_at_call 75; refine (mask_any e _ (by omega)).mono ?_; rintro en w2 ⟨rfl, rfl⟩))
    go_ret2
    exact ⟨rfl, more hW _⟩
  · rw [decide_eq_false c1] at hx0
    rw [decide_eq_true c2] at hxm
    rw [decide_eq_false c3] at hf0
    clear c1 c2 c3
    go_enter Tryd.func48, Tryd.ntmps48
    go_wp2_with (first
      | (go_at_call 47; refine (sp _ h hb hp).mono ?_; rintro en w1 ⟨rfl, hb1⟩; have A := (box2_new w (.int .i64 (e : Int)) (.int .i64 (f : Int)) 40).stay hb1; have ⟨a0, a1⟩ := A; have hl := A.lt; have hW := next (more (Below.refl _ _) _) hb1)
      | (go_at_call 75; refine (mask_any e _ (by omega)).mono ?_; rintro en w2 ⟨rfl, rfl⟩))
    go_ret2
    exact ⟨rfl, more hW _⟩
  · rw [decide_eq_false c1] at hx0
    rw [decide_eq_false c2] at hxm
    clear hf0 c1 c2
    go_enter Tryd.func48, Tryd.ntmps48
    go_wp2_with (first
      | (go_at_call 47; refine (sp _ h hb hp).mono ?_; rintro en w1 ⟨rfl, hb1⟩; have A := (box2_new w (.int .i64 (e : Int)) (.int .i64 (f : Int)) 40).stay hb1; have ⟨a0, a1⟩ := A; have hl := A.lt; have hW := next (more (Below.refl _ _) _) hb1)
      | (go_at_call 75; refine (mask_any e _ (by omega)).mono ?_; rintro en w2 ⟨rfl, rfl⟩))
    go_ret2
    exact ⟨rfl, more hW _⟩

end Go.Proofs.YtnokabglkmiidaaDoor
