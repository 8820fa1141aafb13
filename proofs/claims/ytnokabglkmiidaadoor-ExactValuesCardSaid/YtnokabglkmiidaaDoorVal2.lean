/-
  The walk of exact.Value of what is not finite; exact.Value of any bits of any form.
-/
import Derived.Test.YtnokabglkmiidaaDoorVal
namespace Go.Proofs.YtnokabglkmiidaaDoor
open Go.RowKit Go.Lb

set_option maxRecDepth 100000 in
set_option maxHeartbeats 2000000 in
theorem value_inf (e f b : Nat) (w : World) (h : formE (e : Int) (f : Int) = 0) (hb : b < 18446744073709551616) (hp : b < pw (1 + e + f)) (hxm : exN e f b = maskN e) (hf0 : frN f b = 0) :
    Calls Tryd.prog 14 #[.agg #[.int .i64 e, .int .i64 f], .int .u64 b] w (Valued (e : Int) (f : Int) b w) := by
  obtain ⟨h1, h2, h3, h4⟩ := formE_ok h
  have g1 : 2 ≤ e := by omega
  have g2 : e ≤ 11 := by omega
  have g3 : f ≤ 52 := by omega
  have hx0 : exN e f b ≠ 0 := by
    have := pw_le (show 2 ≤ e by omega)
    rw [show pw 2 = 4 by unfold pw; rfl] at this
    rw [hxm, maskN_eq]
    omega
  have hc : classN e (exN e f b) (frN f b) = 4 := by unfold classN; rw [if_neg hx0, if_pos hxm, if_pos hf0]
  have cl := class_any e f b
  rw [hc] at cl
  have Ho := Lib.hid (val_endless (fitsE_ok h hp) hxm).1
  have He := Lib.hid (val_endless (fitsE_ok h hp) hxm).2
  clear h1 h2 h3 h4 hc hx0 hxm hf0
  go_enter Tryd.func14, Tryd.ntmps14
  go_wp2_with (first
    | (go_at_call 47; refine (split_any e f b _ h hb hp).mono ?_; rintro en w1 ⟨rfl, hb1⟩; have A := ((box2_new w (.int .i64 (e : Int)) (.int .i64 (f : Int)) 40).alloc _).stay hb1; have ⟨a0, a1⟩ := A; have B := (box3_new _ _ _ _ _).stay hb1; rw [World.size_alloc] at B; have ⟨b0, b1, b2, z0, z1, z2⟩ := B; have hl := A.lt; have hl2 := B.lt; have hW := next (more (more (Below.refl _ _) _) _) hb1)
    | (go_at_call 48; refine (cl _ h hb hp).mono ?_; rintro en w2 ⟨rfl, hb2⟩; have P := (box3_new w1 (.bool (sgB e f b)) (.int .i64 (exN e f b : Int)) (.int .u64 (frN f b : Int)) 71).stay hb2; have ⟨p0, p1, p2, _, _, _⟩ := P; replace A := (A.alloc _).stay hb2; have ⟨a0, a1⟩ := A; replace B := (B.alloc _).stay hb2; have ⟨b0, b1, b2, z0, z1, z2⟩ := B; replace hW := next (more hW _) hb2))
  go_quiet (fail)
  go_wp2
  have Bq : Box3 (w2.drewN nq) (w.heap.size + 1) (.bool false) (.slice none 0 0) (.int .i64 0) := B.stay (below_drewN (Below.refl _ _) _)
  obtain ⟨t0, t1, t2⟩ := Bq.set (.bool false) (.slice none 0 0) (.int .i64 0)
  have hWq := drewn hW nq
  refine bodyPost_ret (v := .tuple #[.agg #[.bool false, .slice none 0 0, .int .i64 0], .int .i64 8]) ?_ rfl (valued_none Ho.out He.out (((hWq.setCell (by simp) _).setCell (by simp) _).setCell (by simp) _))
  simp only [results, Tryd.results14]
  simp [go_sem, t0, t1, t2]

set_option maxRecDepth 100000 in
set_option maxHeartbeats 2000000 in
theorem value_nan (e f b : Nat) (w : World) (h : formE (e : Int) (f : Int) = 0) (hb : b < 18446744073709551616) (hp : b < pw (1 + e + f)) (hxm : exN e f b = maskN e) (hf0 : frN f b ≠ 0) :
    Calls Tryd.prog 14 #[.agg #[.int .i64 e, .int .i64 f], .int .u64 b] w (Valued (e : Int) (f : Int) b w) := by
  obtain ⟨h1, h2, h3, h4⟩ := formE_ok h
  have g1 : 2 ≤ e := by omega
  have g2 : e ≤ 11 := by omega
  have g3 : f ≤ 52 := by omega
  have hx0 : exN e f b ≠ 0 := by
    have := pw_le (show 2 ≤ e by omega)
    rw [show pw 2 = 4 by unfold pw; rfl] at this
    rw [hxm, maskN_eq]
    omega
  have hc : classN e (exN e f b) (frN f b) = 5 := by unfold classN; rw [if_neg hx0, if_pos hxm, if_neg hf0]
  have cl := class_any e f b
  rw [hc] at cl
  have Ho := Lib.hid (val_endless (fitsE_ok h hp) hxm).1
  have He := Lib.hid (val_endless (fitsE_ok h hp) hxm).2
  clear h1 h2 h3 h4 hc hx0 hxm hf0
  go_enter Tryd.func14, Tryd.ntmps14
  go_wp2_with (first
    | (go_at_call 47; refine (split_any e f b _ h hb hp).mono ?_; rintro en w1 ⟨rfl, hb1⟩; have A := ((box2_new w (.int .i64 (e : Int)) (.int .i64 (f : Int)) 40).alloc _).stay hb1; have ⟨a0, a1⟩ := A; have B := (box3_new _ _ _ _ _).stay hb1; rw [World.size_alloc] at B; have ⟨b0, b1, b2, z0, z1, z2⟩ := B; have hl := A.lt; have hl2 := B.lt; have hW := next (more (more (Below.refl _ _) _) _) hb1)
    | (go_at_call 48; refine (cl _ h hb hp).mono ?_; rintro en w2 ⟨rfl, hb2⟩; have P := (box3_new w1 (.bool (sgB e f b)) (.int .i64 (exN e f b : Int)) (.int .u64 (frN f b : Int)) 71).stay hb2; have ⟨p0, p1, p2, _, _, _⟩ := P; replace A := (A.alloc _).stay hb2; have ⟨a0, a1⟩ := A; replace B := (B.alloc _).stay hb2; have ⟨b0, b1, b2, z0, z1, z2⟩ := B; replace hW := next (more hW _) hb2))
  go_quiet (fail)
  go_wp2
  have Bq : Box3 (w2.drewN nq) (w.heap.size + 1) (.bool false) (.slice none 0 0) (.int .i64 0) := B.stay (below_drewN (Below.refl _ _) _)
  obtain ⟨t0, t1, t2⟩ := Bq.set (.bool false) (.slice none 0 0) (.int .i64 0)
  have hWq := drewn hW nq
  refine bodyPost_ret (v := .tuple #[.agg #[.bool false, .slice none 0 0, .int .i64 0], .int .i64 8]) ?_ rfl (valued_none Ho.out He.out (((hWq.setCell (by simp) _).setCell (by simp) _).setCell (by simp) _))
  simp only [results, Tryd.results14]
  simp [go_sem, t0, t1, t2]

theorem value_any (e f : Int) (b : Nat) (w : World) (hb : b < 18446744073709551616) (hT : Tab w) :
    Calls Tryd.prog 14 #[.agg #[.int .i64 e, .int .i64 f], .int .u64 b] w (Valued e f b w) := by
  by_cases hF : fitsE e f b = 0
  · have h : formE e f = 0 := by
      apply Classical.byContradiction
      intro hn
      rw [fitsE_form hn] at hF
      exact hn hF
    obtain ⟨h1, h2, h3, h4⟩ := formE_ok h
    obtain ⟨e, rfl⟩ := Int.eq_ofNat_of_zero_le (by omega : 0 ≤ e)
    obtain ⟨f, rfl⟩ := Int.eq_ofNat_of_zero_le (by omega : 0 ≤ f)
    have hp : b < pw (1 + e + f) := by
      apply Classical.byContradiction
      intro hn
      rw [fitsE_bits h hn] at hF
      cases hF
    by_cases hxm : exN e f b = maskN e
    · by_cases hf0 : frN f b = 0
      · exact value_inf e f b w h hb hp hxm hf0
      · exact value_nan e f b w h hb hp hxm hf0
    · by_cases hx0 : exN e f b = 0
      · by_cases hf0 : frN f b = 0
        · exact value_zero e f b w h hb hp hx0 hf0 hxm hT
        · exact value_small e f b w h hb hp hx0 hf0 hxm hT
      · exact value_normal e f b w h hb hp hx0 hxm hT
  · exact value_no e f b w hF hb

end Go.Proofs.YtnokabglkmiidaaDoor
