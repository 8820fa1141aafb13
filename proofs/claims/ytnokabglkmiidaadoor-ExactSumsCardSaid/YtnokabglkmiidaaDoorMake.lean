/-
  The walk of exact.Make: the dyadic of any number, sign and exponent.
-/
import Derived.Test.YtnokabglkmiidaaDoorMk
import Derived.Test.YtnokabglkmiidaaDoorEven
import Derived.Test.YtnokabglkmiidaaDoorDown
namespace Go.Proofs.YtnokabglkmiidaaDoor
open Go.RowKit Go.Lb

set_option maxRecDepth 100000 in
set_option maxHeartbeats 2000000 in
theorem exMake_chk (neg : Bool) (ao : Option Addr) (n c : Nat) (ys : List Nat) (x : Int) (w : World) (h : Sl w ao n c ys) (hT : Tab w) (hc : chk ys ≠ 0) :
    Calls Tryd.prog 9 #[.bool neg, .agg #[.slice ao n c], .int .i64 x] w (Made neg ys x w) := by
  have hcB : (chk ys != 0) = true := by simp [hc]
  have Hb := Lib.hid (mk_chk (x := x) hc).1
  have He := Lib.hid (mk_chk (x := x) hc).2
  clear hc
  go_enter Tryd.func9, Tryd.ntmps9
  go_wp2_with (first
      | (go_at_call 35; refine (natCheck_any _ n c ys _ ((h.alloc _).alloc _)).mono ?_; rintro e w1 ⟨rfl, hb1⟩; have hW := next (more (more (Below.refl _ _) _) _) hb1; have S := ((h.alloc _).alloc _).below hb1; have T := ((hT.alloc _).alloc _).below hb1; have A := ((box1_new w _ _).alloc _).stay hb1; have B := (box3_new _ _ _ _ _).stay hb1; rw [World.size_alloc] at B; have ⟨a0, az⟩ := A; have ⟨b0, b1, b2, bz0, bz1, bz2⟩ := B))
  have ⟨t0, t1, t2⟩ := B.set (.bool false) (.slice none 0 0) (.int .i64 0)
  refine bodyPost_ret (v := .tuple #[.agg #[.bool false, .slice none 0 0, .int .i64 0], .int .i64 (chk ys)]) (by simp [results, Tryd.results9, go_sem, t0, t1, t2]) rfl (made_none Hb.out He.out (((hW.setCell (by simp) _).setCell (by simp) _).setCell (by simp) _))

set_option maxRecDepth 100000 in
set_option maxHeartbeats 2000000 in
theorem exMake_zero (neg : Bool) (ao : Option Addr) (n c : Nat) (ys : List Nat) (x : Int) (w : World) (h : Sl w ao n c ys) (hT : Tab w) (hc : chk ys = 0) (h0 : val ys = 0) :
    Calls Tryd.prog 9 #[.bool neg, .agg #[.slice ao n c], .int .i64 x] w (Made neg ys x w) := by
  have hcB : (chk ys != 0) = false := by simp [hc]
  have hn0 : n = 0 := h.len.symm.trans ((val_zero_iff h.ok hc).1 h0)
  have hnB : noneB n = true := by rw [hn0]; rfl
  have Hb := Lib.hid (mk_zero (x := x) hc h0).1
  have He := Lib.hid (mk_zero (x := x) hc h0).2
  clear h0 hn0
  go_enter Tryd.func9, Tryd.ntmps9
  go_wp2_with (first
      | (go_at_call 35; refine (natCheck_any _ n c ys _ ((h.alloc _).alloc _)).mono ?_; rintro e w1 ⟨rfl, hb1⟩; have hW := next (more (more (Below.refl _ _) _) _) hb1; have S := ((h.alloc _).alloc _).below hb1; have T := ((hT.alloc _).alloc _).below hb1; have A := ((box1_new w _ _).alloc _).stay hb1; have B := (box3_new _ _ _ _ _).stay hb1; rw [World.size_alloc] at B; have ⟨a0, az⟩ := A; have ⟨b0, b1, b2, bz0, bz1, bz2⟩ := B)
      | (go_at_call 36; refine (none_any _ n c _).mono ?_; rintro e w2 ⟨rfl, hb2⟩; rw [hnB]; replace hW := next hW hb2; replace S := S.below hb2; replace T := T.below hb2; replace A := A.stay hb2; replace B := B.stay hb2; have ⟨a0, az⟩ := A; have ⟨b0, b1, b2, bz0, bz1, bz2⟩ := B))
  have ⟨t0, t1, t2⟩ := B.set (.bool false) (.slice none 0 0) (.int .i64 0)
  refine bodyPost_ret (v := .tuple #[.agg #[.bool false, .slice none 0 0, .int .i64 0], .int .i64 0]) (by simp [results, Tryd.results9, go_sem, t0, t1, t2]) rfl (made_none Hb.out He.out (((hW.setCell (by simp) _).setCell (by simp) _).setCell (by simp) _))

set_option maxRecDepth 100000 in
set_option maxHeartbeats 2000000 in
theorem exMake_beyond (neg : Bool) (ao : Option Addr) (n c : Nat) (ys : List Nat) (x : Int) (w : World) (h : Sl w ao n c ys) (hT : Tab w) (hc : chk ys = 0) (h0 : val ys ≠ 0) (hx : x < -2147483648 ∨ 1073741824 < x) (hb : mkB ys x = false) :
    Calls Tryd.prog 9 #[.bool neg, .agg #[.slice ao n c], .int .i64 x] w (Made neg ys x w) := by
  have hcB : (chk ys != 0) = false := by simp [hc]
  have hn : n ≤ 16384 := by rw [← h.len]; exact chk_zero_len hc
  have hn1 : n ≠ 0 := fun hn0 => h0 ((val_zero_iff h.ok hc).2 (h.len.trans hn0))
  have hnB : noneB n = false := by unfold noneB; exact decide_eq_false hn1
  have htz := tz_lt h.ok h0
  rw [h.len] at htz
  have Hb := Lib.hid hb
  have He := Lib.hid (mk_many hc h0 hb)
  clear hb
  rcases (by omega : 1073741824 < x ∨ (¬ 1073741824 < x ∧ x < -2147483648)) with hx1 | ⟨hx1, hx2⟩
  all_goals clear hx
  all_goals
    go_enter Tryd.func9, Tryd.ntmps9
    go_wp2_with (first
      | (go_at_call 35; refine (natCheck_any _ n c ys _ ((h.alloc _).alloc _)).mono ?_; rintro e w1 ⟨rfl, hb1⟩; have hW := next (more (more (Below.refl _ _) _) _) hb1; have S := ((h.alloc _).alloc _).below hb1; have T := ((hT.alloc _).alloc _).below hb1; have A := ((box1_new w _ _).alloc _).stay hb1; have B := (box3_new _ _ _ _ _).stay hb1; rw [World.size_alloc] at B; have ⟨a0, az⟩ := A; have ⟨b0, b1, b2, bz0, bz1, bz2⟩ := B)
      | (go_at_call 36; refine (none_any _ n c _).mono ?_; rintro e w2 ⟨rfl, hb2⟩; rw [hnB]; replace hW := next hW hb2; replace S := S.below hb2; replace T := T.below hb2; replace A := A.stay hb2; replace B := B.stay hb2; have ⟨a0, az⟩ := A; have ⟨b0, b1, b2, bz0, bz1, bz2⟩ := B)
      | (go_at_call 37; refine (exEven_any _ n c ys _ S h0 hn T).mono ?_; rintro e w3 ⟨rfl, hb3⟩; replace hW := next hW hb3; replace S := S.below hb3; replace T := T.below hb3; replace A := A.stay hb3; replace B := B.stay hb3; have ⟨a0, az⟩ := A; have ⟨b0, b1, b2, bz0, bz1, bz2⟩ := B))
    have ⟨t0, t1, t2⟩ := B.set (.bool false) (.slice none 0 0) (.int .i64 0)
    refine bodyPost_ret (v := .tuple #[.agg #[.bool false, .slice none 0 0, .int .i64 0], .int .i64 4]) (by simp [results, Tryd.results9, go_sem, t0, t1, t2]) rfl (made_none Hb.out He.out (((hW.setCell (by simp) _).setCell (by simp) _).setCell (by simp) _))

set_option maxRecDepth 100000 in
set_option maxHeartbeats 2000000 in
theorem exMake_far (neg : Bool) (ao : Option Addr) (n c : Nat) (ys : List Nat) (x : Int) (w : World) (h : Sl w ao n c ys) (hT : Tab w) (hc : chk ys = 0) (h0 : val ys ≠ 0) (hx1 : -2147483648 ≤ x) (hx2 : x ≤ 1073741824) (hfB : farB (x + tz (val ys)) = true) (hb : mkB ys x = false) :
    Calls Tryd.prog 9 #[.bool neg, .agg #[.slice ao n c], .int .i64 x] w (Made neg ys x w) := by
  have hcB : (chk ys != 0) = false := by simp [hc]
  have hn : n ≤ 16384 := by rw [← h.len]; exact chk_zero_len hc
  have hn1 : n ≠ 0 := fun hn0 => h0 ((val_zero_iff h.ok hc).2 (h.len.trans hn0))
  have hnB : noneB n = false := by unfold noneB; exact decide_eq_false hn1
  have htz := tz_lt h.ok h0
  rw [h.len] at htz
  have Hb := Lib.hid hb
  have He := Lib.hid (mk_many hc h0 hb)
  clear hb
  go_enter Tryd.func9, Tryd.ntmps9
  go_wp2_with (first
      | (go_at_call 35; refine (natCheck_any _ n c ys _ ((h.alloc _).alloc _)).mono ?_; rintro e w1 ⟨rfl, hb1⟩; have hW := next (more (more (Below.refl _ _) _) _) hb1; have S := ((h.alloc _).alloc _).below hb1; have T := ((hT.alloc _).alloc _).below hb1; have A := ((box1_new w _ _).alloc _).stay hb1; have B := (box3_new _ _ _ _ _).stay hb1; rw [World.size_alloc] at B; have ⟨a0, az⟩ := A; have ⟨b0, b1, b2, bz0, bz1, bz2⟩ := B)
      | (go_at_call 36; refine (none_any _ n c _).mono ?_; rintro e w2 ⟨rfl, hb2⟩; rw [hnB]; replace hW := next hW hb2; replace S := S.below hb2; replace T := T.below hb2; replace A := A.stay hb2; replace B := B.stay hb2; have ⟨a0, az⟩ := A; have ⟨b0, b1, b2, bz0, bz1, bz2⟩ := B)
      | (go_at_call 37; refine (exEven_any _ n c ys _ S h0 hn T).mono ?_; rintro e w3 ⟨rfl, hb3⟩; replace hW := next hW hb3; replace S := S.below hb3; replace T := T.below hb3; replace A := A.stay hb3; replace B := B.stay hb3; have ⟨a0, az⟩ := A; have ⟨b0, b1, b2, bz0, bz1, bz2⟩ := B)
      | (go_at_call 38; refine (far_any _ _).mono ?_; rintro e w4 ⟨rfl, hb4⟩; rw [hfB]; replace hW := next hW hb4; replace S := S.below hb4; replace T := T.below hb4; replace A := A.stay hb4; replace B := B.stay hb4; have ⟨a0, az⟩ := A; have ⟨b0, b1, b2, bz0, bz1, bz2⟩ := B))
  have ⟨t0, t1, t2⟩ := B.set (.bool false) (.slice none 0 0) (.int .i64 0)
  refine bodyPost_ret (v := .tuple #[.agg #[.bool false, .slice none 0 0, .int .i64 0], .int .i64 4]) (by simp [results, Tryd.results9, go_sem, t0, t1, t2]) rfl (made_none Hb.out He.out (((hW.setCell (by simp) _).setCell (by simp) _).setCell (by simp) _))

set_option maxRecDepth 100000 in
set_option maxHeartbeats 2000000 in
theorem exMake_good (neg : Bool) (ao : Option Addr) (n c : Nat) (ys : List Nat) (x : Int) (w : World) (h : Sl w ao n c ys) (hT : Tab w) (hc : chk ys = 0) (h0 : val ys ≠ 0) (hx1 : -2147483648 ≤ x) (hx2 : x ≤ 1073741824) (hfB : farB (x + tz (val ys)) = false) (hb : mkB ys x = true) :
    Calls Tryd.prog 9 #[.bool neg, .agg #[.slice ao n c], .int .i64 x] w (Made neg ys x w) := by
  have hcB : (chk ys != 0) = false := by simp [hc]
  have hn : n ≤ 16384 := by rw [← h.len]; exact chk_zero_len hc
  have hn1 : n ≠ 0 := fun hn0 => h0 ((val_zero_iff h.ok hc).2 (h.len.trans hn0))
  have hnB : noneB n = false := by unfold noneB; exact decide_eq_false hn1
  have htz := tz_lt h.ok h0
  rw [h.len] at htz
  have H := Lib.hid (mk_yes neg hb)
  clear hb
  go_enter Tryd.func9, Tryd.ntmps9
  go_wp2_with (first
      | (go_at_call 35; refine (natCheck_any _ n c ys _ ((h.alloc _).alloc _)).mono ?_; rintro e w1 ⟨rfl, hb1⟩; have hW := next (more (more (Below.refl _ _) _) _) hb1; have S := ((h.alloc _).alloc _).below hb1; have T := ((hT.alloc _).alloc _).below hb1; have A := ((box1_new w _ _).alloc _).stay hb1; have B := (box3_new _ _ _ _ _).stay hb1; rw [World.size_alloc] at B; have ⟨a0, az⟩ := A; have ⟨b0, b1, b2, bz0, bz1, bz2⟩ := B)
      | (go_at_call 36; refine (none_any _ n c _).mono ?_; rintro e w2 ⟨rfl, hb2⟩; rw [hnB]; replace hW := next hW hb2; replace S := S.below hb2; replace T := T.below hb2; replace A := A.stay hb2; replace B := B.stay hb2; have ⟨a0, az⟩ := A; have ⟨b0, b1, b2, bz0, bz1, bz2⟩ := B)
      | (go_at_call 37; refine (exEven_any _ n c ys _ S h0 hn T).mono ?_; rintro e w3 ⟨rfl, hb3⟩; replace hW := next hW hb3; replace S := S.below hb3; replace T := T.below hb3; replace A := A.stay hb3; replace B := B.stay hb3; have ⟨a0, az⟩ := A; have ⟨b0, b1, b2, bz0, bz1, bz2⟩ := B)
      | (go_at_call 38; refine (far_any _ _).mono ?_; rintro e w4 ⟨rfl, hb4⟩; rw [hfB]; replace hW := next hW hb4; replace S := S.below hb4; replace T := T.below hb4; replace A := A.stay hb4; replace B := B.stay hb4; have ⟨a0, az⟩ := A; have ⟨b0, b1, b2, bz0, bz1, bz2⟩ := B)
      | (go_at_call 39; refine (natDown_any _ n c _ ys _ S hc (by omega)).mono ?_; rintro e w5 ⟨a5, n5, c5, rfl, hF, hb5⟩; have hl0 := B.lt; replace hW := next hW hb5; replace S := S.below hb5; replace T := T.below hb5; replace A := A.stay hb5; replace B := B.stay hb5; have ⟨a0, az⟩ := A; have ⟨b0, b1, b2, bz0, bz1, bz2⟩ := B; have hl1 := A.lt; have hl2 := B.lt))
  have ⟨t0, t1, t2⟩ := B.set (.bool neg) (.slice a5 n5 c5) (.int .i64 (x + tz (val ys)))
  refine bodyPost_ret (v := .tuple #[.agg #[.bool neg, .slice a5 n5 c5, .int .i64 (x + tz (val ys))], .int .i64 0]) (by simp [results, Tryd.results9, go_sem, t0, t1, t2, hl2]) rfl ?_
  obtain ⟨q1, q2, q3, q4⟩ := H.out
  refine ⟨a5, n5, c5, by rw [q2, q3, q4], ?_, more (((hW.setCell (by simp) _).setCell (by simp) _).setCell (by simp) _) _⟩
  rw [q1]
  refine Fr.mono (Fr.alloc (Fr.setCell (Fr.setCell (Fr.setCell hF ?_ _) ?_ _) ?_ _) _) (by omega) <;> exact hl0

/-- exact.Make, of any number, sign and exponent. -/
theorem exMake_any (neg : Bool) (ao : Option Addr) (n c : Nat) (ys : List Nat) (x : Int) (w : World) (h : Sl w ao n c ys) (hT : Tab w) :
    Calls Tryd.prog 9 #[.bool neg, .agg #[.slice ao n c], .int .i64 x] w (Made neg ys x w) := by
  by_cases hc : chk ys = 0
  · by_cases h0 : val ys = 0
    · exact exMake_zero neg ao n c ys x w h hT hc h0
    · by_cases hx : x < -2147483648 ∨ 1073741824 < x
      · exact exMake_beyond neg ao n c ys x w h hT hc h0 hx (decide_eq_false (by omega))
      · by_cases hf : x + tz (val ys) < -1073741824 ∨ 1073741824 < x + tz (val ys)
        · exact exMake_far neg ao n c ys x w h hT hc h0 (by omega) (by omega) (decide_eq_true hf) (decide_eq_false (by omega))
        · exact exMake_good neg ao n c ys x w h hT hc h0 (by omega) (by omega) (decide_eq_false hf) (decide_eq_true ⟨hc, h0, by omega, by omega, by omega, by omega⟩)
  · exact exMake_chk neg ao n c ys x w h hT hc

end Go.Proofs.YtnokabglkmiidaaDoor
