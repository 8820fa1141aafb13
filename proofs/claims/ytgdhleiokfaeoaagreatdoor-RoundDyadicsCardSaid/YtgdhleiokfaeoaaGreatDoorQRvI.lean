/-
  Contracts of numeral/numeralref02: Rat; numeral/numeralref05: Ratio. Contracts of numeral/numeralref05: Ratio.
-/

import Derived.Test.YtgdhleiokfaeoaaGreatDoorQRvG
import Derived.Test.YtgdhleiokfaeoaaGreatDoorQRtG
import Derived.Test.YtgdhleiokfaeoaaGreatDoorQRdE
import Derived.Test.YtgdhleiokfaeoaaGreatDoorQRndQ
import Derived.Deep.RegionHeld3
namespace Go.Proofs.YtgdhleiokfaeoaaGreatDoor

open Go.RowKit Go.Lb

attribute [local go_sem] Go.World.cell?_alloc_some

set_option maxHeartbeats 2000000 in
theorem rf2Rat_any (a1 a2 : Option Addr) (n1 n2 c1 c2 : Nat) (s : Bool) (xs ys : List Nat) (w : World) (h1 : Sl w a1 n1 c1 xs) (h2 : Sl w a2 n2 c2 ys) (hx : Fine xs) (hy : Fine ys) (hD : val ys ≠ 0) (l1 : n1 ≤ 16384) (l2 : n2 ≤ 16384) (hT : Tab w) :
    Calls Tryz.prog 44 #[.agg #[.bool s, .slice a1 n1 c1, .slice a2 n2 c2]] w (MkQ 43 (mkRat (if s = true then -(val xs : Int) else (val xs : Int)) (val ys)) w) := by
  obtain ⟨W1, hW1⟩ : ∃ W1 : World, W1 = w.alloc (.cells #[.bool s, .slice a1 n1 c1, .slice a2 n2 c2] 28) := ⟨_, rfl⟩
  have hb1 : Below w.heap.size w W1 := hW1 ▸ more (Below.refl _ _) _
  have d0 : W1.cell? ⟨w.heap.size, 0, none⟩ = some (.bool s) := by rw [hW1]; simp
  have d1 : W1.cell? ⟨w.heap.size, 1, none⟩ = some (.slice a1 n1 c1) := by rw [hW1]; simp
  have d2 : W1.cell? ⟨w.heap.size, 2, none⟩ = some (.slice a2 n2 c2) := by rw [hW1]; simp
  have lN : ln (val xs) ≤ 16384 := Nat.le_trans (ln_le (val_lt h1.ok)) (by rw [h1.len]; exact l1)
  have lD : ln (val ys) ≤ 16384 := Nat.le_trans (ln_le (val_lt h2.ok)) (by rw [h2.len]; exact l2)
  have hI1 : Calls Tryz.prog 67 #[.agg #[.slice a1 n1 c1]] W1 (MkZ 43 (val xs : Int) W1) := (rf2Int_any a1 n1 c1 xs W1 (h1.below hb1) hx (by omega)).mono fun _ _ h => h.z (nonneg_dec (by omega)).symm (by omega)
  have hI2 : ∀ W, Below w.heap.size w W → Calls Tryz.prog 67 #[.agg #[.slice a2 n2 c2]] W (MkZ 43 (val ys : Int) W) := fun W hW => (rf2Int_any a2 n2 c2 ys W (h2.below hW) hy (by omega)).mono fun _ _ h => h.z (nonneg_dec (by omega)).symm (by omega)
  generalize val xs = N at *
  generalize val ys = D at *
  clear h1 h2 hx hy l1 l2
  cases s
  all_goals
    go_enter Tryz.func44, Tryz.ntmps44
    go_wp2_with fail
    rw [← hW1]
    clear hW1
    refine hI1.mono ?_
    rintro en w2 ⟨t1, rfl, I1, hb2⟩
    have V2 := next hb1 hb2
    have e2 := cellStay d2 hb2
    have e0 := cellStay d0 hb2
    go_wp2_with fail
  · have hb3' := more V2 (.cells #[.bool false, .slice none 0 0, .slice none 0 0] 103)
    refine (hI2 _ hb3').mono ?_
    rintro en w4 ⟨t2, rfl, I4, hb4⟩
    have hl4 := I4.le
    have hlt := I1.lt
    simp at hl4
    have B4 : Below w2.heap.size w2 w4 := next (more (Below.refl _ _) _) hb4
    have V4 := next V2 B4
    have hS := nbSetFracZ_any w2.heap.size w.heap.size _ _ t1 t2 (N : Int) D w4 ((res_new w2 _ _ _ _).stay hb4) (I1.stay B4) I4 (by omega) (by omega) hD V2.size (by first | (rw [Int.natAbs_natCast]; omega) | (rw [Int.natAbs_neg, Int.natAbs_natCast]; omega)) (by omega) (hT.below V4)
    go_wp2_with fail
    refine hS.mono ?_
    rintro en w5 ⟨rfl, Q5, hg5⟩
    go_wp2
    go_ret
    refine ⟨_, rfl, Q5, V4.grown hg5 V4.size (fun _ hj => ?_)⟩
    rw [← Option.some.inj hj]
    exact V2.size
  · have hNg := nbNegZ_any t1 W1.heap.size W1.heap.size t1 (N : Int) w2 I1.zc (hb2.size) I1 (by rw [Int.natAbs_natCast]; omega)
    refine hNg.mono ?_
    rintro en w3 hS3
    have hb3 : Below W1.heap.size W1 w3 := hS3.below hb2 hb2.size I1.le
    obtain ⟨rfl, I3, _⟩ := hS3.in_ I1.zc I1.le
    have V3 := next hb1 hb3
    have e2' := cellStay d2 hb3
    clear hS3 hNg e2 e0 I1
    go_wp2_with fail
    have hb3' := more V3 (.cells #[.bool false, .slice none 0 0, .slice none 0 0] 103)
    refine (hI2 _ hb3').mono ?_
    rintro en w4 ⟨t2, rfl, I4, hb4⟩
    have hl4 := I4.le
    have hlt := I3.lt
    simp at hl4
    have B4 : Below w3.heap.size w3 w4 := next (more (Below.refl _ _) _) hb4
    have V4 := next V3 B4
    have hS := nbSetFracZ_any w3.heap.size w.heap.size _ _ t1 t2 (-(N : Int)) D w4 ((res_new w3 _ _ _ _).stay hb4) (I3.stay B4) I4 (by omega) (by omega) hD V3.size (by first | (rw [Int.natAbs_natCast]; omega) | (rw [Int.natAbs_neg, Int.natAbs_natCast]; omega)) (by omega) (hT.below V4)
    go_wp2_with fail
    refine hS.mono ?_
    rintro en w5 ⟨rfl, Q5, hg5⟩
    go_wp2
    go_ret
    refine ⟨_, rfl, Q5, V4.grown hg5 V4.size (fun _ hj => ?_)⟩
    rw [← Option.some.inj hj]
    exact V3.size

end Go.Proofs.YtgdhleiokfaeoaaGreatDoor

namespace Go.Proofs.YtgdhleiokfaeoaaGreatDoor

open Go.RowKit Go.Lb

attribute [local go_sem] Go.World.cell?_alloc_some

set_option maxHeartbeats 2000000 in
theorem nbRatio5_form (a1 a2 : Option Addr) (n1 n2 c1 c2 m : Nat) (e f : Int) (s neg : Bool) (w : World) (hf : formE e f = 5) :
    Calls Tryz.prog 15 #[.agg #[.int .i64 e, .int .i64 f], .agg #[.bool s, .slice a1 n1 c1, .slice a2 n2 c2], .bool neg, .int .u8 (m : Int)] w fun en w' => en = .returned (.tuple #[.int .u64 0, .int .u8 0, .int .i64 5]) ∧ Below w.heap.size w w' := by
  obtain ⟨W2, hW2⟩ : ∃ W2 : World, W2 = (w.alloc (.cells #[.int .i64 e, .int .i64 f] 23)).alloc (.cells #[.bool s, .slice a1 n1 c1, .slice a2 n2 c2] 28) := ⟨_, rfl⟩
  have hb2 : Below w.heap.size w W2 := hW2 ▸ more (more (Below.refl _ _) _) _
  have c0 : W2.cell? ⟨w.heap.size, 0, none⟩ = some (.int .i64 e) := by rw [hW2]; simp [World.cell?_alloc_some]
  have c1' : W2.cell? ⟨w.heap.size, 1, none⟩ = some (.int .i64 f) := by rw [hW2]; simp [World.cell?_alloc_some]
  have hFm := nbForm_any e f W2
  have hfb : formB e f = false := by
    unfold formE at hf
    cases hh : formB e f
    · rfl
    · rw [if_pos hh] at hf; exact absurd hf (by decide)
  rw [hfb] at hFm
  clear hf hfb
  go_enter Tryz.func15, Tryz.ntmps15
  go_wp2_with fail
  rw [← hW2]
  clear hW2
  refine hFm.mono ?_
  rintro en w3 ⟨rfl, hb3⟩
  go_wp2
  go_ret3
  exact ⟨rfl, next hb2 hb3⟩

set_option maxHeartbeats 2000000 in
theorem nbRatio5_rat (a1 a2 : Option Addr) (n1 n2 c1 c2 m : Nat) (e f : Int) (s neg : Bool) (xs ys : List Nat) (w : World) (h1 : Sl w a1 n1 c1 xs) (h2 : Sl w a2 n2 c2 ys) (hT : Tab w) (hf : formE e f = 0) (hr : ratB s xs ys = false) :
    Calls Tryz.prog 15 #[.agg #[.int .i64 e, .int .i64 f], .agg #[.bool s, .slice a1 n1 c1, .slice a2 n2 c2], .bool neg, .int .u8 (m : Int)] w fun en w' => en = .returned (.tuple #[.int .u64 0, .int .u8 0, .int .i64 20]) ∧ Below w.heap.size w w' := by
  obtain ⟨W2, hW2⟩ : ∃ W2 : World, W2 = (w.alloc (.cells #[.int .i64 e, .int .i64 f] 23)).alloc (.cells #[.bool s, .slice a1 n1 c1, .slice a2 n2 c2] 28) := ⟨_, rfl⟩
  have hb2 : Below w.heap.size w W2 := hW2 ▸ more (more (Below.refl _ _) _) _
  have c0 : W2.cell? ⟨w.heap.size, 0, none⟩ = some (.int .i64 e) := by rw [hW2]; simp [World.cell?_alloc_some]
  have c1' : W2.cell? ⟨w.heap.size, 1, none⟩ = some (.int .i64 f) := by rw [hW2]; simp [World.cell?_alloc_some]
  have hFm := nbForm_any e f W2
  have hfb : formB e f = true := by
    unfold formE at hf
    cases hh : formB e f
    · rw [if_neg (by rw [hh]; decide)] at hf; exact absurd hf (by decide)
    · rfl
  have hRc : ∀ W, Below w.heap.size w W → Calls Tryz.prog 42 #[.agg #[.bool s, .slice a1 n1 c1, .slice a2 n2 c2]] W fun e w' => e = .returned (.int .i64 20) ∧ Below W.heap.size W w' := fun W hW => by
    have := rf2Check_any s a1 a2 n1 n2 c1 c2 xs ys W (h1.below hW) (h2.below hW) (hT.below hW)
    unfold ratE at this
    rwa [hr, if_neg (by decide)] at this
  have d0 : W2.cell? ⟨w.heap.size + 1, 0, none⟩ = some (.bool s) := by rw [hW2]; simp
  have d1 : W2.cell? ⟨w.heap.size + 1, 1, none⟩ = some (.slice a1 n1 c1) := by rw [hW2]; simp
  have d2 : W2.cell? ⟨w.heap.size + 1, 2, none⟩ = some (.slice a2 n2 c2) := by rw [hW2]; simp
  rw [hfb] at hFm
  clear hf hfb h1 h2 hT hr
  go_enter Tryz.func15, Tryz.ntmps15
  go_wp2_with fail
  rw [← hW2]
  clear hW2
  refine hFm.mono ?_
  rintro en w3 ⟨rfl, hb3⟩
  have W3 := next hb2 hb3
  have e0 := cellStay d0 hb3
  have e1 := cellStay d1 hb3
  have e2 := cellStay d2 hb3
  go_wp2_with fail
  refine (hRc w3 W3).mono ?_
  rintro en w4 ⟨rfl, hb4⟩
  go_wp2
  go_ret3
  exact ⟨rfl, next W3 hb4⟩

set_option maxHeartbeats 2000000 in
theorem nbRatio5_mode (a1 a2 : Option Addr) (n1 n2 c1 c2 m : Nat) (e f : Int) (s neg : Bool) (xs ys : List Nat) (w : World) (h1 : Sl w a1 n1 c1 xs) (h2 : Sl w a2 n2 c2 ys) (hT : Tab w) (hf : formE e f = 0) (hr : ratB s xs ys = true) (hm : 4 < m) :
    Calls Tryz.prog 15 #[.agg #[.int .i64 e, .int .i64 f], .agg #[.bool s, .slice a1 n1 c1, .slice a2 n2 c2], .bool neg, .int .u8 (m : Int)] w fun en w' => en = .returned (.tuple #[.int .u64 0, .int .u8 0, .int .i64 7]) ∧ Below w.heap.size w w' := by
  obtain ⟨W2, hW2⟩ : ∃ W2 : World, W2 = (w.alloc (.cells #[.int .i64 e, .int .i64 f] 23)).alloc (.cells #[.bool s, .slice a1 n1 c1, .slice a2 n2 c2] 28) := ⟨_, rfl⟩
  have hb2 : Below w.heap.size w W2 := hW2 ▸ more (more (Below.refl _ _) _) _
  have c0 : W2.cell? ⟨w.heap.size, 0, none⟩ = some (.int .i64 e) := by rw [hW2]; simp [World.cell?_alloc_some]
  have c1' : W2.cell? ⟨w.heap.size, 1, none⟩ = some (.int .i64 f) := by rw [hW2]; simp [World.cell?_alloc_some]
  have hFm := nbForm_any e f W2
  have hfb : formB e f = true := by
    unfold formE at hf
    cases hh : formB e f
    · rw [if_neg (by rw [hh]; decide)] at hf; exact absurd hf (by decide)
    · rfl
  have hRc : ∀ W, Below w.heap.size w W → Calls Tryz.prog 42 #[.agg #[.bool s, .slice a1 n1 c1, .slice a2 n2 c2]] W fun e w' => e = .returned (.int .i64 0) ∧ Below W.heap.size W w' := fun W hW => by
    have := rf2Check_any s a1 a2 n1 n2 c1 c2 xs ys W (h1.below hW) (h2.below hW) (hT.below hW)
    unfold ratE at this
    rwa [if_pos hr] at this
  have d0 : W2.cell? ⟨w.heap.size + 1, 0, none⟩ = some (.bool s) := by rw [hW2]; simp
  have d1 : W2.cell? ⟨w.heap.size + 1, 1, none⟩ = some (.slice a1 n1 c1) := by rw [hW2]; simp
  have d2 : W2.cell? ⟨w.heap.size + 1, 2, none⟩ = some (.slice a2 n2 c2) := by rw [hW2]; simp
  have hm4 : (m : Int) > 4 := by omega
  rw [hfb] at hFm
  clear hf hfb h1 h2 hT hr
  go_enter Tryz.func15, Tryz.ntmps15
  go_wp2_with fail
  rw [← hW2]
  clear hW2
  refine hFm.mono ?_
  rintro en w3 ⟨rfl, hb3⟩
  have W3 := next hb2 hb3
  have e0 := cellStay d0 hb3
  have e1 := cellStay d1 hb3
  have e2 := cellStay d2 hb3
  go_wp2_with fail
  refine (hRc w3 W3).mono ?_
  rintro en w4 ⟨rfl, hb4⟩
  go_wp2
  go_ret3
  exact ⟨rfl, next W3 hb4⟩

/-- What holds of a fraction that may be. -/
theorem rat_facts {w : World} {a1 a2 : Option Addr} {n1 n2 c1 c2 : Nat} {s : Bool} {xs ys : List Nat} (h1 : Sl w a1 n1 c1 xs) (h2 : Sl w a2 n2 c2 ys) (hr : ratB s xs ys = true) :
    Fine xs ∧ Fine ys ∧ val ys ≠ 0 ∧ Nat.gcd (val xs) (val ys) = 1 ∧ (s = true → val xs ≠ 0) ∧ n1 ≤ 16384 ∧ n2 ≤ 16384 := by
  obtain ⟨hx, hy, hl, hG, hs⟩ : chk xs = 0 ∧ chk ys = 0 ∧ ys.length ≠ 0 ∧ Nat.gcd (val xs) (val ys) = 1 ∧ (s = true → val xs ≠ 0) := of_decide_eq_true hr
  exact ⟨fine_of_chk h1.ok hx, fine_of_chk h2.ok hy, fun h => hl ((val_zero_iff h2.ok hy).1 h), hG, hs, by rw [← h1.len]; exact chk_zero_len hx, by rw [← h2.len]; exact chk_zero_len hy⟩

set_option maxHeartbeats 2000000 in
theorem nbRatio5_ok (a1 a2 : Option Addr) (n1 n2 c1 c2 E F m : Nat) (s neg : Bool) (xs ys : List Nat) (w : World) (h1 : Sl w a1 n1 c1 xs) (h2 : Sl w a2 n2 c2 ys) (hT : Tab w) (hm : m < 5) (hE2 : 2 ≤ E) (hE11 : E ≤ 11) (hF1 : 1 ≤ F) (hF52 : F ≤ 52) (hf : formE (E : Int) (F : Int) = 0) (hr : ratB s xs ys = true) :
    Calls Tryz.prog 15 #[.agg #[.int .i64 (E : Int), .int .i64 (F : Int)], .agg #[.bool s, .slice a1 n1 c1, .slice a2 n2 c2], .bool neg, .int .u8 (m : Int)] w fun en w' => en = .returned (.tuple #[.int .u64 (sgBits E F (val xs) (val ys) s neg m : Int), .int .u8 (sgFlags E F (val xs) (val ys) s m : Int), .int .i64 0]) ∧ Below w.heap.size w w' := by
  obtain ⟨fx, fy, hD, hG, hs, l1, l2⟩ := rat_facts h1 h2 hr
  obtain ⟨W2, hW2⟩ : ∃ W2 : World, W2 = (w.alloc (.cells #[.int .i64 (E : Int), .int .i64 (F : Int)] 23)).alloc (.cells #[.bool s, .slice a1 n1 c1, .slice a2 n2 c2] 28) := ⟨_, rfl⟩
  have hb2 : Below w.heap.size w W2 := hW2 ▸ more (more (Below.refl _ _) _) _
  have c0 : W2.cell? ⟨w.heap.size, 0, none⟩ = some (.int .i64 (E : Int)) := by rw [hW2]; simp [World.cell?_alloc_some]
  have c1' : W2.cell? ⟨w.heap.size, 1, none⟩ = some (.int .i64 (F : Int)) := by rw [hW2]; simp [World.cell?_alloc_some]
  have hFm := nbForm_any (E : Int) (F : Int) W2
  have hfb : formB (E : Int) (F : Int) = true := by
    unfold formE at hf
    cases hh : formB (E : Int) (F : Int)
    · rw [if_neg (by rw [hh]; decide)] at hf; exact absurd hf (by decide)
    · rfl
  have hRc : ∀ W, Below w.heap.size w W → Calls Tryz.prog 42 #[.agg #[.bool s, .slice a1 n1 c1, .slice a2 n2 c2]] W fun e w' => e = .returned (.int .i64 0) ∧ Below W.heap.size W w' := fun W hW => by
    have := rf2Check_any s a1 a2 n1 n2 c1 c2 xs ys W (h1.below hW) (h2.below hW) (hT.below hW)
    unfold ratE at this
    rwa [if_pos hr] at this
  have hQ : ∀ W, Below w.heap.size w W → Calls Tryz.prog 44 #[.agg #[.bool s, .slice a1 n1 c1, .slice a2 n2 c2]] W (MkQ 43 (sgQ' s (val xs) (val ys)) W) := fun W hW => rf2Rat_any a1 a2 n1 n2 c1 c2 s xs ys W (h1.below hW) (h2.below hW) fx fy hD l1 l2 (hT.below hW)
  obtain ⟨q1, q2, q3⟩ := mk_low hD hG hs
  have lN : ln (val xs) ≤ 16384 := Nat.le_trans (ln_le (val_lt h1.ok)) (by rw [h1.len]; exact l1)
  have lD : ln (val ys) ≤ 16384 := Nat.le_trans (ln_le (val_lt h2.ok)) (by rw [h2.len]; exact l2)
  have hB : ∀ W B b, Below w.heap.size w W → Rq 43 W B b (sgQ' s (val xs) (val ys)) → Calls Tryz.prog 43 #[.agg #[.int .i64 (E : Int), .int .i64 (F : Int)], .pointer (some ⟨b, 0, none⟩), .bool neg, .int .u8 (m : Int)] W fun en w' => en = .returned (.tuple #[.int .u64 (sgBits E F (val xs) (val ys) s neg m : Int), .int .u8 (sgFlags E F (val xs) (val ys) s m : Int)]) ∧ Below W.heap.size W w' := fun W B b hW h => by
    have := nbRat_any B b E F m _ neg W h hE2 hE11 hF1 hF52 hm (by rw [q1]; exact lN) (by rw [q2]; exact lD) (hT.below hW)
    rwa [q1, q2, q3] at this
  have d0 : W2.cell? ⟨w.heap.size + 1, 0, none⟩ = some (.bool s) := by rw [hW2]; simp
  have d1 : W2.cell? ⟨w.heap.size + 1, 1, none⟩ = some (.slice a1 n1 c1) := by rw [hW2]; simp
  have d2 : W2.cell? ⟨w.heap.size + 1, 2, none⟩ = some (.slice a2 n2 c2) := by rw [hW2]; simp
  have hm4 : ¬ (m : Int) > 4 := by omega
  rw [hfb] at hFm
  generalize sgBits E F (val xs) (val ys) s neg m = bb at *
  generalize sgFlags E F (val xs) (val ys) s m = gg at *
  generalize sgQ' s (val xs) (val ys) = q at *
  clear hf hfb h1 h2 hT hr fx fy hD hG hs l1 l2 q1 q2 q3 lN lD
  go_enter Tryz.func15, Tryz.ntmps15
  go_wp2_with fail
  rw [← hW2]
  clear hW2
  refine hFm.mono ?_
  rintro en w3 ⟨rfl, hb3⟩
  have W3 := next hb2 hb3
  have e0 := cellStay d0 hb3
  have e1 := cellStay d1 hb3
  have e2 := cellStay d2 hb3
  have g0 := cellStay c0 hb3
  have g1 := cellStay c1' hb3
  go_wp2_with fail
  refine (hRc w3 W3).mono ?_
  rintro en w4 ⟨rfl, hb4⟩
  have W4 := next W3 hb4
  have d0 := cellStay e0 hb4
  have d1 := cellStay e1 hb4
  have d2 := cellStay e2 hb4
  have c0 := cellStay g0 hb4
  have c1' := cellStay g1 hb4
  clear e0 e1 e2 g0 g1 hFm hRc
  have kS : ∀ w' : World, Below w4.heap.size w4 w' → (w'.cell? ⟨w.heap.size, 0, none⟩ = some (.int .i64 (E : Int)) ∧ w'.cell? ⟨w.heap.size, 1, none⟩ = some (.int .i64 (F : Int)) ∧ w'.cell? ⟨w.heap.size + 1, 0, none⟩ = some (.bool s) ∧ w'.cell? ⟨w.heap.size + 1, 1, none⟩ = some (.slice a1 n1 c1) ∧ w'.cell? ⟨w.heap.size + 1, 2, none⟩ = some (.slice a2 n2 c2) ∧ Below w4.heap.size w4 w') := fun w' hb => ⟨cellStay c0 hb, cellStay c1' hb, cellStay d0 hb, cellStay d1 hb, cellStay d2 hb, hb⟩
  go_upto_region 8 with fail
  go_region_held3 (fun w' => w'.cell? ⟨w.heap.size, 0, none⟩ = some (.int .i64 (E : Int)) ∧ w'.cell? ⟨w.heap.size, 1, none⟩ = some (.int .i64 (F : Int)) ∧ w'.cell? ⟨w.heap.size + 1, 0, none⟩ = some (.bool s) ∧ w'.cell? ⟨w.heap.size + 1, 1, none⟩ = some (.slice a1 n1 c1) ∧ w'.cell? ⟨w.heap.size + 1, 2, none⟩ = some (.slice a2 n2 c2) ∧ Below w4.heap.size w4 w')
    ((refine kS _ ?_; (repeat (with_reducible (first | exact VB | exact VA | exact Below.refl _ _ | refine Below.drew ?_))); done))
    (first
      | (go_at_call 44; (with_reducible refine (hQ _ W4.drew).mono ?_); rintro en wA ⟨t1, rfl, QA, hbA⟩; have VA : Below w4.heap.size w4 wA := (by first | exact hbA | exact undrew hbA))
      | (go_at_call 43; (with_reducible refine (hB _ _ _ (next W4 VA) QA).mono ?_); rintro en wB ⟨rfl, hbB⟩; have VB := next VA hbB))
  all_goals go_wp2
  all_goals go_ret3
  all_goals exact ⟨rfl, next W4 VB⟩

theorem near_zero (b : Nat) : nearZ 0 b = 0 := by unfold nearZ; omega

theorem scn_zero (N D : Nat) : scnN N D 0 = N ∧ scnD N D 0 = D := by
  unfold scnN scnD
  rw [near_zero]
  simp

theorem nbRatio5_any (a1 a2 : Option Addr) (n1 n2 c1 c2 m : Nat) (e f : Int) (s neg : Bool) (xs ys : List Nat) (w : World) (h1 : Sl w a1 n1 c1 xs) (h2 : Sl w a2 n2 c2 ys) (hT : Tab w) :
    Calls Tryz.prog 15 #[.agg #[.int .i64 e, .int .i64 f], .agg #[.bool s, .slice a1 n1 c1, .slice a2 n2 c2], .bool neg, .int .u8 (m : Int)] w fun en w' => en = .returned (.tuple #[.int .u64 (scBits e f s xs ys 0 neg m : Int), .int .u8 (scFlags e f s xs ys 0 m : Int), .int .i64 (scErr e f s xs ys m)]) ∧ Below w.heap.size w w' := by
  unfold scBits scFlags
  by_cases hf : formE e f = 0
  · cases hr : ratB s xs ys
    · have hE : scErr e f s xs ys m = 20 := by unfold scErr; rw [if_neg (by simp [hf]), if_pos hr]
      rw [hE]
      exact nbRatio5_rat a1 a2 n1 n2 c1 c2 m e f s neg xs ys w h1 h2 hT hf hr
    · by_cases hm : 4 < m
      · have hE : scErr e f s xs ys m = 7 := by unfold scErr; rw [if_neg (by simp [hf]), if_neg (by simp [hr]), if_pos hm]
        rw [hE]
        exact nbRatio5_mode a1 a2 n1 n2 c1 c2 m e f s neg xs ys w h1 h2 hT hf hr hm
      · have hE : scErr e f s xs ys m = 0 := by unfold scErr; rw [if_neg (by simp [hf]), if_neg (by simp [hr]), if_neg hm]
        obtain ⟨e1, e2, f1, f2⟩ := formE_ok hf
        obtain ⟨z1, z2⟩ := scn_zero (val xs) (val ys)
        rw [hE, if_pos rfl, if_pos rfl, z1, z2]
        obtain ⟨E, rfl⟩ : ∃ E : Nat, e = (E : Int) := ⟨e.toNat, by omega⟩
        obtain ⟨F, rfl⟩ : ∃ F : Nat, f = (F : Int) := ⟨f.toNat, by omega⟩
        simp only [Int.toNat_natCast]
        exact nbRatio5_ok a1 a2 n1 n2 c1 c2 E F m s neg xs ys w h1 h2 hT (by omega) (by omega) (by omega) (by omega) (by omega) hf hr
  · have h5 : formE e f = 5 := by unfold formE at hf ⊢; split at hf <;> simp_all
    have hE : scErr e f s xs ys m = 5 := by unfold scErr; rw [if_pos hf]
    rw [hE]
    exact nbRatio5_form a1 a2 n1 n2 c1 c2 m e f s neg w h5

end Go.Proofs.YtgdhleiokfaeoaaGreatDoor

