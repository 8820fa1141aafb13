/-
  Contracts: numerallaw05's worth (a float's worth as a fraction) and halves (which of two floats Even and Away took).
-/
import Derived.Deep.CutRange
import Derived.Test.YteoceoepakfgiaaGreatDoorQLawRWo
import Derived.Test.YteoceoepakfgiaaGreatDoorQSidL
namespace Go.Proofs.YteoceoepakfgiaaGreatDoor

open Go.RowKit Go.Lb

attribute [local go_sem] Go.World.cell?_alloc_some

/-- What worth answers of a finite float. -/
def WrA (q : Rat) (w : World) (en : Ending) (w' : World) : Prop :=
  ∃ a1 n1 c1 a2 n2 c2, en = .returned (.tuple #[.agg #[.bool (decide (q.num < 0)), .slice a1 n1 c1, .slice a2 n2 c2], .bool true]) ∧ Fr 37 w' w.heap.size a1 n1 c1 (limbs q.num.natAbs) ∧ Fr 37 w' w.heap.size a2 n2 c2 (limbs q.den) ∧ Below w.heap.size w w'

theorem pw_64 {E F b : Nat} (hf : formE (E : Int) (F : Int) = 0) (hb : b < pw (1 + E + F)) : b < 18446744073709551616 := by
  obtain ⟨e1, e2, e3, e4⟩ := formE_ok hf
  have h := pw_le (j := 1 + E + F) (k := 64) (by omega)
  have h64 : pw 64 = 18446744073709551616 := by unfold pw; rfl
  omega

set_option maxRecDepth 100000 in
set_option maxHeartbeats 2000000 in
theorem worth5_yes (E F b : Nat) (w : World) (hf : formE (E : Int) (F : Int) = 0) (hb : b < pw (1 + E + F)) (hx : exN E F b ≠ maskN E) (hT : Tab w) :
    Calls Tryz.prog 21 #[.agg #[.int .i64 (E : Int), .int .i64 (F : Int)], .int .u64 (b : Int)] w (WrA (wrQ E F b) w) ∧ ln (wrQ E F b).num.natAbs ≤ 34 ∧ ln (wrQ E F b).den ≤ 34 := by
  obtain ⟨e1, e2, e3, e4⟩ := formE_ok hf
  have hb64 := pw_64 hf hb
  obtain ⟨v0, n, X, s, v1, v2, v3, hd, hn, hX1, hX2, hG, hs, _⟩ := worth_facts (m := 0) (by omega) (by omega) (by omega) (fits_bits hf hb) hb hx
  obtain ⟨l1, l2⟩ := up_small hn hX1 hX2
  obtain ⟨q1, q2, q3⟩ := mk_low (upD_pos X) hG hs
  have hq : wrQ E F b = sgQ' s (upN n X) (upD X) := by unfold wrQ; rw [v1, v2, v3]
  rw [hq, q1, q2]
  refine ⟨?_, l1, l2⟩
  unfold WrA
  rw [q1, q2, q3]
  obtain ⟨W2, hW2⟩ : ∃ W2 : World, W2 = (w.alloc (.cells #[.int .i64 (E : Int), .int .i64 (F : Int)] 30)).alloc (.cells #[.bool false, .slice none 0 0, .slice none 0 0] 26) := ⟨_, rfl⟩
  have hb2 : Below w.heap.size w W2 := hW2 ▸ more (more (Below.refl _ _) _) _
  have f0 : W2.cell? ⟨w.heap.size, 0, none⟩ = some (.int .i64 (E : Int)) := by rw [hW2]; simp [World.cell?_alloc_some]
  have f1 : W2.cell? ⟨w.heap.size, 1, none⟩ = some (.int .i64 (F : Int)) := by rw [hW2]; simp [World.cell?_alloc_some]
  have R2 : Box3 W2 (w.heap.size + 1) (.bool false) (.slice none 0 0) (.slice none 0 0) := by
    have := box3_new (w.alloc (.cells #[.int .i64 (E : Int), .int .i64 (F : Int)] 30)) (.bool false) (.slice none 0 0) (.slice none 0 0) 26
    rw [World.size_alloc] at this
    exact hW2 ▸ this
  have k1 := value_any (E : Int) (F : Int) b W2 hb64 (hT.below hb2)
  have cR : ∀ W ao k c, Sl W ao k c (limbs n) → Calls Tryz.prog 52 #[.agg #[.bool s, .slice ao k c, .int .i64 X]] W (Rtn s (upN n X) (upD X) 0 W) := fun W ao k c j => by
    rw [← ratA_up hd l1 l2 W]
    exact exRatio_any s ao k c X (limbs n) W j
  unfold Valued at k1
  rw [v0, v1, v2, v3] at k1
  generalize upN n X = N at *
  generalize upD X = D at *
  clear v0 v1 v2 v3 hd hn hX1 hX2 hG hs l1 l2 q1 q2 q3 hq hx hb hb64 hf e1 e2 e3 e4 hT
  go_enter Tryz.func21, Tryz.ntmps21
  go_upto_region 1 with fail
  rw [← hW2]
  clear hW2
  go_wp2_with fail
  refine k1.mono ?_
  rintro en w5 ⟨ao, k, c, rfl, F5, hb5⟩
  have h56 := more hb5 (.cells #[.bool s, .slice ao k c, .int .i64 X] 99)
  have V6 := next hb2 h56
  have R6 := R2.stay h56
  have D6 := box3_new w5 (.bool s) (.slice ao k c) (.int .i64 X) 99
  have S6 := (F5.alloc (.cells #[.bool s, .slice ao k c, .int .i64 X] 99)).sl
  clear R2 f0 f1 hb2 hb5 h56 k1 F5
  go_upto_region 2 with fail
  obtain ⟨Dd, hDd⟩ : ∃ q, q = w5.heap.size := ⟨_, rfl⟩
  rw [← hDd] at D6 ⊢
  clear hDd
  generalize w5.alloc (.cells #[.bool s, .slice ao k c, .int .i64 X] 99) = w6 at *
  have ⟨x0, x1, x2, _, _, _⟩ := D6
  go_wp2_with fail
  with_reducible refine (cR w6 _ _ _ S6).mono ?_
  rintro en w7 ⟨a3, n3, c3, a4, n4, c4, rfl, F3, F4, _, hb7⟩
  have h68 := more hb7 (.cells #[.bool s, .slice a3 n3 c3, .slice a4 n4 c4] 26)
  have V8 := next V6 h68
  have R8 := R6.stay h68
  have X8 := box3_new w7 (.bool s) (.slice a3 n3 c3) (.slice a4 n4 c4) 26
  have G3 := F3.alloc (.cells #[.bool s, .slice a3 n3 c3, .slice a4 n4 c4] 26)
  have G4 := F4.alloc (.cells #[.bool s, .slice a3 n3 c3, .slice a4 n4 c4] 26)
  have hz0 := R6.lt
  have hz := V6.size
  clear x0 x1 x2 D6 R6 S6 V6 hb7 h68 cR F3 F4
  go_upto_region 5 with fail
  obtain ⟨Y, hY⟩ : ∃ q, q = w7.heap.size := ⟨_, rfl⟩
  rw [← hY] at X8 ⊢
  clear hY
  generalize w7.alloc (.cells #[.bool s, .slice a3 n3 c3, .slice a4 n4 c4] 26) = w8 at *
  have ⟨x0, x1, x2, _, _, _⟩ := X8
  have ⟨r0, r1, r2, _, _, _⟩ := R8
  go_wp2
  obtain ⟨t0, t1, t2⟩ := R8.set (.bool s) (.slice a3 n3 c3) (.slice a4 n4 c4)
  refine bodyPost_ret (v := .tuple #[.agg #[.bool s, .slice a3 n3 c3, .slice a4 n4 c4], .bool true]) (by simp [results, Tryz.results21, go_sem, t0, t1, t2]) rfl ?_
  exact ⟨_, _, _, _, _, _, rfl, (((G3.setCell (by simp; omega) _).setCell (by simp; omega) _).setCell (by simp; omega) _).mono hz, (((G4.setCell (by simp; omega) _).setCell (by simp; omega) _).setCell (by simp; omega) _).mono hz, ((V8.setCell (by simp) _).setCell (by simp) _).setCell (by simp) _⟩

set_option maxRecDepth 100000 in
set_option maxHeartbeats 2000000 in
theorem worth5_no (E F b : Nat) (w : World) (hf : formE (E : Int) (F : Int) = 0) (hb : b < pw (1 + E + F)) (hx : exN E F b = maskN E) (hT : Tab w) :
    Calls Tryz.prog 21 #[.agg #[.int .i64 (E : Int), .int .i64 (F : Int)], .int .u64 (b : Int)] w fun en w' => en = .returned (.tuple #[.agg #[.bool false, .slice none 0 0, .slice none 0 0], .bool false]) ∧ Below w.heap.size w w' := by
  have hb64 := pw_64 hf hb
  have hv : valE (E : Int) (F : Int) b = 8 := by
    unfold valE
    rw [if_neg (fun h => h (fits_bits hf hb)), if_pos (by simpa using hx)]
  obtain ⟨W2, hW2⟩ : ∃ W2 : World, W2 = (w.alloc (.cells #[.int .i64 (E : Int), .int .i64 (F : Int)] 30)).alloc (.cells #[.bool false, .slice none 0 0, .slice none 0 0] 26) := ⟨_, rfl⟩
  have hb2 : Below w.heap.size w W2 := hW2 ▸ more (more (Below.refl _ _) _) _
  have f0 : W2.cell? ⟨w.heap.size, 0, none⟩ = some (.int .i64 (E : Int)) := by rw [hW2]; simp [World.cell?_alloc_some]
  have f1 : W2.cell? ⟨w.heap.size, 1, none⟩ = some (.int .i64 (F : Int)) := by rw [hW2]; simp [World.cell?_alloc_some]
  have R2 : Box3 W2 (w.heap.size + 1) (.bool false) (.slice none 0 0) (.slice none 0 0) := by
    have := box3_new (w.alloc (.cells #[.int .i64 (E : Int), .int .i64 (F : Int)] 30)) (.bool false) (.slice none 0 0) (.slice none 0 0) 26
    rw [World.size_alloc] at this
    exact hW2 ▸ this
  have k1 := value_any (E : Int) (F : Int) b W2 hb64 (hT.below hb2)
  unfold Valued at k1
  rw [hv] at k1
  clear hv hx hb hb64 hf hT
  go_enter Tryz.func21, Tryz.ntmps21
  go_upto_region 1 with fail
  rw [← hW2]
  clear hW2
  go_wp2_with fail
  refine k1.mono ?_
  rintro en w5 ⟨ao, k, c, rfl, _, hb5⟩
  generalize valS (E : Int) (F : Int) b = s at *
  generalize valX (E : Int) (F : Int) b = X at *
  have h56 := more hb5 (.cells #[.bool s, .slice ao k c, .int .i64 X] 99)
  have V6 := next hb2 h56
  have R6 := R2.stay h56
  have hz0 := hb2.size
  clear R2 f0 f1 hb2 hb5 h56 k1
  go_upto_region 2 with fail
  generalize w5.alloc (.cells #[.bool s, .slice ao k c, .int .i64 X] 99) = w6 at *
  have ⟨r0, r1, r2, _, _, _⟩ := R6
  go_wp2
  obtain ⟨t0, t1, t2⟩ := R6.set (.bool false) (.slice none 0 0) (.slice none 0 0)
  refine bodyPost_ret (v := .tuple #[.agg #[.bool false, .slice none 0 0, .slice none 0 0], .bool false]) (by simp [results, Tryz.results21, go_sem, t0, t1, t2]) rfl ?_
  exact ⟨rfl, ((V6.setCell (by simp) _).setCell (by simp) _).setCell (by simp) _⟩

theorem and_one64 (b : Nat) (hb : b < 18446744073709551616) : bits BinOp.and IntKind.u64 (b : Int) 1 = ((b % 2 : Nat) : Int) := by
  have h := and_mask (sz := 1) (by decide) hb
  have h1 : ((maskN 1 : Nat) : Int) = 1 := by unfold maskN; rfl
  have h2 : pw 1 = 2 := by unfold pw; rfl
  rw [h1, h2] at h
  exact h

/-- A box of five numbers. -/
structure Box5 (w : World) (b : Nat) (f : Nat → Value) : Prop where
  c : ∀ j, j < 5 → w.cell? ⟨b, j, none⟩ = some (f j)

theorem Box5.stay {wp w' : World} {b : Nat} {f : Nat → Value} (h : Box5 wp b f) (k : Below wp.heap.size wp w') : Box5 w' b f := ⟨fun j hj => cellStay (h.c j hj) k⟩

theorem rat_self (q : Rat) : sgQ' (decide (q.num < 0)) q.num.natAbs q.den = q := by
  unfold sgQ'
  have : (if decide (q.num < 0) = true then -(q.num.natAbs : Int) else (q.num.natAbs : Int)) = q.num := by
    by_cases h : q.num < 0
    · rw [if_pos (decide_eq_true h)]
      omega
    · rw [if_neg (by simp [h])]
      omega
  rw [this]
  exact Rat.mkRat_self q

theorem box5_new (w : World) (v0 v1 v2 v3 v4 : Value) (t : TypeId) : (w.alloc (.cells #[v0, v1, v2, v3, v4] t)).cell? ⟨w.heap.size, 0, none⟩ = some v0 ∧ (w.alloc (.cells #[v0, v1, v2, v3, v4] t)).cell? ⟨w.heap.size, 1, none⟩ = some v1 ∧ (w.alloc (.cells #[v0, v1, v2, v3, v4] t)).cell? ⟨w.heap.size, 2, none⟩ = some v2 ∧ (w.alloc (.cells #[v0, v1, v2, v3, v4] t)).cell? ⟨w.heap.size, 3, none⟩ = some v3 ∧ (w.alloc (.cells #[v0, v1, v2, v3, v4] t)).cell? ⟨w.heap.size, 4, none⟩ = some v4 := ⟨by simp, by simp, by simp, by simp, by simp⟩

theorem rats_back {q : Rat} (l1 : ln q.num.natAbs ≤ 16384) (l2 : ln q.den ≤ 16384) : ratB (decide (q.num < 0)) (limbs q.num.natAbs) (limbs q.den) = true ∧ sgQ' (decide (q.num < 0)) (val (limbs q.num.natAbs)) (val (limbs q.den)) = q := by
  refine ⟨rat_limbs q l1 l2, ?_⟩
  rw [val_limbs', val_limbs']
  exact rat_self q

set_option maxRecDepth 100000 in
set_option maxHeartbeats 4000000 in
theorem halves5_any (s : Bool) (qa qb : Rat) (b0 b1 b2 b3 b4 : Nat) (a1 a2 p1 p2 r1 r2 : Option Addr) (n1 n2 k1 k2 l1 l2 c1 c2 d1 d2 e1 e2 : Nat) (xs ys : List Nat) (w : World)
    (h1 : Sl w a1 n1 c1 xs) (h2 : Sl w a2 n2 c2 ys) (h3 : Sl w p1 k1 d1 (limbs qa.num.natAbs)) (h4 : Sl w p2 k2 d2 (limbs qa.den)) (h5 : Sl w r1 l1 e1 (limbs qb.num.natAbs)) (h6 : Sl w r2 l2 e2 (limbs qb.den)) (hT : Tab w)
    (hr : ratB s xs ys = true) (m1 : n1 ≤ 60) (m2 : n2 ≤ 60) (m3 : ln qa.num.natAbs ≤ 34) (m4 : ln qa.den ≤ 34) (m5 : ln qb.num.natAbs ≤ 34) (m6 : ln qb.den ≤ 34) (hb4 : b4 < 18446744073709551616)
    (H : ∀ c, c = cmpQ (sgQ' s (val xs) (val ys) - qa) (qb - sgQ' s (val xs) (val ys)) → b0 = (if 0 < c ∨ c = 0 ∧ b4 % 2 = 1 then b3 else b4) ∧ b1 = (if 0 < c ∨ c = 0 ∧ s = false then b3 else b4)) :
    Calls Tryz.prog 22 #[.agg #[.bool s, .slice a1 n1 c1, .slice a2 n2 c2], .agg #[.bool (decide (qa.num < 0)), .slice p1 k1 d1, .slice p2 k2 d2], .agg #[.bool (decide (qb.num < 0)), .slice r1 l1 e1, .slice r2 l2 e2], .agg #[.int .u64 (b0 : Int), .int .u64 (b1 : Int), .int .u64 (b2 : Int), .int .u64 (b3 : Int), .int .u64 (b4 : Int)]] w fun en w' => en = .returned (.bool true) ∧ Below w.heap.size w w' := by
  obtain ⟨fx, fy, hD, hG, hs, _, _⟩ := rat_facts5 h1 h2 hr
  obtain ⟨q1, q2, _⟩ := mk_low hD hG hs
  have lN : ln (val xs) ≤ 60 := Nat.le_trans (ln_le (val_lt h1.ok)) (by rw [h1.len]; exact m1)
  have lD : ln (val ys) ≤ 60 := Nat.le_trans (ln_le (val_lt h2.ok)) (by rw [h2.len]; exact m2)
  obtain ⟨ta, ua⟩ := rats_back (q := qa) (by omega) (by omega)
  obtain ⟨tb, ub⟩ := rats_back (q := qb) (by omega) (by omega)
  obtain ⟨s1, s2⟩ := sub_len (sgQ' s (val xs) (val ys)) qa
  obtain ⟨s3, s4⟩ := sub_len qb (sgQ' s (val xs) (val ys))
  rw [q1, q2] at s1 s3
  rw [q2] at s2 s4
  obtain ⟨tL, uL⟩ := rats_back (q := sgQ' s (val xs) (val ys) - qa) (by omega) (by omega)
  obtain ⟨tR, uR⟩ := rats_back (q := qb - sgQ' s (val xs) (val ys)) (by omega) (by omega)
  have z3 := h3.len
  have z4 := h4.len
  have z5 := h5.len
  have z6 := h6.len
  have cL : ∀ W, Below w.heap.size w W → Calls Tryz.prog 11 #[.agg #[.bool s, .slice a1 n1 c1, .slice a2 n2 c2], .agg #[.bool (decide (qa.num < 0)), .slice p1 k1 d1, .slice p2 k2 d2]] W (RtnQ (sgQ' s (val xs) (val ys) - qa) W) := fun W hW => by
    unfold ln at m3 m4
    have := rtSub_ok s _ a1 a2 p1 p2 n1 n2 k1 k2 c1 c2 d1 d2 xs ys _ _ W (h1.below hW) (h2.below hW) (h3.below hW) (h4.below hW) (hT.below hW) hr ta (by omega) (by omega) (by omega) (by omega)
    rw [ua] at this
    exact this
  have cR : ∀ W, Below w.heap.size w W → Calls Tryz.prog 11 #[.agg #[.bool (decide (qb.num < 0)), .slice r1 l1 e1, .slice r2 l2 e2], .agg #[.bool s, .slice a1 n1 c1, .slice a2 n2 c2]] W (RtnQ (qb - sgQ' s (val xs) (val ys)) W) := fun W hW => by
    unfold ln at m5 m6
    have := rtSub_ok _ s r1 r2 a1 a2 l1 l2 n1 n2 e1 e2 c1 c2 _ _ xs ys W (h5.below hW) (h6.below hW) (h1.below hW) (h2.below hW) (hT.below hW) tb hr (by omega) (by omega) (by omega) (by omega)
    rw [ub] at this
    exact this
  obtain ⟨c, hc⟩ : ∃ c, c = cmpQ (sgQ' s (val xs) (val ys) - qa) (qb - sgQ' s (val xs) (val ys)) := ⟨_, rfl⟩
  obtain ⟨i0, i1⟩ := H c hc
  generalize sgQ' s (val xs) (val ys) - qa = qL at *
  generalize qb - sgQ' s (val xs) (val ys) = qR at *
  have cC : ∀ W t1 t2 t3 t4 v1 v2 v3 v4 g1 g2 g3 g4, Below w.heap.size w W → Sl W t1 v1 g1 (limbs qL.num.natAbs) → Sl W t2 v2 g2 (limbs qL.den) → Sl W t3 v3 g3 (limbs qR.num.natAbs) → Sl W t4 v4 g4 (limbs qR.den) → Calls Tryz.prog 12 #[.agg #[.bool (decide (qL.num < 0)), .slice t1 v1 g1, .slice t2 v2 g2], .agg #[.bool (decide (qR.num < 0)), .slice t3 v3 g3, .slice t4 v4 g4]] W fun en w' => en = .returned (.tuple #[.int .i64 c, .int .i64 0]) ∧ Below W.heap.size W w' := fun W t1 t2 t3 t4 v1 v2 v3 v4 g1 g2 g3 g4 hW j1 j2 j3 j4 => by
    have := rtCmp_ok _ _ t1 t2 t3 t4 v1 v2 v3 v4 g1 g2 g3 g4 _ _ _ _ W j1 j2 j3 j4 (hT.below hW) tL tR
    rw [uL, uR, ← hc] at this
    exact this
  have ha1 := and_one64 b4 hb4
  have I0 := Lib.hid i0
  have I1 := Lib.hid i1
  obtain ⟨W4, hW4⟩ : ∃ W4 : World, W4 = (((w.alloc (.cells #[.bool s, .slice a1 n1 c1, .slice a2 n2 c2] 26)).alloc (.cells #[.bool (decide (qa.num < 0)), .slice p1 k1 d1, .slice p2 k2 d2] 26)).alloc (.cells #[.bool (decide (qb.num < 0)), .slice r1 l1 e1, .slice r2 l2 e2] 26)).alloc (.cells #[.int .u64 (b0 : Int), .int .u64 (b1 : Int), .int .u64 (b2 : Int), .int .u64 (b3 : Int), .int .u64 (b4 : Int)] 53) := ⟨_, rfl⟩
  have hb5 : Below w.heap.size w W4 := hW4 ▸ more (more (more (more (Below.refl _ _) _) _) _) _
  have X4 : Box3 W4 w.heap.size (.bool s) (.slice a1 n1 c1) (.slice a2 n2 c2) := hW4 ▸ (((box3_new w _ _ _ _).alloc _).alloc _).alloc _
  have A4 : Box3 W4 (w.heap.size + 1) (.bool (decide (qa.num < 0))) (.slice p1 k1 d1) (.slice p2 k2 d2) := by
    have := ((box3_new (w.alloc (.cells #[.bool s, .slice a1 n1 c1, .slice a2 n2 c2] 26)) (.bool (decide (qa.num < 0))) (.slice p1 k1 d1) (.slice p2 k2 d2) 26).alloc (.cells #[.bool (decide (qb.num < 0)), .slice r1 l1 e1, .slice r2 l2 e2] 26)).alloc (.cells #[.int .u64 (b0 : Int), .int .u64 (b1 : Int), .int .u64 (b2 : Int), .int .u64 (b3 : Int), .int .u64 (b4 : Int)] 53)
    rw [World.size_alloc] at this
    exact hW4 ▸ this
  have B4 : Box3 W4 (w.heap.size + 2) (.bool (decide (qb.num < 0))) (.slice r1 l1 e1) (.slice r2 l2 e2) := by
    have := (box3_new ((w.alloc (.cells #[.bool s, .slice a1 n1 c1, .slice a2 n2 c2] 26)).alloc (.cells #[.bool (decide (qa.num < 0)), .slice p1 k1 d1, .slice p2 k2 d2] 26)) (.bool (decide (qb.num < 0))) (.slice r1 l1 e1) (.slice r2 l2 e2) 26).alloc (.cells #[.int .u64 (b0 : Int), .int .u64 (b1 : Int), .int .u64 (b2 : Int), .int .u64 (b3 : Int), .int .u64 (b4 : Int)] 53)
    rw [World.size_alloc, World.size_alloc] at this
    exact hW4 ▸ this
  obtain ⟨y0, y1, _, y3, y4⟩ : W4.cell? ⟨w.heap.size + 3, 0, none⟩ = some (.int .u64 (b0 : Int)) ∧ W4.cell? ⟨w.heap.size + 3, 1, none⟩ = some (.int .u64 (b1 : Int)) ∧ W4.cell? ⟨w.heap.size + 3, 2, none⟩ = some (.int .u64 (b2 : Int)) ∧ W4.cell? ⟨w.heap.size + 3, 3, none⟩ = some (.int .u64 (b3 : Int)) ∧ W4.cell? ⟨w.heap.size + 3, 4, none⟩ = some (.int .u64 (b4 : Int)) := by
    have := box5_new (((w.alloc (.cells #[.bool s, .slice a1 n1 c1, .slice a2 n2 c2] 26)).alloc (.cells #[.bool (decide (qa.num < 0)), .slice p1 k1 d1, .slice p2 k2 d2] 26)).alloc (.cells #[.bool (decide (qb.num < 0)), .slice r1 l1 e1, .slice r2 l2 e2] 26)) (.int .u64 (b0 : Int)) (.int .u64 (b1 : Int)) (.int .u64 (b2 : Int)) (.int .u64 (b3 : Int)) (.int .u64 (b4 : Int)) 53
    rw [World.size_alloc, World.size_alloc, World.size_alloc] at this
    exact hW4 ▸ this
  have hA1 := Lib.hid ha1
  clear ha1 i0 i1 H hc tL uL tR uR ta ua tb ub s1 s2 s3 s4 z3 z4 z5 z6 q1 q2 lN lD fx fy hD hG hs hr m1 m2 m3 m4 m5 m6 h1 h2 h3 h4 h5 h6 hT hb4
  have ⟨x0, x1, x2, _, _, _⟩ := X4
  have ⟨f0, f1, f2, _, _, _⟩ := A4
  go_enter Tryz.func22, Tryz.ntmps22
  go_upto_region 1 with fail
  rw [← hW4]
  clear hW4
  go_wp2_with fail
  with_reducible refine (cL W4 hb5).mono ?_
  rintro en w5 ⟨t1, v1, g1, t2, v2, g2, rfl, F1, F2, _, hb⟩
  have h56 := more hb (.cells #[.bool (decide (qL.num < 0)), .slice t1 v1 g1, .slice t2 v2 g2] 26)
  have V6 := next hb5 h56
  have X6 := X4.stay h56
  have B6 := B4.stay h56
  replace y0 := cellStay y0 h56
  replace y1 := cellStay y1 h56
  replace y3 := cellStay y3 h56
  replace y4 := cellStay y4 h56
  have L6 := box3_new w5 (.bool (decide (qL.num < 0))) (.slice t1 v1 g1) (.slice t2 v2 g2) 26
  have G1 := (F1.alloc (.cells #[.bool (decide (qL.num < 0)), .slice t1 v1 g1, .slice t2 v2 g2] 26)).sl
  have G2 := (F2.alloc (.cells #[.bool (decide (qL.num < 0)), .slice t1 v1 g1, .slice t2 v2 g2] 26)).sl
  clear x0 x1 x2 f0 f1 f2 X4 A4 B4 hb hb5 h56 F1 F2 cL
  go_upto_region 2 with fail
  obtain ⟨Y, hY⟩ : ∃ q, q = w5.heap.size := ⟨_, rfl⟩
  rw [← hY] at L6 ⊢
  clear hY
  generalize w5.alloc (.cells #[.bool (decide (qL.num < 0)), .slice t1 v1 g1, .slice t2 v2 g2] 26) = w6 at *
  have ⟨x0, x1, x2, _, _, _⟩ := X6
  have ⟨f0, f1, f2, _, _, _⟩ := B6
  go_wp2_with fail
  with_reducible refine (cR w6 V6).mono ?_
  rintro en w7 ⟨t3, v3, g3, t4, v4, g4, rfl, F3, F4, _, hb⟩
  have h68 := more hb (.cells #[.bool (decide (qR.num < 0)), .slice t3 v3 g3, .slice t4 v4 g4] 26)
  have V8 := next V6 h68
  have X8 := X6.stay h68
  have L8 := L6.stay h68
  replace y0 := cellStay y0 h68
  replace y1 := cellStay y1 h68
  replace y3 := cellStay y3 h68
  replace y4 := cellStay y4 h68
  have R8 := box3_new w7 (.bool (decide (qR.num < 0))) (.slice t3 v3 g3) (.slice t4 v4 g4) 26
  have G3 := (F3.alloc (.cells #[.bool (decide (qR.num < 0)), .slice t3 v3 g3, .slice t4 v4 g4] 26)).sl
  have G4 := (F4.alloc (.cells #[.bool (decide (qR.num < 0)), .slice t3 v3 g3, .slice t4 v4 g4] 26)).sl
  replace G1 := G1.below h68
  replace G2 := G2.below h68
  clear x0 x1 x2 f0 f1 f2 X6 B6 L6 V6 hb h68 F3 F4 cR
  go_upto_region 3 with fail
  obtain ⟨Z, hZ⟩ : ∃ q, q = w7.heap.size := ⟨_, rfl⟩
  rw [← hZ] at R8 ⊢
  clear hZ
  generalize w7.alloc (.cells #[.bool (decide (qR.num < 0)), .slice t3 v3 g3, .slice t4 v4 g4] 26) = w8 at *
  have ⟨x0, x1, x2, _, _, _⟩ := L8
  have ⟨f0, f1, f2, _, _, _⟩ := R8
  go_wp2_with fail
  with_reducible refine (cC w8 _ _ _ _ _ _ _ _ _ _ _ _ V8 G1 G2 G3 G4).mono ?_
  rintro en w9 ⟨rfl, hb⟩
  have V9 := next V8 hb
  have X9 := X8.stay hb
  replace y0 := cellStay y0 hb
  replace y1 := cellStay y1 hb
  replace y3 := cellStay y3 hb
  replace y4 := cellStay y4 hb
  clear x0 x1 x2 f0 f1 f2 L8 R8 X8 V8 hb G1 G2 G3 G4 cC
  obtain ⟨x0, _, _, _, _, _⟩ := X9
  generalize w.heap.size + 3 = M at *
  go_upto_region 6 with fail
  go_quiet (fail)
  obtain ⟨pe, hpe⟩ : ∃ o, o = decide (0 < c ∨ c = 0 ∧ b4 % 2 = 1) := ⟨_, rfl⟩
  have HPE := Lib.hid hpe
  obtain ⟨pw, hpw⟩ : ∃ o, o = decide (0 < c ∨ c = 0 ∧ s = false) := ⟨_, rfl⟩
  have HPW := Lib.hid hpw
  have E0 : Hid (b0 = if pe = true then b3 else b4) := Lib.hid (by rw [hpe]; have := I0.out; simpa using this)
  have E1 : Hid (b1 = if pw = true then b3 else b4) := Lib.hid (by rw [hpw]; have := I1.out; simpa using this)
  clear hpe hpw I0 I1
  go_upto_region 7 with fail
  have hq9 : Below w9.heap.size w9 (w9.drewN nq) := drewn (Below.refl _ _) nq
  replace V9 := next V9 hq9
  replace y0 := cellStay y0 hq9
  replace y1 := cellStay y1 hq9
  replace y3 := cellStay y3 hq9
  replace y4 := cellStay y4 hq9
  replace x0 := cellStay x0 hq9
  clear hq9
  generalize w9.drewN nq = wD at *
  go_cut [60] from 17 (fun v60 wx => wx = wD ∧ v60 = .bool pe)
  case first => as_aux_lemma =>
    rcases Int.lt_trichotomy c 0 with hc | hc | hc
    · have g1 : ¬ c > 0 := by omega
      have g2 : ¬ c = 0 := by omega
      have h3 : pe = false := by rw [HPE.out]; exact decide_eq_false (by omega)
      subst h3
      clear hc
      go_wp2
      go_meet
      exact ⟨rfl, rfl⟩
    · subst hc
      have h3 : pe = decide (b4 % 2 = 1) := by rw [HPE.out]; simp
      have ha1 := hA1.out
      rcases Nat.mod_two_eq_zero_or_one b4 with hg | hg
      · rw [hg] at h3 ha1
        obtain rfl : pe = false := h3
        clear hg
        go_wp2
        go_meet
        exact ⟨rfl, rfl⟩
      · rw [hg] at h3 ha1
        obtain rfl : pe = true := h3
        clear hg
        go_wp2
        go_meet
        exact ⟨rfl, rfl⟩
    · have g1 : c > 0 := hc
      have h3 : pe = true := by rw [HPE.out]; exact decide_eq_true (.inl hc)
      subst h3
      clear hc
      go_wp2
      go_meet
      exact ⟨rfl, rfl⟩
  case rest => as_aux_lemma =>
    obtain ⟨rfl, rfl⟩ := hcut
    generalize wc = wD at *
    go_upto_if 60 with fail
    go_cut [15] from 60 to 62 (fun v15 wx => wx = wD ∧ v15 = .int .u64 (b0 : Int))
    case first => as_aux_lemma =>
      cases pe
      · go_wp2
        go_meet
        exact ⟨rfl, by rw [show b0 = b4 by simpa using E0.out]⟩
      · go_wp2
        go_meet
        exact ⟨rfl, by rw [show b0 = b3 by simpa using E0.out]⟩
    case rest => as_aux_lemma =>
      obtain ⟨rfl, rfl⟩ := hcut
      generalize wc = wD at *
      go_upto_region 9 with fail
      go_cut [73] from 63 to 73 (fun v73 wx => wx = wD ∧ v73 = .bool pw)
      case first => as_aux_lemma =>
        rcases Int.lt_trichotomy c 0 with hc | hc | hc
        · have g1 : ¬ c > 0 := by omega
          have g2 : ¬ c = 0 := by omega
          have h3 : pw = false := by rw [HPW.out]; exact decide_eq_false (by omega)
          subst h3
          clear hc
          go_wp2
          go_meet
          exact ⟨rfl, rfl⟩
        · subst hc
          have h3 : pw = !s := by rw [HPW.out]; cases s <;> simp
          subst h3
          cases s <;> (go_wp2; go_meet; exact ⟨rfl, rfl⟩)
        · have g1 : c > 0 := hc
          have h3 : pw = true := by rw [HPW.out]; exact decide_eq_true (.inl hc)
          subst h3
          clear hc
          go_wp2
          go_meet
          exact ⟨rfl, rfl⟩
      case rest => as_aux_lemma =>
        obtain ⟨rfl, rfl⟩ := hcut
        generalize wc = wD at *
        go_upto_if 73 with fail
        go_cut [16] from 73 to 75 (fun v16 wx => wx = wD ∧ v16 = .int .u64 (b1 : Int))
        case first => as_aux_lemma =>
          cases pw
          · go_wp2
            go_meet
            exact ⟨rfl, by rw [show b1 = b4 by simpa using E1.out]⟩
          · go_wp2
            go_meet
            exact ⟨rfl, by rw [show b1 = b3 by simpa using E1.out]⟩
        case rest => as_aux_lemma =>
          obtain ⟨rfl, rfl⟩ := hcut
          generalize wc = wD at *
          go_wp2
          go_ret
          exact ⟨by simp, V9⟩

end Go.Proofs.YteoceoepakfgiaaGreatDoor

