/-
  The walk of the law TurnThere: it answers true, whatever it is asked; nothing that was there has turned.
-/
import Derived.Test.YtaddnoneoflimaaGreatDoorQTwBase
import Derived.Test.YtaddnoneoflimaaGreatDoorQZTurNa
import Derived.Test.YtaddnoneoflimaaGreatDoorQZTurIK
import Derived.Test.YtaddnoneoflimaaGreatDoorQZTurX
import Derived.Test.YtaddnoneoflimaaGreatDoorQZTheL
import Derived.Test.YtaddnoneoflimaaGreatDoorQZTheM
namespace Go.Proofs.YtaddnoneoflimaaGreatDoor

open Go.RowKit Go.Lb

attribute [local go_sem] Go.World.cell?_alloc_some

theorem shift_low (n : Int) (h1 : -9223372036854775808 ≤ n) (h2 : n ≤ 9223372036854775807) : (-9007199254740992 ≤ n / 1024 ∧ n / 1024 ≤ 9007199254740992) ∧ -16777216 ≤ n / 549755813888 ∧ n / 549755813888 ≤ 16777216 := by
  omega

theorem cut_there64 {n : Int} (h1 : -9007199254740992 ≤ n) (h2 : n ≤ 9007199254740992) : cuV (-9223372036854775808) 9223372036854775808 (finB 11 52 (nrB 11 52 n)) (tzV 11 52 (nrB 11 52 n)) = n ∧ cuB (-9223372036854775808) 9223372036854775808 (finB 11 52 (nrB 11 52 n)) (tzV 11 52 (nrB 11 52 n)) = true := by
  obtain ⟨f1, f2⟩ := there64 h1 h2 false 0 rfl
  have f1' : finB 11 52 (nrB 11 52 n) = true := f1
  have f2' : tzV 11 52 (nrB 11 52 n) = n := f2
  rw [f2']
  obtain ⟨a, b⟩ := cu_yes (lo := -9223372036854775808) (hi := 9223372036854775808) (t := n) f1' (by omega) (by omega)
  exact ⟨b, a⟩

theorem cut_there32 {n : Int} (h1 : -16777216 ≤ n) (h2 : n ≤ 16777216) : cuV (-9223372036854775808) 9223372036854775808 (finB 8 23 (nrB 8 23 n)) (tzV 8 23 (nrB 8 23 n)) = n ∧ cuB (-9223372036854775808) 9223372036854775808 (finB 8 23 (nrB 8 23 n)) (tzV 8 23 (nrB 8 23 n)) = true := by
  obtain ⟨f1, f2⟩ := there32 h1 h2 false 0 rfl
  have f1' : finB 8 23 (nrB 8 23 n) = true := f1
  have f2' : tzV 8 23 (nrB 8 23 n) = n := f2
  rw [f2']
  obtain ⟨a, b⟩ := cu_yes (lo := -9223372036854775808) (hi := 9223372036854775808) (t := n) f1' (by omega) (by omega)
  exact ⟨b, a⟩

/-- What FromInt answers without a flag comes back by Int. -/
theorem there_back (e f n : Int) (m : Nat) (W : World) (hm : m < 5) (h1 : -9223372036854775808 ≤ n) (h2 : n ≤ 9223372036854775807) (he : fiE e f m = 0) (hg : fiG e f n m = 0) (hT : Tab W) :
    Calls Tryz.prog 24 #[.agg #[.int .i64 e, .int .i64 f], .int .u64 (fiB e f n m : Int), .int .i64 64, .int .u8 (m : Int)] W fun en w' => en = .returned (.tuple #[.int .i64 n, .int .u8 0, .int .i64 0]) ∧ Below W.heap.size W w' := by
  have hf : formE e f = 0 := by
    unfold fiE at he
    by_cases h : formE e f ≠ 0
    · rw [if_pos h] at he
      cases he
    · exact Decidable.not_not.1 h
  obtain ⟨E, F, rfl, rfl⟩ : ∃ E F : Nat, e = (E : Int) ∧ f = (F : Int) := by
    have := formE_ok hf
    exact ⟨e.toNat, f.toNat, by omega, by omega⟩
  have hb : fiB (E : Int) (F : Int) n m = sgBits E F n.natAbs 1 (decide (n < 0)) false m := by
    unfold fiB
    rw [if_pos he, Int.toNat_natCast, Int.toNat_natCast]
  have hg' : sgFlags E F n.natAbs 1 (decide (n < 0)) m = 0 := by
    unfold fiG at hg
    rwa [if_pos he, Int.toNat_natCast, Int.toNat_natCast] at hg
  obtain ⟨b1, b2, b3⟩ := from_back hf hm h1 h2 hg'
  rw [hb]
  have h := turnIntB_any 64 9223372036854775808 63 E F _ m W (.inr (.inr (.inr ⟨rfl, rfl, rfl⟩))) hf b1 hm hT
  rw [b2, b3] at h
  exact h

/-- What the law asks of a double. -/
theorem there_way (a : Nat) :
    (∃ (c : Nat) (t : Int) (u1 u2 : Nat), exN 11 52 a ≠ maskN 11 ∧ tcN a = c ∧ cuV (-9223372036854775808) 9223372036854775808 (finB 11 52 a) (tzV 11 52 a) = t ∧ cuB (-9223372036854775808) 9223372036854775808 (finB 11 52 a) (tzV 11 52 a) = true ∧
      (FloatKind.f64.format.order c (floatOfInt .f64 t) == some .eq) = true ∧
      floatBits .sub .f64 a (floatOfInt .f64 t) = some u1 ∧ (FloatKind.f64.format.order u1 4607182418800017408 == some .lt) = true ∧
      floatBits .sub .f64 (floatOfInt .f64 t) a = some u2 ∧ (FloatKind.f64.format.order u2 4607182418800017408 == some .lt) = true ∧
      ((FloatKind.f64.format.order (floatOfInt .f64 t) a == some .lt || FloatKind.f64.format.order (floatOfInt .f64 t) a == some .eq) = true ∨ ((FloatKind.f64.format.order (floatOfInt .f64 t) a == some .lt || FloatKind.f64.format.order (floatOfInt .f64 t) a == some .eq) = false ∧ (FloatKind.f64.format.order a 0 == some .lt) = true)) ∧
      ((FloatKind.f64.format.order (floatOfInt .f64 t) a == some .gt || FloatKind.f64.format.order (floatOfInt .f64 t) a == some .eq) = true ∨ ((FloatKind.f64.format.order (floatOfInt .f64 t) a == some .gt || FloatKind.f64.format.order (floatOfInt .f64 t) a == some .eq) = false ∧ (FloatKind.f64.format.order a 0 == some .gt) = true))) ∨
    (cuV (-9223372036854775808) 9223372036854775808 (finB 11 52 a) (tzV 11 52 a) = 0 ∧ cuB (-9223372036854775808) 9223372036854775808 (finB 11 52 a) (tzV 11 52 a) = false ∧
      ((FloatKind.f64.format.order a 14114281232179134464 == some .gt) = false ∨ ((FloatKind.f64.format.order a 14114281232179134464 == some .gt) = true ∧ (FloatKind.f64.format.order a 4890909195324358656 == some .lt) = false))) := by
  by_cases hin : finB 11 52 a = true ∧ -9223372036854775808 ≤ tzV 11 52 a ∧ tzV 11 52 a < 9223372036854775808
  · have hx : exN 11 52 a ≠ maskN 11 := of_decide_eq_true hin.1
    obtain ⟨p1, p2⟩ := cu_yes (lo := -9223372036854775808) (hi := 9223372036854775808) hin.1 hin.2.1 hin.2.2
    obtain ⟨t1, ⟨d1, e1, l1⟩, ⟨d2, e2, l2⟩, m1, m2⟩ := there_facts hx
    left
    rw [p1, p2]
    refine ⟨tcN a, tzN a, d1, d2, hx, rfl, rfl, rfl, t1, e1, l1, e2, l2, ?_, ?_⟩
    · generalize (FloatKind.f64.format.order (floatOfInt .f64 (tzN a)) a == some .lt || FloatKind.f64.format.order (floatOfInt .f64 (tzN a)) a == some .eq) = B at *
      cases B
      · exact .inr ⟨rfl, m1.resolve_left Bool.false_ne_true⟩
      · exact .inl rfl
    · generalize (FloatKind.f64.format.order (floatOfInt .f64 (tzN a)) a == some .gt || FloatKind.f64.format.order (floatOfInt .f64 (tzN a)) a == some .eq) = B at *
      cases B
      · exact .inr ⟨rfl, m2.resolve_left Bool.false_ne_true⟩
      · exact .inl rfl
  · obtain ⟨p1, p2⟩ := cu_no (lo := -9223372036854775808) (hi := 9223372036854775808) hin
    have ho := out_facts hin
    right
    rw [p1, p2]
    refine ⟨rfl, rfl, ?_⟩
    generalize (FloatKind.f64.format.order a 14114281232179134464 == some .gt) = B at *
    cases B
    · exact .inl rfl
    · exact .inr ⟨rfl, ho.resolve_left (fun h => Bool.noConfusion h)⟩

set_option maxRecDepth 100000 in
set_option maxHeartbeats 8000000 in
theorem turnThere_any (e f n : Int) (mm a : Nat) (w : World) (h1 : -9223372036854775808 ≤ n) (h2 : n ≤ 9223372036854775807) (hmm : mm < 256) (_ha : a < 18446744073709551616) (hT : Tab w) :
    Calls Tryz.prog 4 #[.agg #[.int .i64 e, .int .i64 f], .int .i64 n, .int .u8 (mm : Int), .int .u64 (a : Int)] w fun en w' => en = .returned (.bool true) ∧ Below w.heap.size w w' := by
  have hW := more (Below.refl w.heap.size w) (.cells #[.int .i64 e, .int .i64 f] 31)
  have A := box2_new w (.int .i64 e) (.int .i64 f) 31
  have ⟨a0, a1⟩ := A
  obtain ⟨⟨s1, s2⟩, s3, s4⟩ := shift_low n h1 h2
  have cA : ∀ W, Below w.heap.size w W → Calls Tryz.prog 10 #[] W _ := fun W hW => alive8_any W (hT.below hW)
  have c1 : ∀ W, Below w.heap.size w W → Calls Tryz.prog 20 #[.int .i64 (n / 1024)] W _ := fun W hW => near_F64_int64 (n / 1024) W (by omega) (by omega) (hT.below hW)
  have c2 : ∀ W, Below w.heap.size w W → Calls Tryz.prog 22 #[.int .i64 (n / 549755813888)] W _ := fun W hW => near_F32_int64 (n / 549755813888) W (by omega) (by omega) (hT.below hW)
  have c3 := fun W => cut_F64_int64 (nrB 11 52 (n / 1024)) W
  have c4 := fun W => cut_F32_int64 (nrB 8 23 (n / 549755813888)) W
  rw [(cut_there64 s1 s2).1, (cut_there64 s1 s2).2] at c3
  rw [(cut_there32 s3 s4).1, (cut_there32 s3 s4).2] at c4
  obtain ⟨m, hm, hmod⟩ : ∃ m : Nat, m < 5 ∧ ((mm : Int) % 5) = (m : Int) := ⟨mm % 5, Nat.mod_lt _ (by decide), by omega⟩
  have hmt : (mm : Int).tmod 5 = (m : Int) := by rw [Int.tmod_eq_emod_of_nonneg (by omega)]; exact hmod
  have cP : ∀ W, Below w.heap.size w W → Calls Tryz.prog 23 #[.agg #[.int .i64 e, .int .i64 f], .int .i64 n, .int .u8 (m : Int)] W _ := fun W hW => turnFromInt_any e f n m W h1 h2 (hT.below hW)
  have cB : fiE e f m = 0 → fiG e f n m = 0 → ∀ W, Below w.heap.size w W → Calls Tryz.prog 24 #[.agg #[.int .i64 e, .int .i64 f], .int .u64 (fiB e f n m : Int), .int .i64 64, .int .u8 (m : Int)] W _ := fun he hg W hW => there_back e f n m W hm h1 h2 he hg (hT.below hW)
  have hfb : ∀ (z : Nat) (W : World), (callFunc 11 #[.int .u64 z]).run Tryz.prog W = .ok (.value (.float .f64 z)) W := fun z W =>
    (run_callFunc_extern Tryz.func11 (by kernel_rfl) (by kernel_rfl) (by kernel_rfl) (e := Extern.MathFloatBits.float64frombits) (by kernel_rfl) _ W).trans rfl
  have cC := fun W => cut_F64_int64 a W
  have hL := Lib.hid (there_way a)
  clear s1 s2 s3 s4 hT
  have hway : (fiE e f m = 0 ∧ fiG e f n m = 0) ∨ (fiE e f m = 0 ∧ fiG e f n m ≠ 0) ∨ fiE e f m ≠ 0 := by
    by_cases h1 : fiE e f m = 0
    · by_cases h2 : fiG e f n m = 0
      · exact .inl ⟨h1, h2⟩
      · exact .inr (.inl ⟨h1, h2⟩)
    · exact .inr (.inr h1)
  rcases hway with ⟨x1, x2⟩ | ⟨x1, x2⟩ | x1
  · replace cB := cB x1 x2
    rw [x1, x2] at cP
    clear x1 x2
    generalize fiB e f n m = oB at *
    go_enter Tryz.func4, Tryz.ntmps4
    go_wp2_with (first
      | (go_at_call 10; (with_reducible refine (cA _ hW).mono ?_); rintro en w1 ⟨rfl, hb1⟩; replace hW := next hW hb1; replace A := A.stay hb1; have ⟨a0, a1⟩ := A)
      | (go_at_call 20; (with_reducible refine (c1 _ hW).mono ?_); rintro en w1 ⟨rfl, hb1⟩; replace hW := next hW hb1; replace A := A.stay hb1; have ⟨a0, a1⟩ := A)
      | (go_at_call 22; (with_reducible refine (c2 _ hW).mono ?_); rintro en w1 ⟨rfl, hb1⟩; replace hW := next hW hb1; replace A := A.stay hb1; have ⟨a0, a1⟩ := A)
      | (go_at_call 19; (with_reducible refine (c3 _).mono ?_); rintro en w1 ⟨rfl, hb1⟩; replace hW := next hW hb1; replace A := A.stay hb1; have ⟨a0, a1⟩ := A)
      | (go_at_call 21; (with_reducible refine (c4 _).mono ?_); rintro en w1 ⟨rfl, hb1⟩; replace hW := next hW hb1; replace A := A.stay hb1; have ⟨a0, a1⟩ := A)
      | (go_at_call 23; (with_reducible refine (cP _ hW).mono ?_); rintro en w1 ⟨rfl, hb1⟩; replace hW := next hW hb1; replace A := A.stay hb1; have ⟨a0, a1⟩ := A)
      | (go_at_call 24; (with_reducible refine (cB _ hW).mono ?_); rintro en w1 ⟨rfl, hb1⟩; replace hW := next hW hb1; replace A := A.stay hb1; have ⟨a0, a1⟩ := A))
    clear c1 c2 c3 c4 cA cP
    rcases hL.out with ⟨c, t, u1, u2, hx, hc, v1, v2, o1, q1, l1, q2, l2, m1, m2⟩ | ⟨v1, v2, mm1⟩
    · have cT := fun W => mathTrunc_fin (b := a) W hx
      rw [hc] at cT
      rw [v1, v2] at cC
      have r1 : ∀ W : World, (binOp .sub 25 (.float .f64 a) (.float .f64 (floatOfInt .f64 t))).run Tryz.prog W = .ok (.float .f64 u1) W := fun W => run_float_arith W .sub _ .f64 _ _ _ q1
      have r2 : ∀ W : World, (binOp .sub 25 (.float .f64 (floatOfInt .f64 t)) (.float .f64 a)).run Tryz.prog W = .ok (.float .f64 u2) W := fun W => run_float_arith W .sub _ .f64 _ _ _ q2
      clear hL hx hc v1 v2 q1 q2
      go_wp2_with fail
      refine (cC _).mono ?_
      rintro en wK ⟨rfl, hbK⟩
      replace hW := next hW hbK
      go_wp2_with fail
      refine (cT _).mono ?_
      rintro en wL ⟨rfl, rfl⟩
      clear cC cT
      rcases m1 with m1 | ⟨m1, m1'⟩ <;> rcases m2 with m2 | ⟨m2, m2'⟩
      all_goals go_wp2
      all_goals go_ret
      all_goals exact ⟨rfl, hW⟩
    · rw [v1, v2] at cC
      clear hL v1 v2
      go_wp2_with fail
      refine (cC _).mono ?_
      rintro en wK ⟨rfl, hbK⟩
      replace hW := next hW hbK
      clear cC
      rcases mm1 with mm1 | ⟨mm1, mm2⟩
      all_goals go_wp2
      all_goals go_ret
      all_goals exact ⟨rfl, hW⟩
  · rw [x1] at cP
    have x3 : ¬ (fiG e f n m : Int) = 0 := by omega
    clear x1 x2 cB
    generalize fiB e f n m = oB at *
    generalize fiG e f n m = oG at *
    go_enter Tryz.func4, Tryz.ntmps4
    go_wp2_with (first
      | (go_at_call 10; (with_reducible refine (cA _ hW).mono ?_); rintro en w1 ⟨rfl, hb1⟩; replace hW := next hW hb1; replace A := A.stay hb1; have ⟨a0, a1⟩ := A)
      | (go_at_call 20; (with_reducible refine (c1 _ hW).mono ?_); rintro en w1 ⟨rfl, hb1⟩; replace hW := next hW hb1; replace A := A.stay hb1; have ⟨a0, a1⟩ := A)
      | (go_at_call 22; (with_reducible refine (c2 _ hW).mono ?_); rintro en w1 ⟨rfl, hb1⟩; replace hW := next hW hb1; replace A := A.stay hb1; have ⟨a0, a1⟩ := A)
      | (go_at_call 19; (with_reducible refine (c3 _).mono ?_); rintro en w1 ⟨rfl, hb1⟩; replace hW := next hW hb1; replace A := A.stay hb1; have ⟨a0, a1⟩ := A)
      | (go_at_call 21; (with_reducible refine (c4 _).mono ?_); rintro en w1 ⟨rfl, hb1⟩; replace hW := next hW hb1; replace A := A.stay hb1; have ⟨a0, a1⟩ := A)
      | (go_at_call 23; (with_reducible refine (cP _ hW).mono ?_); rintro en w1 ⟨rfl, hb1⟩; replace hW := next hW hb1; replace A := A.stay hb1; have ⟨a0, a1⟩ := A)
      | (go_at_call 24; (with_reducible refine (cB _ hW).mono ?_); rintro en w1 ⟨rfl, hb1⟩; replace hW := next hW hb1; replace A := A.stay hb1; have ⟨a0, a1⟩ := A))
    clear c1 c2 c3 c4 cA cP
    rcases hL.out with ⟨c, t, u1, u2, hx, hc, v1, v2, o1, q1, l1, q2, l2, m1, m2⟩ | ⟨v1, v2, mm1⟩
    · have cT := fun W => mathTrunc_fin (b := a) W hx
      rw [hc] at cT
      rw [v1, v2] at cC
      have r1 : ∀ W : World, (binOp .sub 25 (.float .f64 a) (.float .f64 (floatOfInt .f64 t))).run Tryz.prog W = .ok (.float .f64 u1) W := fun W => run_float_arith W .sub _ .f64 _ _ _ q1
      have r2 : ∀ W : World, (binOp .sub 25 (.float .f64 (floatOfInt .f64 t)) (.float .f64 a)).run Tryz.prog W = .ok (.float .f64 u2) W := fun W => run_float_arith W .sub _ .f64 _ _ _ q2
      clear hL hx hc v1 v2 q1 q2
      go_wp2_with fail
      refine (cC _).mono ?_
      rintro en wK ⟨rfl, hbK⟩
      replace hW := next hW hbK
      go_wp2_with fail
      refine (cT _).mono ?_
      rintro en wL ⟨rfl, rfl⟩
      clear cC cT
      rcases m1 with m1 | ⟨m1, m1'⟩ <;> rcases m2 with m2 | ⟨m2, m2'⟩
      all_goals go_wp2
      all_goals go_ret
      all_goals exact ⟨rfl, hW⟩
    · rw [v1, v2] at cC
      clear hL v1 v2
      go_wp2_with fail
      refine (cC _).mono ?_
      rintro en wK ⟨rfl, hbK⟩
      replace hW := next hW hbK
      clear cC
      rcases mm1 with mm1 | ⟨mm1, mm2⟩
      all_goals go_wp2
      all_goals go_ret
      all_goals exact ⟨rfl, hW⟩
  · have x3 : ¬ fiE e f m = 0 := x1
    clear x1 cB
    generalize fiB e f n m = oB at *
    generalize fiG e f n m = oG at *
    generalize fiE e f m = oE at *
    go_enter Tryz.func4, Tryz.ntmps4
    go_wp2_with (first
      | (go_at_call 10; (with_reducible refine (cA _ hW).mono ?_); rintro en w1 ⟨rfl, hb1⟩; replace hW := next hW hb1; replace A := A.stay hb1; have ⟨a0, a1⟩ := A)
      | (go_at_call 20; (with_reducible refine (c1 _ hW).mono ?_); rintro en w1 ⟨rfl, hb1⟩; replace hW := next hW hb1; replace A := A.stay hb1; have ⟨a0, a1⟩ := A)
      | (go_at_call 22; (with_reducible refine (c2 _ hW).mono ?_); rintro en w1 ⟨rfl, hb1⟩; replace hW := next hW hb1; replace A := A.stay hb1; have ⟨a0, a1⟩ := A)
      | (go_at_call 19; (with_reducible refine (c3 _).mono ?_); rintro en w1 ⟨rfl, hb1⟩; replace hW := next hW hb1; replace A := A.stay hb1; have ⟨a0, a1⟩ := A)
      | (go_at_call 21; (with_reducible refine (c4 _).mono ?_); rintro en w1 ⟨rfl, hb1⟩; replace hW := next hW hb1; replace A := A.stay hb1; have ⟨a0, a1⟩ := A)
      | (go_at_call 23; (with_reducible refine (cP _ hW).mono ?_); rintro en w1 ⟨rfl, hb1⟩; replace hW := next hW hb1; replace A := A.stay hb1; have ⟨a0, a1⟩ := A)
      | (go_at_call 24; (with_reducible refine (cB _ hW).mono ?_); rintro en w1 ⟨rfl, hb1⟩; replace hW := next hW hb1; replace A := A.stay hb1; have ⟨a0, a1⟩ := A))
    clear c1 c2 c3 c4 cA cP
    rcases hL.out with ⟨c, t, u1, u2, hx, hc, v1, v2, o1, q1, l1, q2, l2, m1, m2⟩ | ⟨v1, v2, mm1⟩
    · have cT := fun W => mathTrunc_fin (b := a) W hx
      rw [hc] at cT
      rw [v1, v2] at cC
      have r1 : ∀ W : World, (binOp .sub 25 (.float .f64 a) (.float .f64 (floatOfInt .f64 t))).run Tryz.prog W = .ok (.float .f64 u1) W := fun W => run_float_arith W .sub _ .f64 _ _ _ q1
      have r2 : ∀ W : World, (binOp .sub 25 (.float .f64 (floatOfInt .f64 t)) (.float .f64 a)).run Tryz.prog W = .ok (.float .f64 u2) W := fun W => run_float_arith W .sub _ .f64 _ _ _ q2
      clear hL hx hc v1 v2 q1 q2
      go_wp2_with fail
      refine (cC _).mono ?_
      rintro en wK ⟨rfl, hbK⟩
      replace hW := next hW hbK
      go_wp2_with fail
      refine (cT _).mono ?_
      rintro en wL ⟨rfl, rfl⟩
      clear cC cT
      rcases m1 with m1 | ⟨m1, m1'⟩ <;> rcases m2 with m2 | ⟨m2, m2'⟩
      all_goals go_wp2
      all_goals go_ret
      all_goals exact ⟨rfl, hW⟩
    · rw [v1, v2] at cC
      clear hL v1 v2
      go_wp2_with fail
      refine (cC _).mono ?_
      rintro en wK ⟨rfl, hbK⟩
      replace hW := next hW hbK
      clear cC
      rcases mm1 with mm1 | ⟨mm1, mm2⟩
      all_goals go_wp2
      all_goals go_ret
      all_goals exact ⟨rfl, hW⟩

end Go.Proofs.YtaddnoneoflimaaGreatDoor

