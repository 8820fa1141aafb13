/-
  The walk of numerallaw08.alive.
-/
import Derived.Test.YtaddnoneoflimaaGreatDoorQbTMT28
import Derived.Test.YtaddnoneoflimaaGreatDoorQbTTurI8
namespace Go.Proofs.YtaddnoneoflimaaGreatDoor

open Go.RowKit Go.Lb

attribute [local go_sem] Go.World.cell?_alloc_some

theorem trunc_a (W : World) : (callFunc 128 #[.float .f64 4638700579317193114]).run Tryz.prog W = .ok (.value (.float .f64 4638637247447433216)) W :=
  (run_callFunc_extern Tryz.func128 (by kernel_rfl) (by kernel_rfl) (by kernel_rfl) (e := Extern.MathFloor.toIntegral "math.archTrunc" .zero) (by kernel_rfl) _ W).trans (by kernel_rfl)

theorem trunc_b (W : World) : (callFunc 128 #[.float .f64 13830554455654793216]).run Tryz.prog W = .ok (.value (.float .f64 13830554455654793216)) W :=
  (run_callFunc_extern Tryz.func128 (by kernel_rfl) (by kernel_rfl) (by kernel_rfl) (e := Extern.MathFloor.toIntegral "math.archTrunc" .zero) (by kernel_rfl) _ W).trans (by kernel_rfl)

theorem mathTrunc_a (w : World) :
    Calls Tryz.prog 25 #[.float .f64 4638700579317193114] w fun e w' => e = .returned (.float .f64 4638637247447433216) ∧ w = w' := by
  have h := trunc_a
  go_enter Tryz.func25, Tryz.ntmps25
  go_wp2
  go_ret
  exact ⟨rfl, rfl⟩

theorem mathTrunc_b (w : World) :
    Calls Tryz.prog 25 #[.float .f64 13830554455654793216] w fun e w' => e = .returned (.float .f64 13830554455654793216) ∧ w = w' := by
  have h := trunc_b
  go_enter Tryz.func25, Tryz.ntmps25
  go_wp2
  go_ret
  exact ⟨rfl, rfl⟩

theorem signed_i8 (w : World) : Calls Tryz.prog 189 #[] w fun e w' => e = .returned (.bool true) ∧ w = w' := by
  go_enter Tryz.func189, Tryz.ntmps189
  go_wp2
  go_ret
  exact ⟨rfl, rfl⟩

theorem signed_u8 (w : World) : Calls Tryz.prog 190 #[] w fun e w' => e = .returned (.bool false) ∧ w = w' := by
  go_enter Tryz.func190, Tryz.ntmps190
  go_wp2
  go_ret
  exact ⟨rfl, rfl⟩

theorem ord_a1 : (FloatKind.f64.format.order 4638637247447433216 14114281232179134464 == some .gt || FloatKind.f64.format.order 4638637247447433216 14114281232179134464 == some .eq) = true := by decide +kernel

theorem ord_a2 : (FloatKind.f64.format.order 4638637247447433216 4890909195324358656 == some .lt) = true := by decide +kernel

theorem ord_b1 : (FloatKind.f64.format.order 13830554455654793216 0 == some .gt || FloatKind.f64.format.order 13830554455654793216 0 == some .eq) = false := by decide +kernel

theorem conv_a (W : World) : (convert 25 2 (.float .f64 4638637247447433216)).run Tryz.prog W = .ok (.int .i64 127) W :=
  run_convert_float_int W _ _ .f64 .i64 4638637247447433216 127 (by kernel_rfl) (by kernel_rfl) (by decide +kernel)

theorem cut_a (w : World) :
    Calls Tryz.prog 70 #[.float .f64 4638700579317193114] w fun e w' => e = .returned (.tuple #[.int .i8 127, .bool true]) ∧ w = w' := by
  have h1 := ord_a1
  have h2 := ord_a2
  have h3 := conv_a
  go_enter Tryz.func70, Tryz.ntmps70
  go_wp2_with (first
    | (go_at_call 25; (with_reducible refine (mathTrunc_a _).mono ?_); rintro en w1 ⟨rfl, rfl⟩)
    | (go_at_call 189; (with_reducible refine (signed_i8 _).mono ?_); rintro en w1 ⟨rfl, rfl⟩))
  go_ret2
  exact ⟨rfl, rfl⟩

theorem cut_b (w : World) :
    Calls Tryz.prog 71 #[.float .f64 13830554455654793216] w fun e w' => e = .returned (.tuple #[.int .u8 0, .bool false]) ∧ w = w' := by
  have h1 := ord_b1
  go_enter Tryz.func71, Tryz.ntmps71
  go_wp2_with (first
    | (go_at_call 25; (with_reducible refine (mathTrunc_b _).mono ?_); rintro en w1 ⟨rfl, rfl⟩)
    | (go_at_call 190; (with_reducible refine (signed_u8 _).mono ?_); rintro en w1 ⟨rfl, rfl⟩))
  go_ret2
  exact ⟨rfl, rfl⟩

theorem three_is : sgBits 8 23 3 1 false false 0 = 1077936128 := by decide +kernel

theorem near_three (w : World) (hT : Tab w) :
    Calls Tryz.prog 45 #[.int .u8 3] w fun e w' => e = .returned (.float .f32 1077936128) ∧ Below w.heap.size w w' := by
  have cW : ∀ W, Below w.heap.size w W → Calls Tryz.prog 118 #[.agg #[.int .i64 8, .int .i64 23], .bool false, .int .u64 3, .int .u8 0] W fun en w' => en = .returned (.tuple #[.int .u64 1077936128, .int .u8 (sgFlags 8 23 3 1 false 0 : Int), .int .i64 0]) ∧ Below W.heap.size W w' := fun W hW => by
    have := turnWholes_any 8 23 3 0 false W (by decide) (by decide) (by decide) (hT.below hW)
    rw [three_is] at this
    exact this
  generalize sgFlags 8 23 3 1 false 0 = fl at *
  go_enter Tryz.func45, Tryz.ntmps45
  go_wp2_with fail
  refine (turForm_F32 _ _).mono ?_
  rintro en w1 ⟨rfl, hb1⟩
  go_wp2_with fail
  refine (cW _ hb1).mono ?_
  rintro en w2 ⟨rfl, hb2⟩
  go_wp2_with fail
  refine (turNative_F32 1077936128 _ (by decide)).mono ?_
  rintro en w3 ⟨rfl, rfl⟩
  go_wp2
  go_ret
  exact ⟨rfl, next hb1 hb2⟩

theorem to_a : toBi 11 52 5 10 4599676419421066581 0 = 13653 ∧ toGi 11 52 5 10 4599676419421066581 0 = 1 ∧ toE 11 52 5 10 4599676419421066581 0 = 0 := by decide +kernel

theorem int_a : inV 5 10 16640 7 0 = 2 ∧ inG 5 10 16640 7 0 = 1 := by decide +kernel

theorem from_a : fiB 5 10 2049 0 = 26624 ∧ fiE 5 10 0 = 0 := by decide +kernel

theorem back_a : toBi 5 10 11 52 15360 0 = 4607182418800017408 ∧ toE 5 10 11 52 15360 0 = 0 := by decide +kernel

theorem ord_one : (FloatKind.f64.format.order 4607182418800017408 4607182418800017408 == some .eq) = true := by decide +kernel

theorem ord_three : (FloatKind.f32.format.order 1077936128 1077936128 == some .eq) = true := by decide +kernel

set_option maxRecDepth 100000 in
set_option maxHeartbeats 4000000 in
theorem alive8_any (w : World) (hT : Tab w) :
    Calls Tryz.prog 10 #[] w fun e w' => e = .returned (.bool true) ∧ Below w.heap.size w w' := by
  have hW := more (more (Below.refl w.heap.size w) (.cells #[.int .i64 5, .int .i64 10] 31)) (.cells #[.int .i64 11, .int .i64 52] 31)
  have A := (box2_new w (.int .i64 5) (.int .i64 10) 31).alloc (.cells #[.int .i64 11, .int .i64 52] 31)
  have B := box2_new (w.alloc (.cells #[.int .i64 5, .int .i64 10] 31)) (.int .i64 11) (.int .i64 52) 31
  rw [World.size_alloc] at B
  have ⟨a0, a1⟩ := A
  have ⟨b0, b1⟩ := B
  have c1 : ∀ W, Below w.heap.size w W → Calls Tryz.prog 61 #[.agg #[.int .i64 11, .int .i64 52], .agg #[.int .i64 5, .int .i64 10], .int .u64 4599676419421066581, .int .u8 0] W fun en w' => en = .returned (.tuple #[.int .u64 13653, .int .u8 1, .int .i64 0]) ∧ Below W.heap.size W w' := fun W hW => by
    have := turnTo_any 11 52 5 10 4599676419421066581 0 W (by decide) (hT.below hW)
    rw [to_a.1, to_a.2.1, to_a.2.2] at this
    exact this
  have c2 : ∀ W, Below w.heap.size w W → Calls Tryz.prog 24 #[.agg #[.int .i64 5, .int .i64 10], .int .u64 16640, .int .i64 8, .int .u8 0] W fun en w' => en = .returned (.tuple #[.int .i64 2, .int .u8 1, .int .i64 0]) ∧ Below W.heap.size W w' := fun W hW => by
    have := turnInt8_any 5 10 16640 0 W (by decide) (by decide +kernel) (by decide) (hT.below hW)
    rw [int_a.1, int_a.2] at this
    exact this
  have c3 : ∀ W, Below w.heap.size w W → Calls Tryz.prog 23 #[.agg #[.int .i64 5, .int .i64 10], .int .i64 2049, .int .u8 0] W fun en w' => en = .returned (.tuple #[.int .u64 26624, .int .u8 (fiG 5 10 2049 0 : Int), .int .i64 0]) ∧ Below W.heap.size W w' := fun W hW => by
    have := turnFromInt_any 5 10 2049 0 W (by decide) (by decide) (hT.below hW)
    rw [from_a.1, from_a.2] at this
    exact this
  have c4 : ∀ W, Below w.heap.size w W → Calls Tryz.prog 69 #[.agg #[.int .i64 5, .int .i64 10], .int .u64 15360] W fun en w' => en = .returned (.tuple #[.float .f64 4607182418800017408, .int .i64 0]) ∧ Below W.heap.size W w' := fun W hW => by
    have := turFrom_F64 5 10 15360 W (by decide) (hT.below hW)
    rw [back_a.1, back_a.2] at this
    exact this
  have c7 : ∀ W, Below w.heap.size w W → Calls Tryz.prog 45 #[.int .u8 3] W fun e w' => e = .returned (.float .f32 1077936128) ∧ Below W.heap.size W w' := fun W hW => near_three W (hT.below hW)
  have o1 := ord_one
  have o3 := ord_three
  generalize fiG 5 10 2049 0 = fl at *
  clear hT
  go_enter Tryz.func10, Tryz.ntmps10
  go_wp2_with (first
    | (go_at_call 61; (with_reducible refine (c1 _ hW).mono ?_); rintro en w1 ⟨rfl, hb1⟩; replace hW := next hW hb1; replace A := A.stay hb1; have ⟨a0, a1⟩ := A)
    | (go_at_call 24; (with_reducible refine (c2 _ hW).mono ?_); rintro en w1 ⟨rfl, hb1⟩; replace hW := next hW hb1; replace A := A.stay hb1; have ⟨a0, a1⟩ := A)
    | (go_at_call 23; (with_reducible refine (c3 _ hW).mono ?_); rintro en w1 ⟨rfl, hb1⟩; replace hW := next hW hb1; replace A := A.stay hb1; have ⟨a0, a1⟩ := A)
    | (go_at_call 69; (with_reducible refine (c4 _ hW).mono ?_); rintro en w1 ⟨rfl, hb1⟩; replace hW := next hW hb1)
    | (go_at_call 70; (with_reducible refine (cut_a _).mono ?_); rintro en w1 ⟨rfl, rfl⟩)
    | (go_at_call 71; (with_reducible refine (cut_b _).mono ?_); rintro en w1 ⟨rfl, rfl⟩)
    | (go_at_call 45; (with_reducible refine (c7 _ hW).mono ?_); rintro en w1 ⟨rfl, hb1⟩; replace hW := next hW hb1))
  go_ret
  exact ⟨rfl, hW⟩

end Go.Proofs.YtaddnoneoflimaaGreatDoor

