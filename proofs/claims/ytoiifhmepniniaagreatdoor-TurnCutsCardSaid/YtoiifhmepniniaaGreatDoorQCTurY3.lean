/-
  Cut of one kind of native floats into each kind of whole numbers. (Printed by wip/gen/turcut.py.)
-/
import Derived.Test.YtoiifhmepniniaaGreatDoorQCTurYs
set_option maxRecDepth 100000
namespace Go.Proofs.YtoiifhmepniniaaGreatDoor
open Go.RowKit Go.Lb
attribute [local go_sem] Go.World.cell?_alloc_some
theorem cut_F32_int (b : Nat) (w : World) :
 Calls Tryz.prog 43 #[.float .f32 b] w fun e w' => e = .returned (.tuple #[.int .i64 (cuV (-9223372036854775808) 9223372036854775808 (finB 8 23 b) (tzV 8 23 b)), .bool (cuB (-9223372036854775808) 9223372036854775808 (finB 8 23 b) (tzV 8 23 b))]) ∧ Below w.heap.size w w' := by
 obtain ⟨x, W0, hcv, hB0, hw8⟩ := widen_any b 27 25 w (by kernel_rfl) (by kernel_rfl)
 have hway := fun {c} (h : Tc x c) => wy_i64 hw8.val (by rw [← hw8.fin]; exact cut_way_s h)
 clear hw8
 generalize finB 8 23 b = fn at *
 generalize (tzV 8 23 b) = t at *
 go_enter Tryz.func43, Tryz.ntmps43
 go_wp2_with fail
 refine (mathTrunc_any x W0).mono ?_
 rintro en w1 ⟨c, rfl, hb1, hT⟩
 have hw := hway hT
 clear hT hway
 go_wp2_with fail
 refine (sgn_int _).mono ?_
 rintro en w2 ⟨rfl, rfl⟩
 rcases hw with ⟨h1, h2, h3, h4, p1, p2⟩ | ⟨h1, p1, p2⟩ | ⟨h1, h2, p1, p2⟩
 all_goals
  go_wp2
  go_ret2
  rw [p2, p1]
  exact ⟨rfl, next hB0 hb1⟩
theorem cut_F32_int8 (b : Nat) (w : World) :
 Calls Tryz.prog 44 #[.float .f32 b] w fun e w' => e = .returned (.tuple #[.int .i8 (cuV (-128) 128 (finB 8 23 b) (tzV 8 23 b)), .bool (cuB (-128) 128 (finB 8 23 b) (tzV 8 23 b))]) ∧ Below w.heap.size w w' := by
 obtain ⟨x, W0, hcv, hB0, hw8⟩ := widen_any b 27 25 w (by kernel_rfl) (by kernel_rfl)
 have hway := fun {c} (h : Tc x c) => wy_i8 hw8.val (by rw [← hw8.fin]; exact cut_way_s h)
 clear hw8
 generalize finB 8 23 b = fn at *
 generalize (tzV 8 23 b) = t at *
 go_enter Tryz.func44, Tryz.ntmps44
 go_wp2_with fail
 refine (mathTrunc_any x W0).mono ?_
 rintro en w1 ⟨c, rfl, hb1, hT⟩
 have hw := hway hT
 clear hT hway
 go_wp2_with fail
 refine (sgn_int8 _).mono ?_
 rintro en w2 ⟨rfl, rfl⟩
 rcases hw with ⟨h1, h2, h3, h4, h5, p1, p2⟩ | ⟨h1, h2, h3, h4, ⟨u, h5, h6, h7, h8⟩, p1, p2⟩ | ⟨h1, p1, p2⟩ | ⟨h1, h2, p1, p2⟩
 all_goals
  go_wp2
  go_ret2
  rw [p2, p1]
  exact ⟨rfl, next hB0 hb1⟩
theorem cut_F32_int16 (b : Nat) (w : World) :
 Calls Tryz.prog 45 #[.float .f32 b] w fun e w' => e = .returned (.tuple #[.int .i16 (cuV (-32768) 32768 (finB 8 23 b) (tzV 8 23 b)), .bool (cuB (-32768) 32768 (finB 8 23 b) (tzV 8 23 b))]) ∧ Below w.heap.size w w' := by
 obtain ⟨x, W0, hcv, hB0, hw8⟩ := widen_any b 27 25 w (by kernel_rfl) (by kernel_rfl)
 have hway := fun {c} (h : Tc x c) => wy_i16 hw8.val (by rw [← hw8.fin]; exact cut_way_s h)
 clear hw8
 generalize finB 8 23 b = fn at *
 generalize (tzV 8 23 b) = t at *
 go_enter Tryz.func45, Tryz.ntmps45
 go_wp2_with fail
 refine (mathTrunc_any x W0).mono ?_
 rintro en w1 ⟨c, rfl, hb1, hT⟩
 have hw := hway hT
 clear hT hway
 go_wp2_with fail
 refine (sgn_int16 _).mono ?_
 rintro en w2 ⟨rfl, rfl⟩
 rcases hw with ⟨h1, h2, h3, h4, h5, p1, p2⟩ | ⟨h1, h2, h3, h4, ⟨u, h5, h6, h7, h8⟩, p1, p2⟩ | ⟨h1, p1, p2⟩ | ⟨h1, h2, p1, p2⟩
 all_goals
  go_wp2
  go_ret2
  rw [p2, p1]
  exact ⟨rfl, next hB0 hb1⟩
theorem cut_F32_int32 (b : Nat) (w : World) :
 Calls Tryz.prog 46 #[.float .f32 b] w fun e w' => e = .returned (.tuple #[.int .i32 (cuV (-2147483648) 2147483648 (finB 8 23 b) (tzV 8 23 b)), .bool (cuB (-2147483648) 2147483648 (finB 8 23 b) (tzV 8 23 b))]) ∧ Below w.heap.size w w' := by
 obtain ⟨x, W0, hcv, hB0, hw8⟩ := widen_any b 27 25 w (by kernel_rfl) (by kernel_rfl)
 have hway := fun {c} (h : Tc x c) => wy_i32 hw8.val (by rw [← hw8.fin]; exact cut_way_s h)
 clear hw8
 generalize finB 8 23 b = fn at *
 generalize (tzV 8 23 b) = t at *
 go_enter Tryz.func46, Tryz.ntmps46
 go_wp2_with fail
 refine (mathTrunc_any x W0).mono ?_
 rintro en w1 ⟨c, rfl, hb1, hT⟩
 have hw := hway hT
 clear hT hway
 go_wp2_with fail
 refine (sgn_int32 _).mono ?_
 rintro en w2 ⟨rfl, rfl⟩
 rcases hw with ⟨h1, h2, h3, h4, h5, p1, p2⟩ | ⟨h1, h2, h3, h4, ⟨u, h5, h6, h7, h8⟩, p1, p2⟩ | ⟨h1, p1, p2⟩ | ⟨h1, h2, p1, p2⟩
 all_goals
  go_wp2
  go_ret2
  rw [p2, p1]
  exact ⟨rfl, next hB0 hb1⟩
theorem cut_F32_uint (b : Nat) (w : World) :
 Calls Tryz.prog 48 #[.float .f32 b] w fun e w' => e = .returned (.tuple #[.int .u64 (cuV 0 18446744073709551616 (finB 8 23 b) (tzV 8 23 b)), .bool (cuB 0 18446744073709551616 (finB 8 23 b) (tzV 8 23 b))]) ∧ Below w.heap.size w w' := by
 obtain ⟨x, W0, hcv, hB0, hw8⟩ := widen_any b 27 25 w (by kernel_rfl) (by kernel_rfl)
 have hway := fun {c} (h : Tc x c) => wy_u64 hw8.val (by rw [← hw8.fin]; exact cut_way_u h)
 clear hw8
 generalize finB 8 23 b = fn at *
 generalize (tzV 8 23 b) = t at *
 go_enter Tryz.func48, Tryz.ntmps48
 go_wp2_with fail
 refine (mathTrunc_any x W0).mono ?_
 rintro en w1 ⟨c, rfl, hb1, hT⟩
 have hw := hway hT
 clear hT hway
 go_wp2_with fail
 refine (sgn_uint _).mono ?_
 rintro en w2 ⟨rfl, rfl⟩
 rcases hw with ⟨h1, h2, h3, h4, p1, p2⟩ | ⟨h1, p1, p2⟩ | ⟨h1, h2, p1, p2⟩
 all_goals
  go_wp2
  go_ret2
  rw [p2, p1]
  exact ⟨rfl, next hB0 hb1⟩
theorem cut_F32_uint8 (b : Nat) (w : World) :
 Calls Tryz.prog 49 #[.float .f32 b] w fun e w' => e = .returned (.tuple #[.int .u8 (cuV 0 256 (finB 8 23 b) (tzV 8 23 b)), .bool (cuB 0 256 (finB 8 23 b) (tzV 8 23 b))]) ∧ Below w.heap.size w w' := by
 obtain ⟨x, W0, hcv, hB0, hw8⟩ := widen_any b 27 25 w (by kernel_rfl) (by kernel_rfl)
 have hway := fun {c} (h : Tc x c) => wy_u8 hw8.val (by rw [← hw8.fin]; exact cut_way_u h)
 clear hw8
 generalize finB 8 23 b = fn at *
 generalize (tzV 8 23 b) = t at *
 go_enter Tryz.func49, Tryz.ntmps49
 go_wp2_with fail
 refine (mathTrunc_any x W0).mono ?_
 rintro en w1 ⟨c, rfl, hb1, hT⟩
 have hw := hway hT
 clear hT hway
 go_wp2_with fail
 refine (sgn_uint8 _).mono ?_
 rintro en w2 ⟨rfl, rfl⟩
 rcases hw with ⟨h1, h2, h3, h4, h5, p1, p2⟩ | ⟨h1, h2, h3, h4, ⟨u, h5, h6, h7, h8⟩, p1, p2⟩ | ⟨h1, p1, p2⟩ | ⟨h1, h2, p1, p2⟩
 all_goals
  go_wp2
  go_ret2
  rw [p2, p1]
  exact ⟨rfl, next hB0 hb1⟩
theorem cut_F32_uint16 (b : Nat) (w : World) :
 Calls Tryz.prog 50 #[.float .f32 b] w fun e w' => e = .returned (.tuple #[.int .u16 (cuV 0 65536 (finB 8 23 b) (tzV 8 23 b)), .bool (cuB 0 65536 (finB 8 23 b) (tzV 8 23 b))]) ∧ Below w.heap.size w w' := by
 obtain ⟨x, W0, hcv, hB0, hw8⟩ := widen_any b 27 25 w (by kernel_rfl) (by kernel_rfl)
 have hway := fun {c} (h : Tc x c) => wy_u16 hw8.val (by rw [← hw8.fin]; exact cut_way_u h)
 clear hw8
 generalize finB 8 23 b = fn at *
 generalize (tzV 8 23 b) = t at *
 go_enter Tryz.func50, Tryz.ntmps50
 go_wp2_with fail
 refine (mathTrunc_any x W0).mono ?_
 rintro en w1 ⟨c, rfl, hb1, hT⟩
 have hw := hway hT
 clear hT hway
 go_wp2_with fail
 refine (sgn_uint16 _).mono ?_
 rintro en w2 ⟨rfl, rfl⟩
 rcases hw with ⟨h1, h2, h3, h4, h5, p1, p2⟩ | ⟨h1, h2, h3, h4, ⟨u, h5, h6, h7, h8⟩, p1, p2⟩ | ⟨h1, p1, p2⟩ | ⟨h1, h2, p1, p2⟩
 all_goals
  go_wp2
  go_ret2
  rw [p2, p1]
  exact ⟨rfl, next hB0 hb1⟩
theorem cut_F32_uint32 (b : Nat) (w : World) :
 Calls Tryz.prog 51 #[.float .f32 b] w fun e w' => e = .returned (.tuple #[.int .u32 (cuV 0 4294967296 (finB 8 23 b) (tzV 8 23 b)), .bool (cuB 0 4294967296 (finB 8 23 b) (tzV 8 23 b))]) ∧ Below w.heap.size w w' := by
 obtain ⟨x, W0, hcv, hB0, hw8⟩ := widen_any b 27 25 w (by kernel_rfl) (by kernel_rfl)
 have hway := fun {c} (h : Tc x c) => wy_u32 hw8.val (by rw [← hw8.fin]; exact cut_way_u h)
 clear hw8
 generalize finB 8 23 b = fn at *
 generalize (tzV 8 23 b) = t at *
 go_enter Tryz.func51, Tryz.ntmps51
 go_wp2_with fail
 refine (mathTrunc_any x W0).mono ?_
 rintro en w1 ⟨c, rfl, hb1, hT⟩
 have hw := hway hT
 clear hT hway
 go_wp2_with fail
 refine (sgn_uint32 _).mono ?_
 rintro en w2 ⟨rfl, rfl⟩
 rcases hw with ⟨h1, h2, h3, h4, h5, p1, p2⟩ | ⟨h1, h2, h3, h4, ⟨u, h5, h6, h7, h8⟩, p1, p2⟩ | ⟨h1, p1, p2⟩ | ⟨h1, h2, p1, p2⟩
 all_goals
  go_wp2
  go_ret2
  rw [p2, p1]
  exact ⟨rfl, next hB0 hb1⟩
theorem cut_F32_uint64 (b : Nat) (w : World) :
 Calls Tryz.prog 52 #[.float .f32 b] w fun e w' => e = .returned (.tuple #[.int .u64 (cuV 0 18446744073709551616 (finB 8 23 b) (tzV 8 23 b)), .bool (cuB 0 18446744073709551616 (finB 8 23 b) (tzV 8 23 b))]) ∧ Below w.heap.size w w' := by
 obtain ⟨x, W0, hcv, hB0, hw8⟩ := widen_any b 27 25 w (by kernel_rfl) (by kernel_rfl)
 have hway := fun {c} (h : Tc x c) => wy_u64 hw8.val (by rw [← hw8.fin]; exact cut_way_u h)
 clear hw8
 generalize finB 8 23 b = fn at *
 generalize (tzV 8 23 b) = t at *
 go_enter Tryz.func52, Tryz.ntmps52
 go_wp2_with fail
 refine (mathTrunc_any x W0).mono ?_
 rintro en w1 ⟨c, rfl, hb1, hT⟩
 have hw := hway hT
 clear hT hway
 go_wp2_with fail
 refine (sgn_uint64 _).mono ?_
 rintro en w2 ⟨rfl, rfl⟩
 rcases hw with ⟨h1, h2, h3, h4, p1, p2⟩ | ⟨h1, p1, p2⟩ | ⟨h1, h2, p1, p2⟩
 all_goals
  go_wp2
  go_ret2
  rw [p2, p1]
  exact ⟨rfl, next hB0 hb1⟩
theorem cut_F32_mine (b : Nat) (w : World) :
 Calls Tryz.prog 53 #[.float .f32 b] w fun e w' => e = .returned (.tuple #[.int .i16 (cuV (-32768) 32768 (finB 8 23 b) (tzV 8 23 b)), .bool (cuB (-32768) 32768 (finB 8 23 b) (tzV 8 23 b))]) ∧ Below w.heap.size w w' := by
 obtain ⟨x, W0, hcv, hB0, hw8⟩ := widen_any b 27 25 w (by kernel_rfl) (by kernel_rfl)
 have hway := fun {c} (h : Tc x c) => wy_i16 hw8.val (by rw [← hw8.fin]; exact cut_way_s h)
 clear hw8
 generalize finB 8 23 b = fn at *
 generalize (tzV 8 23 b) = t at *
 go_enter Tryz.func53, Tryz.ntmps53
 go_wp2_with fail
 refine (mathTrunc_any x W0).mono ?_
 rintro en w1 ⟨c, rfl, hb1, hT⟩
 have hw := hway hT
 clear hT hway
 go_wp2_with fail
 refine (sgn_mine _).mono ?_
 rintro en w2 ⟨rfl, rfl⟩
 rcases hw with ⟨h1, h2, h3, h4, h5, p1, p2⟩ | ⟨h1, h2, h3, h4, ⟨u, h5, h6, h7, h8⟩, p1, p2⟩ | ⟨h1, p1, p2⟩ | ⟨h1, h2, p1, p2⟩
 all_goals
  go_wp2
  go_ret2
  rw [p2, p1]
  exact ⟨rfl, next hB0 hb1⟩
theorem cut_F32_yours (b : Nat) (w : World) :
 Calls Tryz.prog 54 #[.float .f32 b] w fun e w' => e = .returned (.tuple #[.int .u32 (cuV 0 4294967296 (finB 8 23 b) (tzV 8 23 b)), .bool (cuB 0 4294967296 (finB 8 23 b) (tzV 8 23 b))]) ∧ Below w.heap.size w w' := by
 obtain ⟨x, W0, hcv, hB0, hw8⟩ := widen_any b 27 25 w (by kernel_rfl) (by kernel_rfl)
 have hway := fun {c} (h : Tc x c) => wy_u32 hw8.val (by rw [← hw8.fin]; exact cut_way_u h)
 clear hw8
 generalize finB 8 23 b = fn at *
 generalize (tzV 8 23 b) = t at *
 go_enter Tryz.func54, Tryz.ntmps54
 go_wp2_with fail
 refine (mathTrunc_any x W0).mono ?_
 rintro en w1 ⟨c, rfl, hb1, hT⟩
 have hw := hway hT
 clear hT hway
 go_wp2_with fail
 refine (sgn_yours _).mono ?_
 rintro en w2 ⟨rfl, rfl⟩
 rcases hw with ⟨h1, h2, h3, h4, h5, p1, p2⟩ | ⟨h1, h2, h3, h4, ⟨u, h5, h6, h7, h8⟩, p1, p2⟩ | ⟨h1, p1, p2⟩ | ⟨h1, h2, p1, p2⟩
 all_goals
  go_wp2
  go_ret2
  rw [p2, p1]
  exact ⟨rfl, next hB0 hb1⟩
end Go.Proofs.YtoiifhmepniniaaGreatDoor
