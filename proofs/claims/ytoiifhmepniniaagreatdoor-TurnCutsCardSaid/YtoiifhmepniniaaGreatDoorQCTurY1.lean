/-
  Cut of one kind of native floats into each kind of whole numbers. (Printed by wip/gen/turcut.py.)
-/
import Derived.Test.YtoiifhmepniniaaGreatDoorQCTurYs
set_option maxRecDepth 100000
namespace Go.Proofs.YtoiifhmepniniaaGreatDoor
open Go.RowKit Go.Lb
attribute [local go_sem] Go.World.cell?_alloc_some
theorem cut_F64_int (b : Nat) (w : World) :
 Calls Tryz.prog 20 #[.float .f64 b] w fun e w' => e = .returned (.tuple #[.int .i64 (cuV (-9223372036854775808) 9223372036854775808 (finB 11 52 b) (tzV 11 52 b)), .bool (cuB (-9223372036854775808) 9223372036854775808 (finB 11 52 b) (tzV 11 52 b))]) ∧ Below w.heap.size w w' := by
 have hway := fun {c} (h : Tc b c) => wy_i64 (fun _ => rfl) (cut_way_s h)
 generalize finB 11 52 b = fn at *
 generalize (tzV 11 52 b) = t at *
 go_enter Tryz.func20, Tryz.ntmps20
 go_wp2_with fail
 refine (mathTrunc_any b w).mono ?_
 rintro en w1 ⟨c, rfl, hb1, hT⟩
 have hw := hway hT
 clear hT hway
 go_wp2_with fail
 refine (sgn_int _).mono ?_
 rintro en w2 ⟨rfl, rfl⟩
 rcases hw with ⟨h1, h2, h3, h4, p1, p2⟩ | ⟨h1, p1, p2⟩ | ⟨h1, h2, p1, p2⟩
 all_goals
  go_wp2
  go_ret2
  rw [p2, p1]
  exact ⟨rfl, hb1⟩
theorem cut_F64_int8 (b : Nat) (w : World) :
 Calls Tryz.prog 17 #[.float .f64 b] w fun e w' => e = .returned (.tuple #[.int .i8 (cuV (-128) 128 (finB 11 52 b) (tzV 11 52 b)), .bool (cuB (-128) 128 (finB 11 52 b) (tzV 11 52 b))]) ∧ Below w.heap.size w w' := by
 have hway := fun {c} (h : Tc b c) => wy_i8 (fun _ => rfl) (cut_way_s h)
 generalize finB 11 52 b = fn at *
 generalize (tzV 11 52 b) = t at *
 go_enter Tryz.func17, Tryz.ntmps17
 go_wp2_with fail
 refine (mathTrunc_any b w).mono ?_
 rintro en w1 ⟨c, rfl, hb1, hT⟩
 have hw := hway hT
 clear hT hway
 go_wp2_with fail
 refine (sgn_int8 _).mono ?_
 rintro en w2 ⟨rfl, rfl⟩
 rcases hw with ⟨h1, h2, h3, h4, h5, p1, p2⟩ | ⟨h1, h2, h3, h4, ⟨u, h5, h6, h7, h8⟩, p1, p2⟩ | ⟨h1, p1, p2⟩ | ⟨h1, h2, p1, p2⟩
 all_goals
  go_wp2
  go_ret2
  rw [p2, p1]
  exact ⟨rfl, hb1⟩
theorem cut_F64_int16 (b : Nat) (w : World) :
 Calls Tryz.prog 21 #[.float .f64 b] w fun e w' => e = .returned (.tuple #[.int .i16 (cuV (-32768) 32768 (finB 11 52 b) (tzV 11 52 b)), .bool (cuB (-32768) 32768 (finB 11 52 b) (tzV 11 52 b))]) ∧ Below w.heap.size w w' := by
 have hway := fun {c} (h : Tc b c) => wy_i16 (fun _ => rfl) (cut_way_s h)
 generalize finB 11 52 b = fn at *
 generalize (tzV 11 52 b) = t at *
 go_enter Tryz.func21, Tryz.ntmps21
 go_wp2_with fail
 refine (mathTrunc_any b w).mono ?_
 rintro en w1 ⟨c, rfl, hb1, hT⟩
 have hw := hway hT
 clear hT hway
 go_wp2_with fail
 refine (sgn_int16 _).mono ?_
 rintro en w2 ⟨rfl, rfl⟩
 rcases hw with ⟨h1, h2, h3, h4, h5, p1, p2⟩ | ⟨h1, h2, h3, h4, ⟨u, h5, h6, h7, h8⟩, p1, p2⟩ | ⟨h1, p1, p2⟩ | ⟨h1, h2, p1, p2⟩
 all_goals
  go_wp2
  go_ret2
  rw [p2, p1]
  exact ⟨rfl, hb1⟩
theorem cut_F64_int32 (b : Nat) (w : World) :
 Calls Tryz.prog 22 #[.float .f64 b] w fun e w' => e = .returned (.tuple #[.int .i32 (cuV (-2147483648) 2147483648 (finB 11 52 b) (tzV 11 52 b)), .bool (cuB (-2147483648) 2147483648 (finB 11 52 b) (tzV 11 52 b))]) ∧ Below w.heap.size w w' := by
 have hway := fun {c} (h : Tc b c) => wy_i32 (fun _ => rfl) (cut_way_s h)
 generalize finB 11 52 b = fn at *
 generalize (tzV 11 52 b) = t at *
 go_enter Tryz.func22, Tryz.ntmps22
 go_wp2_with fail
 refine (mathTrunc_any b w).mono ?_
 rintro en w1 ⟨c, rfl, hb1, hT⟩
 have hw := hway hT
 clear hT hway
 go_wp2_with fail
 refine (sgn_int32 _).mono ?_
 rintro en w2 ⟨rfl, rfl⟩
 rcases hw with ⟨h1, h2, h3, h4, h5, p1, p2⟩ | ⟨h1, h2, h3, h4, ⟨u, h5, h6, h7, h8⟩, p1, p2⟩ | ⟨h1, p1, p2⟩ | ⟨h1, h2, p1, p2⟩
 all_goals
  go_wp2
  go_ret2
  rw [p2, p1]
  exact ⟨rfl, hb1⟩
theorem cut_F64_uint (b : Nat) (w : World) :
 Calls Tryz.prog 24 #[.float .f64 b] w fun e w' => e = .returned (.tuple #[.int .u64 (cuV 0 18446744073709551616 (finB 11 52 b) (tzV 11 52 b)), .bool (cuB 0 18446744073709551616 (finB 11 52 b) (tzV 11 52 b))]) ∧ Below w.heap.size w w' := by
 have hway := fun {c} (h : Tc b c) => wy_u64 (fun _ => rfl) (cut_way_u h)
 generalize finB 11 52 b = fn at *
 generalize (tzV 11 52 b) = t at *
 go_enter Tryz.func24, Tryz.ntmps24
 go_wp2_with fail
 refine (mathTrunc_any b w).mono ?_
 rintro en w1 ⟨c, rfl, hb1, hT⟩
 have hw := hway hT
 clear hT hway
 go_wp2_with fail
 refine (sgn_uint _).mono ?_
 rintro en w2 ⟨rfl, rfl⟩
 rcases hw with ⟨h1, h2, h3, h4, p1, p2⟩ | ⟨h1, p1, p2⟩ | ⟨h1, h2, p1, p2⟩
 all_goals
  go_wp2
  go_ret2
  rw [p2, p1]
  exact ⟨rfl, hb1⟩
theorem cut_F64_uint8 (b : Nat) (w : World) :
 Calls Tryz.prog 18 #[.float .f64 b] w fun e w' => e = .returned (.tuple #[.int .u8 (cuV 0 256 (finB 11 52 b) (tzV 11 52 b)), .bool (cuB 0 256 (finB 11 52 b) (tzV 11 52 b))]) ∧ Below w.heap.size w w' := by
 have hway := fun {c} (h : Tc b c) => wy_u8 (fun _ => rfl) (cut_way_u h)
 generalize finB 11 52 b = fn at *
 generalize (tzV 11 52 b) = t at *
 go_enter Tryz.func18, Tryz.ntmps18
 go_wp2_with fail
 refine (mathTrunc_any b w).mono ?_
 rintro en w1 ⟨c, rfl, hb1, hT⟩
 have hw := hway hT
 clear hT hway
 go_wp2_with fail
 refine (sgn_uint8 _).mono ?_
 rintro en w2 ⟨rfl, rfl⟩
 rcases hw with ⟨h1, h2, h3, h4, h5, p1, p2⟩ | ⟨h1, h2, h3, h4, ⟨u, h5, h6, h7, h8⟩, p1, p2⟩ | ⟨h1, p1, p2⟩ | ⟨h1, h2, p1, p2⟩
 all_goals
  go_wp2
  go_ret2
  rw [p2, p1]
  exact ⟨rfl, hb1⟩
theorem cut_F64_uint16 (b : Nat) (w : World) :
 Calls Tryz.prog 25 #[.float .f64 b] w fun e w' => e = .returned (.tuple #[.int .u16 (cuV 0 65536 (finB 11 52 b) (tzV 11 52 b)), .bool (cuB 0 65536 (finB 11 52 b) (tzV 11 52 b))]) ∧ Below w.heap.size w w' := by
 have hway := fun {c} (h : Tc b c) => wy_u16 (fun _ => rfl) (cut_way_u h)
 generalize finB 11 52 b = fn at *
 generalize (tzV 11 52 b) = t at *
 go_enter Tryz.func25, Tryz.ntmps25
 go_wp2_with fail
 refine (mathTrunc_any b w).mono ?_
 rintro en w1 ⟨c, rfl, hb1, hT⟩
 have hw := hway hT
 clear hT hway
 go_wp2_with fail
 refine (sgn_uint16 _).mono ?_
 rintro en w2 ⟨rfl, rfl⟩
 rcases hw with ⟨h1, h2, h3, h4, h5, p1, p2⟩ | ⟨h1, h2, h3, h4, ⟨u, h5, h6, h7, h8⟩, p1, p2⟩ | ⟨h1, p1, p2⟩ | ⟨h1, h2, p1, p2⟩
 all_goals
  go_wp2
  go_ret2
  rw [p2, p1]
  exact ⟨rfl, hb1⟩
theorem cut_F64_uint32 (b : Nat) (w : World) :
 Calls Tryz.prog 26 #[.float .f64 b] w fun e w' => e = .returned (.tuple #[.int .u32 (cuV 0 4294967296 (finB 11 52 b) (tzV 11 52 b)), .bool (cuB 0 4294967296 (finB 11 52 b) (tzV 11 52 b))]) ∧ Below w.heap.size w w' := by
 have hway := fun {c} (h : Tc b c) => wy_u32 (fun _ => rfl) (cut_way_u h)
 generalize finB 11 52 b = fn at *
 generalize (tzV 11 52 b) = t at *
 go_enter Tryz.func26, Tryz.ntmps26
 go_wp2_with fail
 refine (mathTrunc_any b w).mono ?_
 rintro en w1 ⟨c, rfl, hb1, hT⟩
 have hw := hway hT
 clear hT hway
 go_wp2_with fail
 refine (sgn_uint32 _).mono ?_
 rintro en w2 ⟨rfl, rfl⟩
 rcases hw with ⟨h1, h2, h3, h4, h5, p1, p2⟩ | ⟨h1, h2, h3, h4, ⟨u, h5, h6, h7, h8⟩, p1, p2⟩ | ⟨h1, p1, p2⟩ | ⟨h1, h2, p1, p2⟩
 all_goals
  go_wp2
  go_ret2
  rw [p2, p1]
  exact ⟨rfl, hb1⟩
theorem cut_F64_uint64 (b : Nat) (w : World) :
 Calls Tryz.prog 27 #[.float .f64 b] w fun e w' => e = .returned (.tuple #[.int .u64 (cuV 0 18446744073709551616 (finB 11 52 b) (tzV 11 52 b)), .bool (cuB 0 18446744073709551616 (finB 11 52 b) (tzV 11 52 b))]) ∧ Below w.heap.size w w' := by
 have hway := fun {c} (h : Tc b c) => wy_u64 (fun _ => rfl) (cut_way_u h)
 generalize finB 11 52 b = fn at *
 generalize (tzV 11 52 b) = t at *
 go_enter Tryz.func27, Tryz.ntmps27
 go_wp2_with fail
 refine (mathTrunc_any b w).mono ?_
 rintro en w1 ⟨c, rfl, hb1, hT⟩
 have hw := hway hT
 clear hT hway
 go_wp2_with fail
 refine (sgn_uint64 _).mono ?_
 rintro en w2 ⟨rfl, rfl⟩
 rcases hw with ⟨h1, h2, h3, h4, p1, p2⟩ | ⟨h1, p1, p2⟩ | ⟨h1, h2, p1, p2⟩
 all_goals
  go_wp2
  go_ret2
  rw [p2, p1]
  exact ⟨rfl, hb1⟩
theorem cut_F64_mine (b : Nat) (w : World) :
 Calls Tryz.prog 28 #[.float .f64 b] w fun e w' => e = .returned (.tuple #[.int .i16 (cuV (-32768) 32768 (finB 11 52 b) (tzV 11 52 b)), .bool (cuB (-32768) 32768 (finB 11 52 b) (tzV 11 52 b))]) ∧ Below w.heap.size w w' := by
 have hway := fun {c} (h : Tc b c) => wy_i16 (fun _ => rfl) (cut_way_s h)
 generalize finB 11 52 b = fn at *
 generalize (tzV 11 52 b) = t at *
 go_enter Tryz.func28, Tryz.ntmps28
 go_wp2_with fail
 refine (mathTrunc_any b w).mono ?_
 rintro en w1 ⟨c, rfl, hb1, hT⟩
 have hw := hway hT
 clear hT hway
 go_wp2_with fail
 refine (sgn_mine _).mono ?_
 rintro en w2 ⟨rfl, rfl⟩
 rcases hw with ⟨h1, h2, h3, h4, h5, p1, p2⟩ | ⟨h1, h2, h3, h4, ⟨u, h5, h6, h7, h8⟩, p1, p2⟩ | ⟨h1, p1, p2⟩ | ⟨h1, h2, p1, p2⟩
 all_goals
  go_wp2
  go_ret2
  rw [p2, p1]
  exact ⟨rfl, hb1⟩
theorem cut_F64_yours (b : Nat) (w : World) :
 Calls Tryz.prog 29 #[.float .f64 b] w fun e w' => e = .returned (.tuple #[.int .u32 (cuV 0 4294967296 (finB 11 52 b) (tzV 11 52 b)), .bool (cuB 0 4294967296 (finB 11 52 b) (tzV 11 52 b))]) ∧ Below w.heap.size w w' := by
 have hway := fun {c} (h : Tc b c) => wy_u32 (fun _ => rfl) (cut_way_u h)
 generalize finB 11 52 b = fn at *
 generalize (tzV 11 52 b) = t at *
 go_enter Tryz.func29, Tryz.ntmps29
 go_wp2_with fail
 refine (mathTrunc_any b w).mono ?_
 rintro en w1 ⟨c, rfl, hb1, hT⟩
 have hw := hway hT
 clear hT hway
 go_wp2_with fail
 refine (sgn_yours _).mono ?_
 rintro en w2 ⟨rfl, rfl⟩
 rcases hw with ⟨h1, h2, h3, h4, h5, p1, p2⟩ | ⟨h1, h2, h3, h4, ⟨u, h5, h6, h7, h8⟩, p1, p2⟩ | ⟨h1, p1, p2⟩ | ⟨h1, h2, p1, p2⟩
 all_goals
  go_wp2
  go_ret2
  rw [p2, p1]
  exact ⟨rfl, hb1⟩
end Go.Proofs.YtoiifhmepniniaaGreatDoor
