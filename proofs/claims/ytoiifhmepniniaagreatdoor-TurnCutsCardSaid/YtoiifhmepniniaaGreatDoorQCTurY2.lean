/-
  Cut of one kind of native floats into each kind of whole numbers. (Printed by wip/gen/turcut.py.)
-/
import Derived.Test.YtoiifhmepniniaaGreatDoorQCTurYs
set_option maxRecDepth 100000
namespace Go.Proofs.YtoiifhmepniniaaGreatDoor
open Go.RowKit Go.Lb
attribute [local go_sem] Go.World.cell?_alloc_some
theorem cut_W64_int (b : Nat) (w : World) :
 Calls Tryz.prog 31 #[.float .f64 b] w fun e w' => e = .returned (.tuple #[.int .i64 (cuV (-9223372036854775808) 9223372036854775808 (finB 11 52 b) (tzV 11 52 b)), .bool (cuB (-9223372036854775808) 9223372036854775808 (finB 11 52 b) (tzV 11 52 b))]) ∧ Below w.heap.size w w' := by
 have hway := fun {c} (h : Tc b c) => wy_i64 (fun _ => rfl) (cut_way_s h)
 generalize finB 11 52 b = fn at *
 generalize (tzV 11 52 b) = t at *
 go_enter Tryz.func31, Tryz.ntmps31
 go_wp2_with fail
 refine (mathTrunc_any b w).mono ?_
 rintro en w1 ⟨c, rfl, hb1, hT⟩
 have hw := hway hT
 clear hT hway
 go_wp2_with fail
 refine (sgn_int _).mono ?_
 rintro en w2 ⟨rfl, rfl⟩
 rcases hw with ⟨h1, h2, h3, h4, p1, p2⟩ | ⟨h1, p1, p2⟩ | ⟨h1, h2, p1, p2⟩
 all_goals
  go_wp2
  go_ret2
  rw [p2, p1]
  exact ⟨rfl, hb1⟩
theorem cut_W64_int8 (b : Nat) (w : World) :
 Calls Tryz.prog 32 #[.float .f64 b] w fun e w' => e = .returned (.tuple #[.int .i8 (cuV (-128) 128 (finB 11 52 b) (tzV 11 52 b)), .bool (cuB (-128) 128 (finB 11 52 b) (tzV 11 52 b))]) ∧ Below w.heap.size w w' := by
 have hway := fun {c} (h : Tc b c) => wy_i8 (fun _ => rfl) (cut_way_s h)
 generalize finB 11 52 b = fn at *
 generalize (tzV 11 52 b) = t at *
 go_enter Tryz.func32, Tryz.ntmps32
 go_wp2_with fail
 refine (mathTrunc_any b w).mono ?_
 rintro en w1 ⟨c, rfl, hb1, hT⟩
 have hw := hway hT
 clear hT hway
 go_wp2_with fail
 refine (sgn_int8 _).mono ?_
 rintro en w2 ⟨rfl, rfl⟩
 rcases hw with ⟨h1, h2, h3, h4, h5, p1, p2⟩ | ⟨h1, h2, h3, h4, ⟨u, h5, h6, h7, h8⟩, p1, p2⟩ | ⟨h1, p1, p2⟩ | ⟨h1, h2, p1, p2⟩
 all_goals
  go_wp2
  go_ret2
  rw [p2, p1]
  exact ⟨rfl, hb1⟩
theorem cut_W64_int16 (b : Nat) (w : World) :
 Calls Tryz.prog 33 #[.float .f64 b] w fun e w' => e = .returned (.tuple #[.int .i16 (cuV (-32768) 32768 (finB 11 52 b) (tzV 11 52 b)), .bool (cuB (-32768) 32768 (finB 11 52 b) (tzV 11 52 b))]) ∧ Below w.heap.size w w' := by
 have hway := fun {c} (h : Tc b c) => wy_i16 (fun _ => rfl) (cut_way_s h)
 generalize finB 11 52 b = fn at *
 generalize (tzV 11 52 b) = t at *
 go_enter Tryz.func33, Tryz.ntmps33
 go_wp2_with fail
 refine (mathTrunc_any b w).mono ?_
 rintro en w1 ⟨c, rfl, hb1, hT⟩
 have hw := hway hT
 clear hT hway
 go_wp2_with fail
 refine (sgn_int16 _).mono ?_
 rintro en w2 ⟨rfl, rfl⟩
 rcases hw with ⟨h1, h2, h3, h4, h5, p1, p2⟩ | ⟨h1, h2, h3, h4, ⟨u, h5, h6, h7, h8⟩, p1, p2⟩ | ⟨h1, p1, p2⟩ | ⟨h1, h2, p1, p2⟩
 all_goals
  go_wp2
  go_ret2
  rw [p2, p1]
  exact ⟨rfl, hb1⟩
theorem cut_W64_int32 (b : Nat) (w : World) :
 Calls Tryz.prog 34 #[.float .f64 b] w fun e w' => e = .returned (.tuple #[.int .i32 (cuV (-2147483648) 2147483648 (finB 11 52 b) (tzV 11 52 b)), .bool (cuB (-2147483648) 2147483648 (finB 11 52 b) (tzV 11 52 b))]) ∧ Below w.heap.size w w' := by
 have hway := fun {c} (h : Tc b c) => wy_i32 (fun _ => rfl) (cut_way_s h)
 generalize finB 11 52 b = fn at *
 generalize (tzV 11 52 b) = t at *
 go_enter Tryz.func34, Tryz.ntmps34
 go_wp2_with fail
 refine (mathTrunc_any b w).mono ?_
 rintro en w1 ⟨c, rfl, hb1, hT⟩
 have hw := hway hT
 clear hT hway
 go_wp2_with fail
 refine (sgn_int32 _).mono ?_
 rintro en w2 ⟨rfl, rfl⟩
 rcases hw with ⟨h1, h2, h3, h4, h5, p1, p2⟩ | ⟨h1, h2, h3, h4, ⟨u, h5, h6, h7, h8⟩, p1, p2⟩ | ⟨h1, p1, p2⟩ | ⟨h1, h2, p1, p2⟩
 all_goals
  go_wp2
  go_ret2
  rw [p2, p1]
  exact ⟨rfl, hb1⟩
theorem cut_W64_int64 (b : Nat) (w : World) :
 Calls Tryz.prog 35 #[.float .f64 b] w fun e w' => e = .returned (.tuple #[.int .i64 (cuV (-9223372036854775808) 9223372036854775808 (finB 11 52 b) (tzV 11 52 b)), .bool (cuB (-9223372036854775808) 9223372036854775808 (finB 11 52 b) (tzV 11 52 b))]) ∧ Below w.heap.size w w' := by
 have hway := fun {c} (h : Tc b c) => wy_i64 (fun _ => rfl) (cut_way_s h)
 generalize finB 11 52 b = fn at *
 generalize (tzV 11 52 b) = t at *
 go_enter Tryz.func35, Tryz.ntmps35
 go_wp2_with fail
 refine (mathTrunc_any b w).mono ?_
 rintro en w1 ⟨c, rfl, hb1, hT⟩
 have hw := hway hT
 clear hT hway
 go_wp2_with fail
 refine (sgn_int64 _).mono ?_
 rintro en w2 ⟨rfl, rfl⟩
 rcases hw with ⟨h1, h2, h3, h4, p1, p2⟩ | ⟨h1, p1, p2⟩ | ⟨h1, h2, p1, p2⟩
 all_goals
  go_wp2
  go_ret2
  rw [p2, p1]
  exact ⟨rfl, hb1⟩
theorem cut_W64_uint (b : Nat) (w : World) :
 Calls Tryz.prog 36 #[.float .f64 b] w fun e w' => e = .returned (.tuple #[.int .u64 (cuV 0 18446744073709551616 (finB 11 52 b) (tzV 11 52 b)), .bool (cuB 0 18446744073709551616 (finB 11 52 b) (tzV 11 52 b))]) ∧ Below w.heap.size w w' := by
 have hway := fun {c} (h : Tc b c) => wy_u64 (fun _ => rfl) (cut_way_u h)
 generalize finB 11 52 b = fn at *
 generalize (tzV 11 52 b) = t at *
 go_enter Tryz.func36, Tryz.ntmps36
 go_wp2_with fail
 refine (mathTrunc_any b w).mono ?_
 rintro en w1 ⟨c, rfl, hb1, hT⟩
 have hw := hway hT
 clear hT hway
 go_wp2_with fail
 refine (sgn_uint _).mono ?_
 rintro en w2 ⟨rfl, rfl⟩
 rcases hw with ⟨h1, h2, h3, h4, p1, p2⟩ | ⟨h1, p1, p2⟩ | ⟨h1, h2, p1, p2⟩
 all_goals
  go_wp2
  go_ret2
  rw [p2, p1]
  exact ⟨rfl, hb1⟩
theorem cut_W64_uint8 (b : Nat) (w : World) :
 Calls Tryz.prog 37 #[.float .f64 b] w fun e w' => e = .returned (.tuple #[.int .u8 (cuV 0 256 (finB 11 52 b) (tzV 11 52 b)), .bool (cuB 0 256 (finB 11 52 b) (tzV 11 52 b))]) ∧ Below w.heap.size w w' := by
 have hway := fun {c} (h : Tc b c) => wy_u8 (fun _ => rfl) (cut_way_u h)
 generalize finB 11 52 b = fn at *
 generalize (tzV 11 52 b) = t at *
 go_enter Tryz.func37, Tryz.ntmps37
 go_wp2_with fail
 refine (mathTrunc_any b w).mono ?_
 rintro en w1 ⟨c, rfl, hb1, hT⟩
 have hw := hway hT
 clear hT hway
 go_wp2_with fail
 refine (sgn_uint8 _).mono ?_
 rintro en w2 ⟨rfl, rfl⟩
 rcases hw with ⟨h1, h2, h3, h4, h5, p1, p2⟩ | ⟨h1, h2, h3, h4, ⟨u, h5, h6, h7, h8⟩, p1, p2⟩ | ⟨h1, p1, p2⟩ | ⟨h1, h2, p1, p2⟩
 all_goals
  go_wp2
  go_ret2
  rw [p2, p1]
  exact ⟨rfl, hb1⟩
theorem cut_W64_uint16 (b : Nat) (w : World) :
 Calls Tryz.prog 38 #[.float .f64 b] w fun e w' => e = .returned (.tuple #[.int .u16 (cuV 0 65536 (finB 11 52 b) (tzV 11 52 b)), .bool (cuB 0 65536 (finB 11 52 b) (tzV 11 52 b))]) ∧ Below w.heap.size w w' := by
 have hway := fun {c} (h : Tc b c) => wy_u16 (fun _ => rfl) (cut_way_u h)
 generalize finB 11 52 b = fn at *
 generalize (tzV 11 52 b) = t at *
 go_enter Tryz.func38, Tryz.ntmps38
 go_wp2_with fail
 refine (mathTrunc_any b w).mono ?_
 rintro en w1 ⟨c, rfl, hb1, hT⟩
 have hw := hway hT
 clear hT hway
 go_wp2_with fail
 refine (sgn_uint16 _).mono ?_
 rintro en w2 ⟨rfl, rfl⟩
 rcases hw with ⟨h1, h2, h3, h4, h5, p1, p2⟩ | ⟨h1, h2, h3, h4, ⟨u, h5, h6, h7, h8⟩, p1, p2⟩ | ⟨h1, p1, p2⟩ | ⟨h1, h2, p1, p2⟩
 all_goals
  go_wp2
  go_ret2
  rw [p2, p1]
  exact ⟨rfl, hb1⟩
theorem cut_W64_uint32 (b : Nat) (w : World) :
 Calls Tryz.prog 39 #[.float .f64 b] w fun e w' => e = .returned (.tuple #[.int .u32 (cuV 0 4294967296 (finB 11 52 b) (tzV 11 52 b)), .bool (cuB 0 4294967296 (finB 11 52 b) (tzV 11 52 b))]) ∧ Below w.heap.size w w' := by
 have hway := fun {c} (h : Tc b c) => wy_u32 (fun _ => rfl) (cut_way_u h)
 generalize finB 11 52 b = fn at *
 generalize (tzV 11 52 b) = t at *
 go_enter Tryz.func39, Tryz.ntmps39
 go_wp2_with fail
 refine (mathTrunc_any b w).mono ?_
 rintro en w1 ⟨c, rfl, hb1, hT⟩
 have hw := hway hT
 clear hT hway
 go_wp2_with fail
 refine (sgn_uint32 _).mono ?_
 rintro en w2 ⟨rfl, rfl⟩
 rcases hw with ⟨h1, h2, h3, h4, h5, p1, p2⟩ | ⟨h1, h2, h3, h4, ⟨u, h5, h6, h7, h8⟩, p1, p2⟩ | ⟨h1, p1, p2⟩ | ⟨h1, h2, p1, p2⟩
 all_goals
  go_wp2
  go_ret2
  rw [p2, p1]
  exact ⟨rfl, hb1⟩
theorem cut_W64_uint64 (b : Nat) (w : World) :
 Calls Tryz.prog 40 #[.float .f64 b] w fun e w' => e = .returned (.tuple #[.int .u64 (cuV 0 18446744073709551616 (finB 11 52 b) (tzV 11 52 b)), .bool (cuB 0 18446744073709551616 (finB 11 52 b) (tzV 11 52 b))]) ∧ Below w.heap.size w w' := by
 have hway := fun {c} (h : Tc b c) => wy_u64 (fun _ => rfl) (cut_way_u h)
 generalize finB 11 52 b = fn at *
 generalize (tzV 11 52 b) = t at *
 go_enter Tryz.func40, Tryz.ntmps40
 go_wp2_with fail
 refine (mathTrunc_any b w).mono ?_
 rintro en w1 ⟨c, rfl, hb1, hT⟩
 have hw := hway hT
 clear hT hway
 go_wp2_with fail
 refine (sgn_uint64 _).mono ?_
 rintro en w2 ⟨rfl, rfl⟩
 rcases hw with ⟨h1, h2, h3, h4, p1, p2⟩ | ⟨h1, p1, p2⟩ | ⟨h1, h2, p1, p2⟩
 all_goals
  go_wp2
  go_ret2
  rw [p2, p1]
  exact ⟨rfl, hb1⟩
theorem cut_W64_mine (b : Nat) (w : World) :
 Calls Tryz.prog 41 #[.float .f64 b] w fun e w' => e = .returned (.tuple #[.int .i16 (cuV (-32768) 32768 (finB 11 52 b) (tzV 11 52 b)), .bool (cuB (-32768) 32768 (finB 11 52 b) (tzV 11 52 b))]) ∧ Below w.heap.size w w' := by
 have hway := fun {c} (h : Tc b c) => wy_i16 (fun _ => rfl) (cut_way_s h)
 generalize finB 11 52 b = fn at *
 generalize (tzV 11 52 b) = t at *
 go_enter Tryz.func41, Tryz.ntmps41
 go_wp2_with fail
 refine (mathTrunc_any b w).mono ?_
 rintro en w1 ⟨c, rfl, hb1, hT⟩
 have hw := hway hT
 clear hT hway
 go_wp2_with fail
 refine (sgn_mine _).mono ?_
 rintro en w2 ⟨rfl, rfl⟩
 rcases hw with ⟨h1, h2, h3, h4, h5, p1, p2⟩ | ⟨h1, h2, h3, h4, ⟨u, h5, h6, h7, h8⟩, p1, p2⟩ | ⟨h1, p1, p2⟩ | ⟨h1, h2, p1, p2⟩
 all_goals
  go_wp2
  go_ret2
  rw [p2, p1]
  exact ⟨rfl, hb1⟩
theorem cut_W64_yours (b : Nat) (w : World) :
 Calls Tryz.prog 42 #[.float .f64 b] w fun e w' => e = .returned (.tuple #[.int .u32 (cuV 0 4294967296 (finB 11 52 b) (tzV 11 52 b)), .bool (cuB 0 4294967296 (finB 11 52 b) (tzV 11 52 b))]) ∧ Below w.heap.size w w' := by
 have hway := fun {c} (h : Tc b c) => wy_u32 (fun _ => rfl) (cut_way_u h)
 generalize finB 11 52 b = fn at *
 generalize (tzV 11 52 b) = t at *
 go_enter Tryz.func42, Tryz.ntmps42
 go_wp2_with fail
 refine (mathTrunc_any b w).mono ?_
 rintro en w1 ⟨c, rfl, hb1, hT⟩
 have hw := hway hT
 clear hT hway
 go_wp2_with fail
 refine (sgn_yours _).mono ?_
 rintro en w2 ⟨rfl, rfl⟩
 rcases hw with ⟨h1, h2, h3, h4, h5, p1, p2⟩ | ⟨h1, h2, h3, h4, ⟨u, h5, h6, h7, h8⟩, p1, p2⟩ | ⟨h1, p1, p2⟩ | ⟨h1, h2, p1, p2⟩
 all_goals
  go_wp2
  go_ret2
  rw [p2, p1]
  exact ⟨rfl, hb1⟩
end Go.Proofs.YtoiifhmepniniaaGreatDoor
