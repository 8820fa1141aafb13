/-
  The walk of the law TurnNears: it answers true, whatever it is asked; nothing that was there has turned. (Printed by wip/gen/turnear.py.)
-/
import Derived.Test.YtaddnoneoflimaaGreatDoorQNsBase
import Derived.Test.YtaddnoneoflimaaGreatDoorQYTurN
namespace Go.Proofs.YtaddnoneoflimaaGreatDoor

open Go.RowKit Go.Lb

attribute [local go_sem] Go.World.cell?_alloc_some

theorem wrap_i16_in (n : Int) : -32768 ≤ IntKind.i16.wrap n ∧ IntKind.i16.wrap n ≤ 32767 := by
  have e : IntKind.i16.wrap n = if 32768 ≤ n % 65536 then n % 65536 - 65536 else n % 65536 := by
    simp [IntKind.wrap, IntKind.bits, IntKind.signed]
  rw [e]
  split <;> omega

theorem wrap_i8_in (n : Int) : -128 ≤ IntKind.i8.wrap n ∧ IntKind.i8.wrap n ≤ 127 := by
  have e : IntKind.i8.wrap n = if 128 ≤ n % 256 then n % 256 - 256 else n % 256 := by
    simp [IntKind.wrap, IntKind.bits, IntKind.signed]
  rw [e]
  split <;> omega

set_option maxRecDepth 100000 in
set_option maxHeartbeats 8000000 in
theorem turnNears_any (n : Nat) (w : World) (hn : n < 18446744073709551616) (hT : Tab w) :
    Calls Tryz.prog 5 #[.int .u64 (n : Int)] w fun en w' => en = .returned (.bool true) ∧ Below w.heap.size w w' := by
  obtain ⟨v64, ev64, lv64, uv64⟩ : ∃ v : Int, wrap64 (n : Int) = v ∧ -9223372036854775808 ≤ v ∧ v ≤ 9223372036854775807 := ⟨_, rfl, by unfold wrap64; omega, by unfold wrap64; omega⟩
  have cv64 : wrap64 v64 = v64 := by unfold wrap64; omega
  obtain ⟨v32, ev32, lv32, uv32⟩ : ∃ v : Int, IntKind.i32.wrap (n : Int) = v ∧ -2147483648 ≤ v ∧ v ≤ 2147483647 := ⟨_, rfl, by rw [IntKind.wrap_i32]; omega, by rw [IntKind.wrap_i32]; omega⟩
  have cv32 : wrap64 v32 = v32 := by unfold wrap64; omega
  obtain ⟨v16, ev16, lv16, uv16⟩ : ∃ v : Int, IntKind.i16.wrap (n : Int) = v ∧ -32768 ≤ v ∧ v ≤ 32767 := ⟨_, rfl, (wrap_i16_in _).1, (wrap_i16_in _).2⟩
  have cv16 : wrap64 v16 = v16 := by unfold wrap64; omega
  obtain ⟨v8, ev8, lv8, uv8⟩ : ∃ v : Int, IntKind.i8.wrap (n : Int) = v ∧ -128 ≤ v ∧ v ≤ 127 := ⟨_, rfl, (wrap_i8_in _).1, (wrap_i8_in _).2⟩
  have cv8 : wrap64 v8 = v8 := by unfold wrap64; omega
  obtain ⟨y32, ey32, ly32, uy32⟩ : ∃ v : Int, IntKind.u32.wrap (n : Int) = v ∧ 0 ≤ v ∧ v ≤ 4294967295 := ⟨_, rfl, by rw [IntKind.wrap_u32]; omega, by rw [IntKind.wrap_u32]; omega⟩
  have cy32 : IntKind.u64.wrap y32 = y32 := by rw [IntKind.wrap_u64]; omega
  obtain ⟨y16, ey16, ly16, uy16⟩ : ∃ v : Int, IntKind.u16.wrap (n : Int) = v ∧ 0 ≤ v ∧ v ≤ 65535 := ⟨_, rfl, by rw [IntKind.wrap_u16]; omega, by rw [IntKind.wrap_u16]; omega⟩
  have cy16 : IntKind.u64.wrap y16 = y16 := by rw [IntKind.wrap_u64]; omega
  obtain ⟨y8, ey8, ly8, uy8⟩ : ∃ v : Int, IntKind.u8.wrap (n : Int) = v ∧ 0 ≤ v ∧ v ≤ 255 := ⟨_, rfl, by rw [IntKind.wrap_u8]; omega, by rw [IntKind.wrap_u8]; omega⟩
  have cy8 : IntKind.u64.wrap y8 = y8 := by rw [IntKind.wrap_u64]; omega
  have hW := Below.refl w.heap.size w
  have cA : ∀ W, Below w.heap.size w W → Calls Tryz.prog 10 #[] W _ := fun W hW => alive8_any W (hT.below hW)
  have k1 : ∀ W, Below w.heap.size w W → Calls Tryz.prog 20 #[.int .i64 v64] W _ := fun W hW => near_F64_int64 v64 W lv64 uv64 (hT.below hW)
  have k2 : ∀ W, Below w.heap.size w W → Calls Tryz.prog 22 #[.int .i64 v64] W _ := fun W hW => near_F32_int64 v64 W lv64 uv64 (hT.below hW)
  have k3 : ∀ W, Below w.heap.size w W → Calls Tryz.prog 27 #[.int .i64 v64] W _ := fun W hW => near_F64_int v64 W lv64 uv64 (hT.below hW)
  have k4 : ∀ W, Below w.heap.size w W → Calls Tryz.prog 28 #[.int .i64 v64] W _ := fun W hW => near_F32_int v64 W lv64 uv64 (hT.below hW)
  have k5 : ∀ W, Below w.heap.size w W → Calls Tryz.prog 29 #[.int .i32 v32] W _ := fun W hW => near_F64_int32 v32 W lv32 uv32 (hT.below hW)
  have k6 : ∀ W, Below w.heap.size w W → Calls Tryz.prog 30 #[.int .i32 v32] W _ := fun W hW => near_F32_int32 v32 W lv32 uv32 (hT.below hW)
  have k7 : ∀ W, Below w.heap.size w W → Calls Tryz.prog 31 #[.int .i16 v16] W _ := fun W hW => near_F64_int16 v16 W lv16 uv16 (hT.below hW)
  have k8 : ∀ W, Below w.heap.size w W → Calls Tryz.prog 32 #[.int .i16 v16] W _ := fun W hW => near_F32_mine v16 W lv16 uv16 (hT.below hW)
  have k9 : ∀ W, Below w.heap.size w W → Calls Tryz.prog 33 #[.int .i8 v8] W _ := fun W hW => near_W64_int8 v8 W lv8 uv8 (hT.below hW)
  have k10 : ∀ W, Below w.heap.size w W → Calls Tryz.prog 34 #[.int .i8 v8] W _ := fun W hW => near_W32_int8 v8 W lv8 uv8 (hT.below hW)
  have k11 : ∀ W, Below w.heap.size w W → Calls Tryz.prog 36 #[.int .u64 (n : Int)] W _ := fun W hW => near_F64_uint64 (n : Int) W (by omega) (by omega) (hT.below hW)
  have k12 : ∀ W, Below w.heap.size w W → Calls Tryz.prog 37 #[.int .u64 (n : Int)] W _ := fun W hW => near_F32_uint64 (n : Int) W (by omega) (by omega) (hT.below hW)
  have k13 : ∀ W, Below w.heap.size w W → Calls Tryz.prog 38 #[.int .u64 (n : Int)] W _ := fun W hW => near_F64_uint (n : Int) W (by omega) (by omega) (hT.below hW)
  have k14 : ∀ W, Below w.heap.size w W → Calls Tryz.prog 39 #[.int .u64 (n : Int)] W _ := fun W hW => near_F32_uint (n : Int) W (by omega) (by omega) (hT.below hW)
  have k15 : ∀ W, Below w.heap.size w W → Calls Tryz.prog 40 #[.int .u32 y32] W _ := fun W hW => near_F64_yours y32 W ly32 uy32 (hT.below hW)
  have k16 : ∀ W, Below w.heap.size w W → Calls Tryz.prog 41 #[.int .u32 y32] W _ := fun W hW => near_F32_uint32 y32 W ly32 uy32 (hT.below hW)
  have k17 : ∀ W, Below w.heap.size w W → Calls Tryz.prog 42 #[.int .u16 y16] W _ := fun W hW => near_F64_uint16 y16 W ly16 uy16 (hT.below hW)
  have k18 : ∀ W, Below w.heap.size w W → Calls Tryz.prog 43 #[.int .u16 y16] W _ := fun W hW => near_F32_uint16 y16 W ly16 uy16 (hT.below hW)
  have k19 : ∀ W, Below w.heap.size w W → Calls Tryz.prog 44 #[.int .u8 y8] W _ := fun W hW => near_F64_uint8 y8 W ly8 uy8 (hT.below hW)
  have k20 : ∀ W, Below w.heap.size w W → Calls Tryz.prog 45 #[.int .u8 y8] W _ := fun W hW => near_F32_uint8 y8 W ly8 uy8 (hT.below hW)
  have k21 : ∀ W, Below w.heap.size w W → Calls Tryz.prog 26 #[.int .i64 v64, .float .f64 (nrB 11 52 v64), .float .f32 (nrB 8 23 v64)] W _ := fun W hW => signed_any v64 W (by omega) (by omega) (hT.below hW)
  have k22 : ∀ W, Below w.heap.size w W → Calls Tryz.prog 26 #[.int .i64 v32, .float .f64 (nrB 11 52 v32), .float .f32 (nrB 8 23 v32)] W _ := fun W hW => signed_any v32 W (by omega) (by omega) (hT.below hW)
  have k23 : ∀ W, Below w.heap.size w W → Calls Tryz.prog 26 #[.int .i64 v16, .float .f64 (nrB 11 52 v16), .float .f32 (nrB 8 23 v16)] W _ := fun W hW => signed_any v16 W (by omega) (by omega) (hT.below hW)
  have k24 : ∀ W, Below w.heap.size w W → Calls Tryz.prog 26 #[.int .i64 v8, .float .f64 (nrB 11 52 v8), .float .f32 (nrB 8 23 v8)] W _ := fun W hW => signed_any v8 W (by omega) (by omega) (hT.below hW)
  have k25 : ∀ W, Below w.heap.size w W → Calls Tryz.prog 35 #[.int .u64 (n : Int), .float .f64 (nrB 11 52 (n : Int)), .float .f32 (nrB 8 23 (n : Int))] W _ := fun W hW => plain_any (n : Int) W (by omega) (by omega) (hT.below hW)
  have k26 : ∀ W, Below w.heap.size w W → Calls Tryz.prog 35 #[.int .u64 y32, .float .f64 (nrB 11 52 y32), .float .f32 (nrB 8 23 y32)] W _ := fun W hW => plain_any y32 W (by omega) (by omega) (hT.below hW)
  have k27 : ∀ W, Below w.heap.size w W → Calls Tryz.prog 35 #[.int .u64 y16, .float .f64 (nrB 11 52 y16), .float .f32 (nrB 8 23 y16)] W _ := fun W hW => plain_any y16 W (by omega) (by omega) (hT.below hW)
  have k28 : ∀ W, Below w.heap.size w W → Calls Tryz.prog 35 #[.int .u64 y8, .float .f64 (nrB 11 52 y8), .float .f32 (nrB 8 23 y8)] W _ := fun W hW => plain_any y8 W (by omega) (by omega) (hT.below hW)
  clear hT hn lv64 uv64 lv32 uv32 lv16 uv16 lv8 uv8 ly32 uy32 ly16 uy16 ly8 uy8
  go_enter Tryz.func5, Tryz.ntmps5
  go_wp2_with (first
    | (go_at_call 10; (with_reducible refine (cA _ hW).mono ?_); rintro en w1 ⟨rfl, hb1⟩; replace hW := next hW hb1)
    | (go_at_call 20; (with_reducible refine (k1 _ hW).mono ?_); rintro en w1 ⟨rfl, hb1⟩; replace hW := next hW hb1)
    | (go_at_call 22; (with_reducible refine (k2 _ hW).mono ?_); rintro en w1 ⟨rfl, hb1⟩; replace hW := next hW hb1)
    | (go_at_call 27; (with_reducible refine (k3 _ hW).mono ?_); rintro en w1 ⟨rfl, hb1⟩; replace hW := next hW hb1)
    | (go_at_call 28; (with_reducible refine (k4 _ hW).mono ?_); rintro en w1 ⟨rfl, hb1⟩; replace hW := next hW hb1)
    | (go_at_call 29; (with_reducible refine (k5 _ hW).mono ?_); rintro en w1 ⟨rfl, hb1⟩; replace hW := next hW hb1)
    | (go_at_call 30; (with_reducible refine (k6 _ hW).mono ?_); rintro en w1 ⟨rfl, hb1⟩; replace hW := next hW hb1)
    | (go_at_call 31; (with_reducible refine (k7 _ hW).mono ?_); rintro en w1 ⟨rfl, hb1⟩; replace hW := next hW hb1)
    | (go_at_call 32; (with_reducible refine (k8 _ hW).mono ?_); rintro en w1 ⟨rfl, hb1⟩; replace hW := next hW hb1)
    | (go_at_call 33; (with_reducible refine (k9 _ hW).mono ?_); rintro en w1 ⟨rfl, hb1⟩; replace hW := next hW hb1)
    | (go_at_call 34; (with_reducible refine (k10 _ hW).mono ?_); rintro en w1 ⟨rfl, hb1⟩; replace hW := next hW hb1)
    | (go_at_call 36; (with_reducible refine (k11 _ hW).mono ?_); rintro en w1 ⟨rfl, hb1⟩; replace hW := next hW hb1)
    | (go_at_call 37; (with_reducible refine (k12 _ hW).mono ?_); rintro en w1 ⟨rfl, hb1⟩; replace hW := next hW hb1)
    | (go_at_call 38; (with_reducible refine (k13 _ hW).mono ?_); rintro en w1 ⟨rfl, hb1⟩; replace hW := next hW hb1)
    | (go_at_call 39; (with_reducible refine (k14 _ hW).mono ?_); rintro en w1 ⟨rfl, hb1⟩; replace hW := next hW hb1)
    | (go_at_call 40; (with_reducible refine (k15 _ hW).mono ?_); rintro en w1 ⟨rfl, hb1⟩; replace hW := next hW hb1)
    | (go_at_call 41; (with_reducible refine (k16 _ hW).mono ?_); rintro en w1 ⟨rfl, hb1⟩; replace hW := next hW hb1)
    | (go_at_call 42; (with_reducible refine (k17 _ hW).mono ?_); rintro en w1 ⟨rfl, hb1⟩; replace hW := next hW hb1)
    | (go_at_call 43; (with_reducible refine (k18 _ hW).mono ?_); rintro en w1 ⟨rfl, hb1⟩; replace hW := next hW hb1)
    | (go_at_call 44; (with_reducible refine (k19 _ hW).mono ?_); rintro en w1 ⟨rfl, hb1⟩; replace hW := next hW hb1)
    | (go_at_call 45; (with_reducible refine (k20 _ hW).mono ?_); rintro en w1 ⟨rfl, hb1⟩; replace hW := next hW hb1)
    | (go_at_call 26; (with_reducible refine (k21 _ hW).mono ?_); rintro en w1 ⟨rfl, hb1⟩; replace hW := next hW hb1)
    | (go_at_call 26; (with_reducible refine (k22 _ hW).mono ?_); rintro en w1 ⟨rfl, hb1⟩; replace hW := next hW hb1)
    | (go_at_call 26; (with_reducible refine (k23 _ hW).mono ?_); rintro en w1 ⟨rfl, hb1⟩; replace hW := next hW hb1)
    | (go_at_call 26; (with_reducible refine (k24 _ hW).mono ?_); rintro en w1 ⟨rfl, hb1⟩; replace hW := next hW hb1)
    | (go_at_call 35; (with_reducible refine (k25 _ hW).mono ?_); rintro en w1 ⟨rfl, hb1⟩; replace hW := next hW hb1)
    | (go_at_call 35; (with_reducible refine (k26 _ hW).mono ?_); rintro en w1 ⟨rfl, hb1⟩; replace hW := next hW hb1)
    | (go_at_call 35; (with_reducible refine (k27 _ hW).mono ?_); rintro en w1 ⟨rfl, hb1⟩; replace hW := next hW hb1)
    | (go_at_call 35; (with_reducible refine (k28 _ hW).mono ?_); rintro en w1 ⟨rfl, hb1⟩; replace hW := next hW hb1))
  go_ret
  exact ⟨rfl, hW⟩

end Go.Proofs.YtaddnoneoflimaaGreatDoor

