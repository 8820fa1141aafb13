/-
  turn.signed of each kind of whole numbers; what Cut comes to, a kind of whole numbers each. (Printed by wip/gen/turcut.py.)
-/
import Derived.Test.YtoiifhmepniniaaGreatDoorQCtBase
namespace Go.Proofs.YtoiifhmepniniaaGreatDoor
open Go.RowKit Go.Lb
attribute [local go_sem] Go.World.cell?_alloc_some
theorem sgn_int (w : World) : Calls Tryz.prog 87 #[] w fun e w' => e = .returned (.bool true) ∧ w = w' := by
 go_enter Tryz.func87, Tryz.ntmps87
 go_wp2
 go_ret
 exact ⟨rfl, rfl⟩
theorem sgn_int8 (w : World) : Calls Tryz.prog 83 #[] w fun e w' => e = .returned (.bool true) ∧ w = w' := by
 go_enter Tryz.func83, Tryz.ntmps83
 go_wp2
 go_ret
 exact ⟨rfl, rfl⟩
theorem sgn_int16 (w : World) : Calls Tryz.prog 88 #[] w fun e w' => e = .returned (.bool true) ∧ w = w' := by
 go_enter Tryz.func88, Tryz.ntmps88
 go_wp2
 go_ret
 exact ⟨rfl, rfl⟩
theorem sgn_int32 (w : World) : Calls Tryz.prog 89 #[] w fun e w' => e = .returned (.bool true) ∧ w = w' := by
 go_enter Tryz.func89, Tryz.ntmps89
 go_wp2
 go_ret
 exact ⟨rfl, rfl⟩
theorem sgn_uint (w : World) : Calls Tryz.prog 91 #[] w fun e w' => e = .returned (.bool false) ∧ w = w' := by
 go_enter Tryz.func91, Tryz.ntmps91
 go_wp2
 go_ret
 exact ⟨rfl, rfl⟩
theorem sgn_uint8 (w : World) : Calls Tryz.prog 84 #[] w fun e w' => e = .returned (.bool false) ∧ w = w' := by
 go_enter Tryz.func84, Tryz.ntmps84
 go_wp2
 go_ret
 exact ⟨rfl, rfl⟩
theorem sgn_uint16 (w : World) : Calls Tryz.prog 92 #[] w fun e w' => e = .returned (.bool false) ∧ w = w' := by
 go_enter Tryz.func92, Tryz.ntmps92
 go_wp2
 go_ret
 exact ⟨rfl, rfl⟩
theorem sgn_uint32 (w : World) : Calls Tryz.prog 93 #[] w fun e w' => e = .returned (.bool false) ∧ w = w' := by
 go_enter Tryz.func93, Tryz.ntmps93
 go_wp2
 go_ret
 exact ⟨rfl, rfl⟩
theorem sgn_uint64 (w : World) : Calls Tryz.prog 94 #[] w fun e w' => e = .returned (.bool false) ∧ w = w' := by
 go_enter Tryz.func94, Tryz.ntmps94
 go_wp2
 go_ret
 exact ⟨rfl, rfl⟩
theorem sgn_mine (w : World) : Calls Tryz.prog 95 #[] w fun e w' => e = .returned (.bool true) ∧ w = w' := by
 go_enter Tryz.func95, Tryz.ntmps95
 go_wp2
 go_ret
 exact ⟨rfl, rfl⟩
theorem sgn_yours (w : World) : Calls Tryz.prog 96 #[] w fun e w' => e = .returned (.bool false) ∧ w = w' := by
 go_enter Tryz.func96, Tryz.ntmps96
 go_wp2
 go_ret
 exact ⟨rfl, rfl⟩
theorem wy_i8 {c : Nat} {fn A B : Bool} {x t : Int} (hv : fn = true → x = t) (hw : (A = true ∧ B = true ∧ (fn = true ∧ -9223372036854775808 ≤ x ∧ x < 9223372036854775808) ∧ floatToIntVal .f64 c .i64 = some x) ∨ (A = false ∧ ¬ (fn = true ∧ -9223372036854775808 ≤ x ∧ x < 9223372036854775808)) ∨ (A = true ∧ B = false ∧ ¬ (fn = true ∧ -9223372036854775808 ≤ x ∧ x < 9223372036854775808))) :
 (A = true ∧ B = true ∧ (∀ W : World, (convert 25 2 (.float .f64 c)).run Tryz.prog W = .ok (.int .i64 t) W) ∧ wrap64 t = t ∧ IntKind.i8.wrap t = t ∧ cuB (-128) 128 fn t = true ∧ cuV (-128) 128 fn t = t) ∨
 (A = true ∧ B = true ∧ (∀ W : World, (convert 25 2 (.float .f64 c)).run Tryz.prog W = .ok (.int .i64 t) W) ∧ wrap64 t = t ∧ (∃ u, IntKind.i8.wrap t = u ∧ wrap64 u = u ∧ (u != t) = true ∧ ¬ u = t) ∧ cuB (-128) 128 fn t = false ∧ cuV (-128) 128 fn t = 0) ∨
 (A = false ∧ cuB (-128) 128 fn t = false ∧ cuV (-128) 128 fn t = 0) ∨ (A = true ∧ B = false ∧ cuB (-128) 128 fn t = false ∧ cuV (-128) 128 fn t = 0) := by
 have no : ¬ (fn = true ∧ -9223372036854775808 ≤ x ∧ x < 9223372036854775808) → cuB (-128) 128 fn t = false ∧ cuV (-128) 128 fn t = 0 := fun hn => cu_no (fun h => hn ⟨h.1, by have := h.2.1; have := hv h.1; omega, by have := h.2.2; have := hv h.1; omega⟩)
 rcases hw with ⟨h1, h2, ⟨hf, h3, h4⟩, h5⟩ | ⟨h1, hn⟩ | ⟨h1, h2, hn⟩
 · obtain rfl : x = t := hv hf
   have hq : (∀ W : World, (convert 25 2 (.float .f64 c)).run Tryz.prog W = .ok (.int .i64 x) W) := fun W => run_convert_float_int W _ _ .f64 .i64 c x (by kernel_rfl) (by kernel_rfl) h5
   have hwl : wrap64 x = x := by unfold wrap64; omega
   by_cases hfit : -128 ≤ x ∧ x < 128
   · exact .inl ⟨h1, h2, hq, hwl, wrap_i8_is hfit, cu_yes hf hfit.1 hfit.2⟩
   · obtain ⟨u1, u2, u3⟩ := wrap_i8_out hfit
     exact .inr (.inl ⟨h1, h2, hq, hwl, ⟨_, rfl, by generalize IntKind.i8.wrap x = u at *; unfold wrap64; omega, bne_iff_ne.2 u1, u1⟩, cu_no (fun h => hfit h.2)⟩)
 · exact .inr (.inr (.inl ⟨h1, no hn⟩))
 · exact .inr (.inr (.inr ⟨h1, h2, no hn⟩))
theorem wy_i16 {c : Nat} {fn A B : Bool} {x t : Int} (hv : fn = true → x = t) (hw : (A = true ∧ B = true ∧ (fn = true ∧ -9223372036854775808 ≤ x ∧ x < 9223372036854775808) ∧ floatToIntVal .f64 c .i64 = some x) ∨ (A = false ∧ ¬ (fn = true ∧ -9223372036854775808 ≤ x ∧ x < 9223372036854775808)) ∨ (A = true ∧ B = false ∧ ¬ (fn = true ∧ -9223372036854775808 ≤ x ∧ x < 9223372036854775808))) :
 (A = true ∧ B = true ∧ (∀ W : World, (convert 25 2 (.float .f64 c)).run Tryz.prog W = .ok (.int .i64 t) W) ∧ wrap64 t = t ∧ IntKind.i16.wrap t = t ∧ cuB (-32768) 32768 fn t = true ∧ cuV (-32768) 32768 fn t = t) ∨
 (A = true ∧ B = true ∧ (∀ W : World, (convert 25 2 (.float .f64 c)).run Tryz.prog W = .ok (.int .i64 t) W) ∧ wrap64 t = t ∧ (∃ u, IntKind.i16.wrap t = u ∧ wrap64 u = u ∧ (u != t) = true ∧ ¬ u = t) ∧ cuB (-32768) 32768 fn t = false ∧ cuV (-32768) 32768 fn t = 0) ∨
 (A = false ∧ cuB (-32768) 32768 fn t = false ∧ cuV (-32768) 32768 fn t = 0) ∨ (A = true ∧ B = false ∧ cuB (-32768) 32768 fn t = false ∧ cuV (-32768) 32768 fn t = 0) := by
 have no : ¬ (fn = true ∧ -9223372036854775808 ≤ x ∧ x < 9223372036854775808) → cuB (-32768) 32768 fn t = false ∧ cuV (-32768) 32768 fn t = 0 := fun hn => cu_no (fun h => hn ⟨h.1, by have := h.2.1; have := hv h.1; omega, by have := h.2.2; have := hv h.1; omega⟩)
 rcases hw with ⟨h1, h2, ⟨hf, h3, h4⟩, h5⟩ | ⟨h1, hn⟩ | ⟨h1, h2, hn⟩
 · obtain rfl : x = t := hv hf
   have hq : (∀ W : World, (convert 25 2 (.float .f64 c)).run Tryz.prog W = .ok (.int .i64 x) W) := fun W => run_convert_float_int W _ _ .f64 .i64 c x (by kernel_rfl) (by kernel_rfl) h5
   have hwl : wrap64 x = x := by unfold wrap64; omega
   by_cases hfit : -32768 ≤ x ∧ x < 32768
   · exact .inl ⟨h1, h2, hq, hwl, wrap_i16_is hfit, cu_yes hf hfit.1 hfit.2⟩
   · obtain ⟨u1, u2, u3⟩ := wrap_i16_out hfit
     exact .inr (.inl ⟨h1, h2, hq, hwl, ⟨_, rfl, by generalize IntKind.i16.wrap x = u at *; unfold wrap64; omega, bne_iff_ne.2 u1, u1⟩, cu_no (fun h => hfit h.2)⟩)
 · exact .inr (.inr (.inl ⟨h1, no hn⟩))
 · exact .inr (.inr (.inr ⟨h1, h2, no hn⟩))
theorem wy_i32 {c : Nat} {fn A B : Bool} {x t : Int} (hv : fn = true → x = t) (hw : (A = true ∧ B = true ∧ (fn = true ∧ -9223372036854775808 ≤ x ∧ x < 9223372036854775808) ∧ floatToIntVal .f64 c .i64 = some x) ∨ (A = false ∧ ¬ (fn = true ∧ -9223372036854775808 ≤ x ∧ x < 9223372036854775808)) ∨ (A = true ∧ B = false ∧ ¬ (fn = true ∧ -9223372036854775808 ≤ x ∧ x < 9223372036854775808))) :
 (A = true ∧ B = true ∧ (∀ W : World, (convert 25 2 (.float .f64 c)).run Tryz.prog W = .ok (.int .i64 t) W) ∧ wrap64 t = t ∧ IntKind.i32.wrap t = t ∧ cuB (-2147483648) 2147483648 fn t = true ∧ cuV (-2147483648) 2147483648 fn t = t) ∨
 (A = true ∧ B = true ∧ (∀ W : World, (convert 25 2 (.float .f64 c)).run Tryz.prog W = .ok (.int .i64 t) W) ∧ wrap64 t = t ∧ (∃ u, IntKind.i32.wrap t = u ∧ wrap64 u = u ∧ (u != t) = true ∧ ¬ u = t) ∧ cuB (-2147483648) 2147483648 fn t = false ∧ cuV (-2147483648) 2147483648 fn t = 0) ∨
 (A = false ∧ cuB (-2147483648) 2147483648 fn t = false ∧ cuV (-2147483648) 2147483648 fn t = 0) ∨ (A = true ∧ B = false ∧ cuB (-2147483648) 2147483648 fn t = false ∧ cuV (-2147483648) 2147483648 fn t = 0) := by
 have no : ¬ (fn = true ∧ -9223372036854775808 ≤ x ∧ x < 9223372036854775808) → cuB (-2147483648) 2147483648 fn t = false ∧ cuV (-2147483648) 2147483648 fn t = 0 := fun hn => cu_no (fun h => hn ⟨h.1, by have := h.2.1; have := hv h.1; omega, by have := h.2.2; have := hv h.1; omega⟩)
 rcases hw with ⟨h1, h2, ⟨hf, h3, h4⟩, h5⟩ | ⟨h1, hn⟩ | ⟨h1, h2, hn⟩
 · obtain rfl : x = t := hv hf
   have hq : (∀ W : World, (convert 25 2 (.float .f64 c)).run Tryz.prog W = .ok (.int .i64 x) W) := fun W => run_convert_float_int W _ _ .f64 .i64 c x (by kernel_rfl) (by kernel_rfl) h5
   have hwl : wrap64 x = x := by unfold wrap64; omega
   by_cases hfit : -2147483648 ≤ x ∧ x < 2147483648
   · exact .inl ⟨h1, h2, hq, hwl, wrap_i32_is hfit, cu_yes hf hfit.1 hfit.2⟩
   · obtain ⟨u1, u2, u3⟩ := wrap_i32_out hfit
     exact .inr (.inl ⟨h1, h2, hq, hwl, ⟨_, rfl, by generalize IntKind.i32.wrap x = u at *; unfold wrap64; omega, bne_iff_ne.2 u1, u1⟩, cu_no (fun h => hfit h.2)⟩)
 · exact .inr (.inr (.inl ⟨h1, no hn⟩))
 · exact .inr (.inr (.inr ⟨h1, h2, no hn⟩))
theorem wy_i64 {c : Nat} {fn A B : Bool} {x t : Int} (hv : fn = true → x = t) (hw : (A = true ∧ B = true ∧ (fn = true ∧ -9223372036854775808 ≤ x ∧ x < 9223372036854775808) ∧ floatToIntVal .f64 c .i64 = some x) ∨ (A = false ∧ ¬ (fn = true ∧ -9223372036854775808 ≤ x ∧ x < 9223372036854775808)) ∨ (A = true ∧ B = false ∧ ¬ (fn = true ∧ -9223372036854775808 ≤ x ∧ x < 9223372036854775808))) :
 (A = true ∧ B = true ∧ (∀ W : World, (convert 25 2 (.float .f64 c)).run Tryz.prog W = .ok (.int .i64 t) W) ∧ wrap64 t = t ∧ cuB (-9223372036854775808) 9223372036854775808 fn t = true ∧ cuV (-9223372036854775808) 9223372036854775808 fn t = t) ∨
 (A = false ∧ cuB (-9223372036854775808) 9223372036854775808 fn t = false ∧ cuV (-9223372036854775808) 9223372036854775808 fn t = 0) ∨ (A = true ∧ B = false ∧ cuB (-9223372036854775808) 9223372036854775808 fn t = false ∧ cuV (-9223372036854775808) 9223372036854775808 fn t = 0) := by
 have no : ¬ (fn = true ∧ -9223372036854775808 ≤ x ∧ x < 9223372036854775808) → cuB (-9223372036854775808) 9223372036854775808 fn t = false ∧ cuV (-9223372036854775808) 9223372036854775808 fn t = 0 := fun hn => cu_no (fun h => hn ⟨h.1, by have := h.2.1; have := hv h.1; omega, by have := h.2.2; have := hv h.1; omega⟩)
 rcases hw with ⟨h1, h2, ⟨hf, h3, h4⟩, h5⟩ | ⟨h1, hn⟩ | ⟨h1, h2, hn⟩
 · obtain rfl : x = t := hv hf
   have hq : (∀ W : World, (convert 25 2 (.float .f64 c)).run Tryz.prog W = .ok (.int .i64 x) W) := fun W => run_convert_float_int W _ _ .f64 .i64 c x (by kernel_rfl) (by kernel_rfl) h5
   have hwl : wrap64 x = x := by unfold wrap64; omega
   exact .inl ⟨h1, h2, hq, hwl, cu_yes hf h3 h4⟩
 · exact .inr (.inl ⟨h1, no hn⟩)
 · exact .inr (.inr ⟨h1, h2, no hn⟩)
theorem wy_u8 {c : Nat} {fn A B : Bool} {x t : Int} (hv : fn = true → x = t) (hw : (A = true ∧ B = true ∧ (fn = true ∧ 0 ≤ x ∧ x < 18446744073709551616) ∧ floatToIntVal .f64 c .u64 = some x) ∨ (A = false ∧ ¬ (fn = true ∧ 0 ≤ x ∧ x < 18446744073709551616)) ∨ (A = true ∧ B = false ∧ ¬ (fn = true ∧ 0 ≤ x ∧ x < 18446744073709551616))) :
 (A = true ∧ B = true ∧ (∀ W : World, (convert 25 22 (.float .f64 c)).run Tryz.prog W = .ok (.int .u64 t) W) ∧ IntKind.u64.wrap t = t ∧ IntKind.u8.wrap t = t ∧ cuB 0 256 fn t = true ∧ cuV 0 256 fn t = t) ∨
 (A = true ∧ B = true ∧ (∀ W : World, (convert 25 22 (.float .f64 c)).run Tryz.prog W = .ok (.int .u64 t) W) ∧ IntKind.u64.wrap t = t ∧ (∃ u, IntKind.u8.wrap t = u ∧ IntKind.u64.wrap u = u ∧ (u != t) = true ∧ ¬ u = t) ∧ cuB 0 256 fn t = false ∧ cuV 0 256 fn t = 0) ∨
 (A = false ∧ cuB 0 256 fn t = false ∧ cuV 0 256 fn t = 0) ∨ (A = true ∧ B = false ∧ cuB 0 256 fn t = false ∧ cuV 0 256 fn t = 0) := by
 have no : ¬ (fn = true ∧ 0 ≤ x ∧ x < 18446744073709551616) → cuB 0 256 fn t = false ∧ cuV 0 256 fn t = 0 := fun hn => cu_no (fun h => hn ⟨h.1, by have := h.2.1; have := hv h.1; omega, by have := h.2.2; have := hv h.1; omega⟩)
 rcases hw with ⟨h1, h2, ⟨hf, h3, h4⟩, h5⟩ | ⟨h1, hn⟩ | ⟨h1, h2, hn⟩
 · obtain rfl : x = t := hv hf
   have hq : (∀ W : World, (convert 25 22 (.float .f64 c)).run Tryz.prog W = .ok (.int .u64 x) W) := fun W => run_convert_float_int W _ _ .f64 .u64 c x (by kernel_rfl) (by kernel_rfl) h5
   have hwl : IntKind.u64.wrap x = x := by rw [IntKind.wrap_u64]; omega
   by_cases hfit : 0 ≤ x ∧ x < 256
   · exact .inl ⟨h1, h2, hq, hwl, (show IntKind.u8.wrap x = x by rw [IntKind.wrap_u8]; omega), cu_yes hf hfit.1 hfit.2⟩
   · obtain ⟨u1, u2, u3⟩ := (show IntKind.u8.wrap x ≠ x ∧ 0 ≤ IntKind.u8.wrap x ∧ IntKind.u8.wrap x < 256 by rw [IntKind.wrap_u8]; omega)
     exact .inr (.inl ⟨h1, h2, hq, hwl, ⟨_, rfl, by generalize IntKind.u8.wrap x = u at *; rw [IntKind.wrap_u64]; omega, bne_iff_ne.2 u1, u1⟩, cu_no (fun h => hfit h.2)⟩)
 · exact .inr (.inr (.inl ⟨h1, no hn⟩))
 · exact .inr (.inr (.inr ⟨h1, h2, no hn⟩))
theorem wy_u16 {c : Nat} {fn A B : Bool} {x t : Int} (hv : fn = true → x = t) (hw : (A = true ∧ B = true ∧ (fn = true ∧ 0 ≤ x ∧ x < 18446744073709551616) ∧ floatToIntVal .f64 c .u64 = some x) ∨ (A = false ∧ ¬ (fn = true ∧ 0 ≤ x ∧ x < 18446744073709551616)) ∨ (A = true ∧ B = false ∧ ¬ (fn = true ∧ 0 ≤ x ∧ x < 18446744073709551616))) :
 (A = true ∧ B = true ∧ (∀ W : World, (convert 25 22 (.float .f64 c)).run Tryz.prog W = .ok (.int .u64 t) W) ∧ IntKind.u64.wrap t = t ∧ IntKind.u16.wrap t = t ∧ cuB 0 65536 fn t = true ∧ cuV 0 65536 fn t = t) ∨
 (A = true ∧ B = true ∧ (∀ W : World, (convert 25 22 (.float .f64 c)).run Tryz.prog W = .ok (.int .u64 t) W) ∧ IntKind.u64.wrap t = t ∧ (∃ u, IntKind.u16.wrap t = u ∧ IntKind.u64.wrap u = u ∧ (u != t) = true ∧ ¬ u = t) ∧ cuB 0 65536 fn t = false ∧ cuV 0 65536 fn t = 0) ∨
 (A = false ∧ cuB 0 65536 fn t = false ∧ cuV 0 65536 fn t = 0) ∨ (A = true ∧ B = false ∧ cuB 0 65536 fn t = false ∧ cuV 0 65536 fn t = 0) := by
 have no : ¬ (fn = true ∧ 0 ≤ x ∧ x < 18446744073709551616) → cuB 0 65536 fn t = false ∧ cuV 0 65536 fn t = 0 := fun hn => cu_no (fun h => hn ⟨h.1, by have := h.2.1; have := hv h.1; omega, by have := h.2.2; have := hv h.1; omega⟩)
 rcases hw with ⟨h1, h2, ⟨hf, h3, h4⟩, h5⟩ | ⟨h1, hn⟩ | ⟨h1, h2, hn⟩
 · obtain rfl : x = t := hv hf
   have hq : (∀ W : World, (convert 25 22 (.float .f64 c)).run Tryz.prog W = .ok (.int .u64 x) W) := fun W => run_convert_float_int W _ _ .f64 .u64 c x (by kernel_rfl) (by kernel_rfl) h5
   have hwl : IntKind.u64.wrap x = x := by rw [IntKind.wrap_u64]; omega
   by_cases hfit : 0 ≤ x ∧ x < 65536
   · exact .inl ⟨h1, h2, hq, hwl, (show IntKind.u16.wrap x = x by rw [IntKind.wrap_u16]; omega), cu_yes hf hfit.1 hfit.2⟩
   · obtain ⟨u1, u2, u3⟩ := (show IntKind.u16.wrap x ≠ x ∧ 0 ≤ IntKind.u16.wrap x ∧ IntKind.u16.wrap x < 65536 by rw [IntKind.wrap_u16]; omega)
     exact .inr (.inl ⟨h1, h2, hq, hwl, ⟨_, rfl, by generalize IntKind.u16.wrap x = u at *; rw [IntKind.wrap_u64]; omega, bne_iff_ne.2 u1, u1⟩, cu_no (fun h => hfit h.2)⟩)
 · exact .inr (.inr (.inl ⟨h1, no hn⟩))
 · exact .inr (.inr (.inr ⟨h1, h2, no hn⟩))
theorem wy_u32 {c : Nat} {fn A B : Bool} {x t : Int} (hv : fn = true → x = t) (hw : (A = true ∧ B = true ∧ (fn = true ∧ 0 ≤ x ∧ x < 18446744073709551616) ∧ floatToIntVal .f64 c .u64 = some x) ∨ (A = false ∧ ¬ (fn = true ∧ 0 ≤ x ∧ x < 18446744073709551616)) ∨ (A = true ∧ B = false ∧ ¬ (fn = true ∧ 0 ≤ x ∧ x < 18446744073709551616))) :
 (A = true ∧ B = true ∧ (∀ W : World, (convert 25 22 (.float .f64 c)).run Tryz.prog W = .ok (.int .u64 t) W) ∧ IntKind.u64.wrap t = t ∧ IntKind.u32.wrap t = t ∧ cuB 0 4294967296 fn t = true ∧ cuV 0 4294967296 fn t = t) ∨
 (A = true ∧ B = true ∧ (∀ W : World, (convert 25 22 (.float .f64 c)).run Tryz.prog W = .ok (.int .u64 t) W) ∧ IntKind.u64.wrap t = t ∧ (∃ u, IntKind.u32.wrap t = u ∧ IntKind.u64.wrap u = u ∧ (u != t) = true ∧ ¬ u = t) ∧ cuB 0 4294967296 fn t = false ∧ cuV 0 4294967296 fn t = 0) ∨
 (A = false ∧ cuB 0 4294967296 fn t = false ∧ cuV 0 4294967296 fn t = 0) ∨ (A = true ∧ B = false ∧ cuB 0 4294967296 fn t = false ∧ cuV 0 4294967296 fn t = 0) := by
 have no : ¬ (fn = true ∧ 0 ≤ x ∧ x < 18446744073709551616) → cuB 0 4294967296 fn t = false ∧ cuV 0 4294967296 fn t = 0 := fun hn => cu_no (fun h => hn ⟨h.1, by have := h.2.1; have := hv h.1; omega, by have := h.2.2; have := hv h.1; omega⟩)
 rcases hw with ⟨h1, h2, ⟨hf, h3, h4⟩, h5⟩ | ⟨h1, hn⟩ | ⟨h1, h2, hn⟩
 · obtain rfl : x = t := hv hf
   have hq : (∀ W : World, (convert 25 22 (.float .f64 c)).run Tryz.prog W = .ok (.int .u64 x) W) := fun W => run_convert_float_int W _ _ .f64 .u64 c x (by kernel_rfl) (by kernel_rfl) h5
   have hwl : IntKind.u64.wrap x = x := by rw [IntKind.wrap_u64]; omega
   by_cases hfit : 0 ≤ x ∧ x < 4294967296
   · exact .inl ⟨h1, h2, hq, hwl, (show IntKind.u32.wrap x = x by rw [IntKind.wrap_u32]; omega), cu_yes hf hfit.1 hfit.2⟩
   · obtain ⟨u1, u2, u3⟩ := (show IntKind.u32.wrap x ≠ x ∧ 0 ≤ IntKind.u32.wrap x ∧ IntKind.u32.wrap x < 4294967296 by rw [IntKind.wrap_u32]; omega)
     exact .inr (.inl ⟨h1, h2, hq, hwl, ⟨_, rfl, by generalize IntKind.u32.wrap x = u at *; rw [IntKind.wrap_u64]; omega, bne_iff_ne.2 u1, u1⟩, cu_no (fun h => hfit h.2)⟩)
 · exact .inr (.inr (.inl ⟨h1, no hn⟩))
 · exact .inr (.inr (.inr ⟨h1, h2, no hn⟩))
theorem wy_u64 {c : Nat} {fn A B : Bool} {x t : Int} (hv : fn = true → x = t) (hw : (A = true ∧ B = true ∧ (fn = true ∧ 0 ≤ x ∧ x < 18446744073709551616) ∧ floatToIntVal .f64 c .u64 = some x) ∨ (A = false ∧ ¬ (fn = true ∧ 0 ≤ x ∧ x < 18446744073709551616)) ∨ (A = true ∧ B = false ∧ ¬ (fn = true ∧ 0 ≤ x ∧ x < 18446744073709551616))) :
 (A = true ∧ B = true ∧ (∀ W : World, (convert 25 22 (.float .f64 c)).run Tryz.prog W = .ok (.int .u64 t) W) ∧ IntKind.u64.wrap t = t ∧ cuB 0 18446744073709551616 fn t = true ∧ cuV 0 18446744073709551616 fn t = t) ∨
 (A = false ∧ cuB 0 18446744073709551616 fn t = false ∧ cuV 0 18446744073709551616 fn t = 0) ∨ (A = true ∧ B = false ∧ cuB 0 18446744073709551616 fn t = false ∧ cuV 0 18446744073709551616 fn t = 0) := by
 have no : ¬ (fn = true ∧ 0 ≤ x ∧ x < 18446744073709551616) → cuB 0 18446744073709551616 fn t = false ∧ cuV 0 18446744073709551616 fn t = 0 := fun hn => cu_no (fun h => hn ⟨h.1, by have := h.2.1; have := hv h.1; omega, by have := h.2.2; have := hv h.1; omega⟩)
 rcases hw with ⟨h1, h2, ⟨hf, h3, h4⟩, h5⟩ | ⟨h1, hn⟩ | ⟨h1, h2, hn⟩
 · obtain rfl : x = t := hv hf
   have hq : (∀ W : World, (convert 25 22 (.float .f64 c)).run Tryz.prog W = .ok (.int .u64 x) W) := fun W => run_convert_float_int W _ _ .f64 .u64 c x (by kernel_rfl) (by kernel_rfl) h5
   have hwl : IntKind.u64.wrap x = x := by rw [IntKind.wrap_u64]; omega
   exact .inl ⟨h1, h2, hq, hwl, cu_yes hf h3 h4⟩
 · exact .inr (.inl ⟨h1, no hn⟩)
 · exact .inr (.inr ⟨h1, h2, no hn⟩)
end Go.Proofs.YtoiifhmepniniaaGreatDoor
