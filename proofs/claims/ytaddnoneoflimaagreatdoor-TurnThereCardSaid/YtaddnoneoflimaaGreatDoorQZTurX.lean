/-
  Cut of a double and of a single into an int64. (Printed by wip/gen/turcut.py.)
-/
import Derived.Test.YtaddnoneoflimaaGreatDoorQTwBase
import Derived.Test.YtaddnoneoflimaaGreatDoorQZTurU
namespace Go.Proofs.YtaddnoneoflimaaGreatDoor

open Go.RowKit Go.Lb

attribute [local go_sem] Go.World.cell?_alloc_some

theorem sgn_int64 (w : World) : Calls Tryz.prog 117 #[] w fun e w' => e = .returned (.bool true) ∧ w = w' := by
  go_enter Tryz.func117, Tryz.ntmps117
  go_wp2
  go_ret
  exact ⟨rfl, rfl⟩

set_option maxRecDepth 100000 in
set_option maxHeartbeats 2000000 in
theorem cut_F64_int64 (b : Nat) (w : World) :
    Calls Tryz.prog 19 #[.float .f64 b] w fun e w' => e = .returned (.tuple #[.int .i64 (cuV (-9223372036854775808) 9223372036854775808 (finB 11 52 b) (tzV 11 52 b)), .bool (cuB (-9223372036854775808) 9223372036854775808 (finB 11 52 b) (tzV 11 52 b))]) ∧ Below w.heap.size w w' := by
  have hway := fun {c} (h : Tc b c) => cut_way_s h
  generalize finB 11 52 b = fn at *
  generalize (tzV 11 52 b) = t at *
  go_enter Tryz.func19, Tryz.ntmps19
  go_wp2_with fail
  refine (mathTrunc_any b w).mono ?_
  rintro en w1 ⟨c, rfl, hb1, hT⟩
  have hw := hway hT
  clear hT hway
  have V1 : Below w.heap.size w w1 := hb1
  go_wp2_with fail
  refine (sgn_int64 _).mono ?_
  rintro en w2 ⟨rfl, rfl⟩
  rcases hw with ⟨h1, h2, ⟨hf, h3, h4⟩, h5⟩ | ⟨h1, hn⟩ | ⟨h1, h2, hn⟩
  · have hq : ∀ W : World, (convert 25 2 (.float .f64 c)).run Tryz.prog W = .ok (.int .i64 t) W := fun W => run_convert_float_int W _ _ .f64 .i64 c t (by kernel_rfl) (by kernel_rfl) h5
    obtain ⟨p1, p2⟩ := cu_yes (lo := (-9223372036854775808)) (hi := 9223372036854775808) hf h3 h4
    have hwl : wrap64 t = t := by unfold wrap64; omega
    clear h5 hf
    go_wp2
    go_ret2
    rw [p2, p1]
    exact ⟨rfl, V1⟩
  · obtain ⟨p1, p2⟩ := cu_no (lo := (-9223372036854775808)) (hi := 9223372036854775808) (fin := fn) (t := t) (fun h => hn ⟨h.1, by omega, by omega⟩)
    clear hn
    go_wp2
    go_ret2
    rw [p2, p1]
    exact ⟨rfl, V1⟩
  · obtain ⟨p1, p2⟩ := cu_no (lo := (-9223372036854775808)) (hi := 9223372036854775808) (fin := fn) (t := t) (fun h => hn ⟨h.1, by omega, by omega⟩)
    clear hn
    go_wp2
    go_ret2
    rw [p2, p1]
    exact ⟨rfl, V1⟩

set_option maxRecDepth 100000 in
set_option maxHeartbeats 2000000 in
theorem cut_F32_int64 (b : Nat) (w : World) :
    Calls Tryz.prog 21 #[.float .f32 b] w fun e w' => e = .returned (.tuple #[.int .i64 (cuV (-9223372036854775808) 9223372036854775808 (finB 8 23 b) (tzV 8 23 b)), .bool (cuB (-9223372036854775808) 9223372036854775808 (finB 8 23 b) (tzV 8 23 b))]) ∧ Below w.heap.size w w' := by
  obtain ⟨x, W0, hcv, hB0, hw8⟩ := widen_any b 27 25 w (by kernel_rfl) (by kernel_rfl)
  have hway := fun {c} (h : Tc x c) => cut_way_s h
  rw [hw8.fin] at hway
  have hval := hw8.val
  clear hw8
  generalize tzV 11 52 x = tx at *
  generalize finB 8 23 b = fn at *
  generalize (tzV 8 23 b) = t at *
  go_enter Tryz.func21, Tryz.ntmps21
  go_wp2_with fail
  refine (mathTrunc_any x W0).mono ?_
  rintro en w1 ⟨c, rfl, hb1, hT⟩
  have hw := hway hT
  clear hT hway
  have V1 : Below w.heap.size w w1 := next hB0 hb1
  go_wp2_with fail
  refine (sgn_int64 _).mono ?_
  rintro en w2 ⟨rfl, rfl⟩
  rcases hw with ⟨h1, h2, ⟨hf, h3, h4⟩, h5⟩ | ⟨h1, hn⟩ | ⟨h1, h2, hn⟩
  · obtain rfl : tx = t := hval hf
    have hq : ∀ W : World, (convert 25 2 (.float .f64 c)).run Tryz.prog W = .ok (.int .i64 tx) W := fun W => run_convert_float_int W _ _ .f64 .i64 c tx (by kernel_rfl) (by kernel_rfl) h5
    obtain ⟨p1, p2⟩ := cu_yes (lo := (-9223372036854775808)) (hi := 9223372036854775808) hf h3 h4
    have hwl : wrap64 tx = tx := by unfold wrap64; omega
    clear h5 hf
    go_wp2
    go_ret2
    rw [p2, p1]
    exact ⟨rfl, V1⟩
  · obtain ⟨p1, p2⟩ := cu_no (lo := (-9223372036854775808)) (hi := 9223372036854775808) (fin := fn) (t := t) (fun h => hn ⟨h.1, by have := h.2.1; have := hval h.1; omega, by have := h.2.2; have := hval h.1; omega⟩)
    clear hn
    go_wp2
    go_ret2
    rw [p2, p1]
    exact ⟨rfl, V1⟩
  · obtain ⟨p1, p2⟩ := cu_no (lo := (-9223372036854775808)) (hi := 9223372036854775808) (fin := fn) (t := t) (fun h => hn ⟨h.1, by have := h.2.1; have := hval h.1; omega, by have := h.2.2; have := hval h.1; omega⟩)
    clear hn
    go_wp2
    go_ret2
    rw [p2, p1]
    exact ⟨rfl, V1⟩

end Go.Proofs.YtaddnoneoflimaaGreatDoor

