/-
  The walk of the law TurnNames: it answers true, whatever it is asked; nothing that was there has turned.
-/
import Derived.Test.YtklibjdhlmdkpaaGreatDoorQTurE
namespace Go.Proofs.YtklibjdhlmdkpaaGreatDoor

open Go.RowKit Go.Lb

attribute [local go_sem] Go.World.cell?_alloc_some

set_option maxRecDepth 100000 in
set_option maxHeartbeats 4000000 in
theorem turnNames_any (w : World) (hT : Tab w) :
    Calls Tryz.prog 3 #[] w fun en w' => en = .returned (.bool true) ∧ Below w.heap.size w w' := by
  have hW := Below.refl w.heap.size w
  have cA : ∀ W, Below w.heap.size w W → Calls Tryz.prog 14 #[] W _ := fun W hW => alive8_any W (hT.below hW)
  have n1 : ∀ W, Below w.heap.size w W → Calls Tryz.prog 15 #[.agg #[.int .i64 1, .int .i64 1], .agg #[.int .i64 5, .int .i64 10], .int .u64 65536, .int .u8 9] W (fun en w' => en = .returned (.tuple #[.int .u64 0, .int .u8 0, .int .i64 5]) ∧ Below W.heap.size W w') := fun W hW => by
    have := turnTo_any 1 1 5 10 65536 9 W (by decide) (hT.below hW)
    rw [show toE 1 1 5 10 65536 9 = 5 by decide +kernel, show toBi 1 1 5 10 65536 9 = 0 by decide +kernel, show toGi 1 1 5 10 65536 9 = 0 by decide +kernel] at this
    exact this
  have n2 : ∀ W, Below w.heap.size w W → Calls Tryz.prog 15 #[.agg #[.int .i64 5, .int .i64 10], .agg #[.int .i64 1, .int .i64 1], .int .u64 65536, .int .u8 9] W (fun en w' => en = .returned (.tuple #[.int .u64 0, .int .u8 0, .int .i64 5]) ∧ Below W.heap.size W w') := fun W hW => by
    have := turnTo_any 5 10 1 1 65536 9 W (by decide) (hT.below hW)
    rw [show toE 5 10 1 1 65536 9 = 5 by decide +kernel, show toBi 5 10 1 1 65536 9 = 0 by decide +kernel, show toGi 5 10 1 1 65536 9 = 0 by decide +kernel] at this
    exact this
  have n3 : ∀ W, Below w.heap.size w W → Calls Tryz.prog 15 #[.agg #[.int .i64 5, .int .i64 10], .agg #[.int .i64 5, .int .i64 10], .int .u64 65536, .int .u8 9] W (fun en w' => en = .returned (.tuple #[.int .u64 0, .int .u8 0, .int .i64 6]) ∧ Below W.heap.size W w') := fun W hW => by
    have := turnTo_any 5 10 5 10 65536 9 W (by decide) (hT.below hW)
    rw [show toE 5 10 5 10 65536 9 = 6 by decide +kernel, show toBi 5 10 5 10 65536 9 = 0 by decide +kernel, show toGi 5 10 5 10 65536 9 = 0 by decide +kernel] at this
    exact this
  have n4 : ∀ W, Below w.heap.size w W → Calls Tryz.prog 15 #[.agg #[.int .i64 5, .int .i64 10], .agg #[.int .i64 5, .int .i64 10], .int .u64 65535, .int .u8 9] W (fun en w' => en = .returned (.tuple #[.int .u64 0, .int .u8 0, .int .i64 7]) ∧ Below W.heap.size W w') := fun W hW => by
    have := turnTo_any 5 10 5 10 65535 9 W (by decide) (hT.below hW)
    rw [show toE 5 10 5 10 65535 9 = 7 by decide +kernel, show toBi 5 10 5 10 65535 9 = 0 by decide +kernel, show toGi 5 10 5 10 65535 9 = 0 by decide +kernel] at this
    exact this
  have n5 : ∀ W, Calls Tryz.prog 16 #[.agg #[.int .i64 5, .int .i64 10], .int .u64 65536, .int .i64 9, .int .u8 9] W (fun en w' => en = .returned (.tuple #[.int .i64 0, .int .u8 0, .int .i64 6]) ∧ Below W.heap.size W w') := fun W => by
    have := turnInt_bits 5 10 9 65536 9 W (by decide) (by decide +kernel)
    rw [show fitsE 5 10 65536 = 6 by decide +kernel] at this
    exact this
  have n6 : ∀ W, Calls Tryz.prog 16 #[.agg #[.int .i64 5, .int .i64 10], .int .u64 0, .int .i64 9, .int .u8 9] W (fun en w' => en = .returned (.tuple #[.int .i64 0, .int .u8 0, .int .i64 80]) ∧ Below W.heap.size W w') := fun W => turnInt_width 5 10 9 0 9 W (by decide) (by decide +kernel) (by decide) (by decide) (by decide) (by decide)
  have n7 : ∀ W, Calls Tryz.prog 16 #[.agg #[.int .i64 5, .int .i64 10], .int .u64 0, .int .i64 8, .int .u8 9] W (fun en w' => en = .returned (.tuple #[.int .i64 0, .int .u8 0, .int .i64 7]) ∧ Below W.heap.size W w') := fun W => turnInt_mode 5 10 8 0 9 W (by decide) (by decide +kernel) (.inl rfl) (by decide)
  have n8 : ∀ W, Below w.heap.size w W → Calls Tryz.prog 17 #[.agg #[.int .i64 1, .int .i64 1], .int .i64 0, .int .u8 9] W (fun en w' => en = .returned (.tuple #[.int .u64 0, .int .u8 0, .int .i64 5]) ∧ Below W.heap.size W w') := fun W hW => by
    have := turnFromInt_any 1 1 0 9 W (by decide) (by decide) (hT.below hW)
    rw [show fiE 1 1 9 = 5 by decide +kernel, show fiB 1 1 0 9 = 0 by decide +kernel, show fiG 1 1 0 9 = 0 by decide +kernel] at this
    exact this
  have n9 : ∀ W, Below w.heap.size w W → Calls Tryz.prog 17 #[.agg #[.int .i64 5, .int .i64 10], .int .i64 0, .int .u8 9] W (fun en w' => en = .returned (.tuple #[.int .u64 0, .int .u8 0, .int .i64 7]) ∧ Below W.heap.size W w') := fun W hW => by
    have := turnFromInt_any 5 10 0 9 W (by decide) (by decide) (hT.below hW)
    rw [show fiE 5 10 9 = 7 by decide +kernel, show fiB 5 10 0 9 = 0 by decide +kernel, show fiG 5 10 0 9 = 0 by decide +kernel] at this
    exact this
  have n10 : ∀ W, Below w.heap.size w W → Calls Tryz.prog 18 #[.agg #[.int .i64 5, .int .i64 10], .int .u64 65536] W (fun en w' => en = .returned (.tuple #[.float .f32 0, .int .i64 6]) ∧ Below W.heap.size W w') := fun W hW => by
    have := turFrom_F32 5 10 65536 W (by decide) (hT.below hW)
    rw [show toE 5 10 8 23 65536 0 = 6 by decide +kernel, show toBi 5 10 8 23 65536 0 = 0 by decide +kernel] at this
    exact this
  clear hT
  go_enter Tryz.func3, Tryz.ntmps3
  go_wp2_with fail
  refine (cA _ hW).mono ?_
  rintro en w0 ⟨rfl, hb0⟩
  replace hW := more (more (next hW hb0) (.cells #[.int .i64 1, .int .i64 1] 24)) (.cells #[.int .i64 5, .int .i64 10] 24)
  have A := (box2_new w0 (.int .i64 1) (.int .i64 1) 24).alloc (.cells #[.int .i64 5, .int .i64 10] 24)
  have B := box2_new (w0.alloc (.cells #[.int .i64 1, .int .i64 1] 24)) (.int .i64 5) (.int .i64 10) 24
  rw [World.size_alloc] at B
  have ⟨a0, a1⟩ := A
  have ⟨b0, b1⟩ := B
  go_wp2_with (first
    | (go_at_call 15; (with_reducible refine (n1 _ hW).mono ?_); rintro en w1 ⟨rfl, hb1⟩; replace hW := next hW hb1; replace A := A.stay hb1; replace B := B.stay hb1; have ⟨a0, a1⟩ := A; have ⟨b0, b1⟩ := B)
    | (go_at_call 15; (with_reducible refine (n2 _ hW).mono ?_); rintro en w1 ⟨rfl, hb1⟩; replace hW := next hW hb1; replace A := A.stay hb1; replace B := B.stay hb1; have ⟨a0, a1⟩ := A; have ⟨b0, b1⟩ := B)
    | (go_at_call 15; (with_reducible refine (n3 _ hW).mono ?_); rintro en w1 ⟨rfl, hb1⟩; replace hW := next hW hb1; replace A := A.stay hb1; replace B := B.stay hb1; have ⟨a0, a1⟩ := A; have ⟨b0, b1⟩ := B)
    | (go_at_call 15; (with_reducible refine (n4 _ hW).mono ?_); rintro en w1 ⟨rfl, hb1⟩; replace hW := next hW hb1; replace A := A.stay hb1; replace B := B.stay hb1; have ⟨a0, a1⟩ := A; have ⟨b0, b1⟩ := B)
    | (go_at_call 16; (with_reducible refine (n5 _).mono ?_); rintro en w1 ⟨rfl, hb1⟩; replace hW := next hW hb1; replace A := A.stay hb1; replace B := B.stay hb1; have ⟨a0, a1⟩ := A; have ⟨b0, b1⟩ := B)
    | (go_at_call 16; (with_reducible refine (n6 _).mono ?_); rintro en w1 ⟨rfl, hb1⟩; replace hW := next hW hb1; replace A := A.stay hb1; replace B := B.stay hb1; have ⟨a0, a1⟩ := A; have ⟨b0, b1⟩ := B)
    | (go_at_call 16; (with_reducible refine (n7 _).mono ?_); rintro en w1 ⟨rfl, hb1⟩; replace hW := next hW hb1; replace A := A.stay hb1; replace B := B.stay hb1; have ⟨a0, a1⟩ := A; have ⟨b0, b1⟩ := B)
    | (go_at_call 17; (with_reducible refine (n8 _ hW).mono ?_); rintro en w1 ⟨rfl, hb1⟩; replace hW := next hW hb1; replace A := A.stay hb1; replace B := B.stay hb1; have ⟨a0, a1⟩ := A; have ⟨b0, b1⟩ := B)
    | (go_at_call 17; (with_reducible refine (n9 _ hW).mono ?_); rintro en w1 ⟨rfl, hb1⟩; replace hW := next hW hb1; replace A := A.stay hb1; replace B := B.stay hb1; have ⟨a0, a1⟩ := A; have ⟨b0, b1⟩ := B)
    | (go_at_call 18; (with_reducible refine (n10 _ hW).mono ?_); rintro en w1 ⟨rfl, hb1⟩; replace hW := next hW hb1; replace A := A.stay hb1; replace B := B.stay hb1; have ⟨a0, a1⟩ := A; have ⟨b0, b1⟩ := B))
  go_ret
  exact ⟨rfl, hW⟩

end Go.Proofs.YtklibjdhlmdkpaaGreatDoor

