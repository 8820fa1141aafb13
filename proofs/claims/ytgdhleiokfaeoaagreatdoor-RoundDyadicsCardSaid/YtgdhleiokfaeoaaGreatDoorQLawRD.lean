/-
  The walk of the law RoundDyadics: it answers true, whatever it is asked; nothing that was there has turned.
-/

import Derived.Test.YtgdhleiokfaeoaaGreatDoorQHelpA
import Derived.Test.YtgdhleiokfaeoaaGreatDoorQAliv5
import Derived.Test.YtgdhleiokfaeoaaGreatDoorQRvL
namespace Go.Proofs.YtgdhleiokfaeoaaGreatDoor

open Go.RowKit Go.Lb

attribute [local go_sem] Go.World.cell?_alloc_some

set_option maxRecDepth 100000 in
set_option maxHeartbeats 2000000 in
theorem roundDyadics_any (e f x : Int) (s neg : Bool) (ao : Option Addr) (n c m : Nat) (xs : List Nat) (w : World) (h : Sl w ao n c xs) (hT : Tab w) :
    Calls Tryz.prog 6 #[.agg #[.int .i64 e, .int .i64 f], .agg #[.bool s, .slice ao n c, .int .i64 x], .bool neg, .int .u8 (m : Int)] w fun en w' => en = .returned (.bool true) ∧ Below w.heap.size w w' := by
  obtain ⟨W2, hW2⟩ : ∃ W2 : World, W2 = (w.alloc (.cells #[.int .i64 e, .int .i64 f] 23)).alloc (.cells #[.bool s, .slice ao n c, .int .i64 x] 46) := ⟨_, rfl⟩
  have hb2 : Below w.heap.size w W2 := hW2 ▸ more (more (Below.refl _ _) _) _
  have c0 : W2.cell? ⟨w.heap.size, 0, none⟩ = some (.int .i64 e) := by rw [hW2]; simp [World.cell?_alloc_some]
  have c1 : W2.cell? ⟨w.heap.size, 1, none⟩ = some (.int .i64 f) := by rw [hW2]; simp [World.cell?_alloc_some]
  have D2 : Box3 W2 (w.heap.size + 1) (.bool s) (.slice ao n c) (.int .i64 x) := by
    have := box3_new (w.alloc (.cells #[.int .i64 e, .int .i64 f] 23)) (.bool s) (.slice ao n c) (.int .i64 x) 46
    rw [World.size_alloc] at this
    exact hW2 ▸ this
  have hA := alive5_any W2 (hT.below hb2)
  go_enter Tryz.func6, Tryz.ntmps6
  go_wp2_with fail
  rw [← hW2]
  clear hW2
  refine hA.mono ?_
  rintro en w4 ⟨rfl, hb4⟩
  have V4 := next hb2 hb4
  have D4 := D2.stay hb4
  have g0 := cellStay c0 hb4
  have g1 := cellStay c1 hb4
  clear hA c0 c1 D2 hb4 hb2
  have ⟨d0, d1, d2, _, _, _⟩ := D4
  by_cases hfew : n ≤ 60
  · have i1 : ¬ (n : Int) > 60 := by omega
    have c3 := lend5_any ao n c xs w4 (h.below V4) (by omega)
    have HF := Lib.hid hfew
    clear hfew
    go_wp2_with fail
    refine c3.mono ?_
    rintro en w5 ⟨q1, p1, rfl, o1, hb5⟩
    have V6 := more (next V4 hb5) (.cells #[.slice (some ⟨q1, 0, none⟩) n p1] 26)
    have D6 := (D4.stay hb5).alloc (.cells #[.slice (some ⟨q1, 0, none⟩) n p1] 26)
    have E6 := box1_new w5 (.slice (some ⟨q1, 0, none⟩) n p1) 26
    have r1 := own_keep o1 (more (Below.refl _ _) (.cells #[.slice (some ⟨q1, 0, none⟩) n p1] 26))
    have k0 := cellStay g0 (more hb5 (.cells #[.slice (some ⟨q1, 0, none⟩) n p1] 26))
    have k1 := cellStay g1 (more hb5 (.cells #[.slice (some ⟨q1, 0, none⟩) n p1] 26))
    clear c3 d0 d1 d2 D4 g0 g1 hb5 V4 o1
    go_upto_region 5 with fail
    obtain ⟨q5, hq5⟩ : ∃ q, q = w5.heap.size := ⟨_, rfl⟩
    rw [← hq5] at E6 ⊢
    clear hq5
    generalize w5.alloc (.cells #[.slice (some ⟨q1, 0, none⟩) n p1] 26) = w6 at V6 D6 E6 r1 k0 k1 ⊢
    have S1 := sl_own r1 h.len h.ok
    have hfew := HF.out
    have c5 := rdDyadic_any _ n p1 m e f x s neg xs w6 S1 (by omega)
    have c6 : ∀ W, Below w.heap.size w W → Calls Tryz.prog 24 #[.agg #[.int .i64 e, .int .i64 f], .agg #[.bool s, .slice ao n c, .int .i64 x], .bool neg, .int .u8 (m : Int)] W _ := fun W hW => nbDyadic_any ao n c m e f x s neg xs W (h.below hW) (hT.below hW) (by omega)
    have c7 : ∀ W, Below w6.heap.size w6 W → Calls Tryz.prog 25 #[.agg #[.slice (some ⟨q1, 0, none⟩) n p1], .agg #[.slice ao n c]] W fun e w' => e = .returned (.bool true) ∧ Below W.heap.size W w' := fun W hW => kept5_any q1 p1 ao n c _ xs W (h.below (next V6 hW)) (own_keep r1 hW) (by omega)
    generalize dyBits e f s xs x neg m = bb at *
    generalize dyFlags e f s xs x m = gg at *
    generalize dyErr e f s xs x m = er at *
    clear S1 r1 h hT hfew HF
    have x0 := E6.c0
    have ⟨d0, d1, d2, _, _, _⟩ := D6
    go_wp2_with fail
    with_reducible refine c5.mono ?_
    rintro en w7 ⟨rfl, hb7⟩
    have V7 := next V6 hb7
    have D7 := D6.stay hb7
    have E7 := E6.stay hb7
    have e0 := cellStay k0 hb7
    have e1 := cellStay k1 hb7
    clear c5 x0 d0 d1 d2 D6 E6 k0 k1 V6
    have ⟨d0, d1, d2, _, _, _⟩ := D7
    go_wp2_with fail
    with_reducible refine (c6 w7 V7).mono ?_
    rintro en w8 ⟨rfl, hb8⟩
    have V8 := next V7 hb8
    have D8 := D7.stay hb8
    have E8 := E7.stay hb8
    have b8 := next hb7 hb8
    clear c6 d0 d1 d2 D7 E7 e0 e1 V7 hb7
    have ⟨d0, d1, d2, _, _, _⟩ := D8
    have x0 := E8.c0
    go_wp2_with fail
    with_reducible refine (c7 w8 b8).mono ?_
    rintro en w9 ⟨rfl, hb9⟩
    have V9 := next V8 hb9
    clear c7 d0 d1 d2 x0 D8 E8 b8 hb8 V8 hb9
    go_wp2
    go_ret
    exact ⟨by simp, V9⟩
  · have i1 : (n : Int) > 60 := by omega
    clear hfew
    go_wp2
    go_ret
    exact ⟨rfl, V4⟩

end Go.Proofs.YtgdhleiokfaeoaaGreatDoor

