/-
  The walk of the law RoundScaleds: it answers true, whatever it is asked; nothing that was there has turned.
-/

import Derived.Test.YtgdhleiokfaeoaaGreatDoorQHelpA
import Derived.Test.YtgdhleiokfaeoaaGreatDoorQAliv5
import Derived.Test.YtgdhleiokfaeoaaGreatDoorQRvJ
namespace Go.Proofs.YtgdhleiokfaeoaaGreatDoor

open Go.RowKit Go.Lb

attribute [local go_sem] Go.World.cell?_alloc_some

set_option maxRecDepth 100000 in
set_option maxHeartbeats 2000000 in
theorem roundScaleds_any (e f n : Int) (s neg : Bool) (a1 a2 : Option Addr) (n1 n2 c1 c2 m : Nat) (xs ys : List Nat) (w : World) (h1 : Sl w a1 n1 c1 xs) (h2 : Sl w a2 n2 c2 ys) (hT : Tab w) :
    Calls Tryz.prog 4 #[.agg #[.int .i64 e, .int .i64 f], .agg #[.bool s, .slice a1 n1 c1, .slice a2 n2 c2], .int .i64 n, .bool neg, .int .u8 (m : Int)] w fun en w' => en = .returned (.bool true) ∧ Below w.heap.size w w' := by
  obtain ⟨W2, hW2⟩ : ∃ W2 : World, W2 = (w.alloc (.cells #[.int .i64 e, .int .i64 f] 23)).alloc (.cells #[.bool s, .slice a1 n1 c1, .slice a2 n2 c2] 28) := ⟨_, rfl⟩
  have hb2 : Below w.heap.size w W2 := hW2 ▸ more (more (Below.refl _ _) _) _
  have c0 : W2.cell? ⟨w.heap.size, 0, none⟩ = some (.int .i64 e) := by rw [hW2]; simp [World.cell?_alloc_some]
  have c1' : W2.cell? ⟨w.heap.size, 1, none⟩ = some (.int .i64 f) := by rw [hW2]; simp [World.cell?_alloc_some]
  have D2 : Box3 W2 (w.heap.size + 1) (.bool s) (.slice a1 n1 c1) (.slice a2 n2 c2) := by
    have := box3_new (w.alloc (.cells #[.int .i64 e, .int .i64 f] 23)) (.bool s) (.slice a1 n1 c1) (.slice a2 n2 c2) 28
    rw [World.size_alloc] at this
    exact hW2 ▸ this
  have hA := alive5_any W2 (hT.below hb2)
  have hS := fun W => small5_any s a1 a2 n1 n2 c1 c2 W
  go_enter Tryz.func4, Tryz.ntmps4
  go_wp2_with fail
  rw [← hW2]
  clear hW2
  refine hA.mono ?_
  rintro en w3 ⟨rfl, hb3⟩
  have V3 := next hb2 hb3
  have D3 := D2.stay hb3
  have e0 := cellStay c0 hb3
  have e1 := cellStay c1' hb3
  clear hA c0 c1' D2 hb3
  have ⟨d0, d1, d2, _, _, _⟩ := D3
  go_wp2_with fail
  refine (hS w3).mono ?_
  rintro en w4 ⟨rfl, hb4⟩
  have V4 := next V3 hb4
  have D4 := D3.stay hb4
  have g0 := cellStay e0 hb4
  have g1 := cellStay e1 hb4
  clear hS d0 d1 d2 D3 e0 e1 hb4 V3
  by_cases hfew : n1 ≤ 60 ∧ n2 ≤ 60
  · rw [decide_eq_true hfew]
    have c3 := lent5_any s a1 a2 n1 n2 c1 c2 xs ys w4 (h1.below V4) (h2.below V4) (by omega) (by omega)
    have ⟨d0, d1, d2, _, _, _⟩ := D4
    go_wp2_with fail
    refine c3.mono ?_
    rintro en w5 ⟨q1, p1, q2, p2, rfl, o1, o2, hne, hb5⟩
    have V6 := more (next V4 hb5) (.cells #[.bool s, .slice (some ⟨q1, 0, none⟩) n1 p1, .slice (some ⟨q2, 0, none⟩) n2 p2] 28)
    have D6 := (D4.stay hb5).alloc (.cells #[.bool s, .slice (some ⟨q1, 0, none⟩) n1 p1, .slice (some ⟨q2, 0, none⟩) n2 p2] 28)
    have E6 := box3_new w5 (.bool s) (.slice (some ⟨q1, 0, none⟩) n1 p1) (.slice (some ⟨q2, 0, none⟩) n2 p2) 28
    have r1 := own_keep o1 (more (Below.refl _ _) (.cells #[.bool s, .slice (some ⟨q1, 0, none⟩) n1 p1, .slice (some ⟨q2, 0, none⟩) n2 p2] 28))
    have r2 := own_keep o2 (more (Below.refl _ _) (.cells #[.bool s, .slice (some ⟨q1, 0, none⟩) n1 p1, .slice (some ⟨q2, 0, none⟩) n2 p2] 28))
    have k0 := cellStay g0 (more hb5 (.cells #[.bool s, .slice (some ⟨q1, 0, none⟩) n1 p1, .slice (some ⟨q2, 0, none⟩) n2 p2] 28))
    have k1 := cellStay g1 (more hb5 (.cells #[.bool s, .slice (some ⟨q1, 0, none⟩) n1 p1, .slice (some ⟨q2, 0, none⟩) n2 p2] 28))
    clear c3 d0 d1 d2 D4 g0 g1 hb5 V4 o1 o2
    go_upto_region 6 with fail
    obtain ⟨q5, hq5⟩ : ∃ q, q = w5.heap.size := ⟨_, rfl⟩
    rw [← hq5] at E6 ⊢
    clear hq5
    generalize w5.alloc (.cells #[.bool s, .slice (some ⟨q1, 0, none⟩) n1 p1, .slice (some ⟨q2, 0, none⟩) n2 p2] 28) = w6 at V6 D6 E6 r1 r2 k0 k1 ⊢
    have S1 := sl_own r1 h1.len h1.ok
    have S2 := sl_own r2 h2.len h2.ok
    have c5 := rdScaled_any _ _ n1 n2 p1 p2 m e f n s neg xs ys w6 S1 S2 (hT.below V6) (by omega) (by omega)
    have c6 : ∀ W, Below w.heap.size w W → Calls Tryz.prog 18 #[.agg #[.int .i64 e, .int .i64 f], .agg #[.bool s, .slice a1 n1 c1, .slice a2 n2 c2], .int .i64 n, .bool neg, .int .u8 (m : Int)] W _ := fun W hW => nbScaled5_any a1 a2 n1 n2 c1 c2 m e f n s neg xs ys W (h1.below hW) (h2.below hW) (hT.below hW) (by omega) (by omega)
    have c7 : ∀ W, Below w6.heap.size w6 W → Calls Tryz.prog 16 #[.agg #[.bool s, .slice (some ⟨q1, 0, none⟩) n1 p1, .slice (some ⟨q2, 0, none⟩) n2 p2], .agg #[.bool s, .slice a1 n1 c1, .slice a2 n2 c2]] W fun e w' => e = .returned (.bool true) ∧ Below W.heap.size W w' := fun W hW => still5_any s q1 p1 q2 p2 a1 a2 n1 n2 c1 c2 _ xs ys W (h1.below (next V6 hW)) (h2.below (next V6 hW)) (own_keep r1 hW) (own_keep r2 hW) (by omega) (by omega)
    generalize scBits e f s xs ys n neg m = bb at *
    generalize scFlags e f s xs ys n m = gg at *
    generalize scErr e f s xs ys m = er at *
    clear S1 S2 r1 r2 h1 h2 hT hfew
    have ⟨x0, x1, x2, _, _, _⟩ := E6
    go_wp2_with fail
    with_reducible refine c5.mono ?_
    rintro en w7 ⟨rfl, hb7⟩
    have V7 := next V6 hb7
    have D7 := D6.stay hb7
    have E7 := E6.stay hb7
    have e0 := cellStay k0 hb7
    have e1 := cellStay k1 hb7
    clear c5 x0 x1 x2 D6 E6 k0 k1 V6
    have ⟨d0, d1, d2, _, _, _⟩ := D7
    go_wp2_with fail
    with_reducible refine (c6 w7 V7).mono ?_
    rintro en w8 ⟨rfl, hb8⟩
    have V8 := next V7 hb8
    have D8 := D7.stay hb8
    have E8 := E7.stay hb8
    have b8 := next hb7 hb8
    clear c6 d0 d1 d2 D7 E7 e0 e1 V7 hb7
    have ⟨d0, d1, d2, _, _, _⟩ := D8
    have ⟨x0, x1, x2, _, _, _⟩ := E8
    go_wp2_with fail
    with_reducible refine (c7 w8 b8).mono ?_
    rintro en w9 ⟨rfl, hb9⟩
    have V9 := next V8 hb9
    clear c7 d0 d1 d2 x0 x1 x2 D8 E8 b8 hb8 V8 hb9
    go_wp2
    go_ret
    exact ⟨by simp, V9⟩
  · rw [decide_eq_false hfew]
    go_wp2
    go_ret
    exact ⟨rfl, V4⟩

end Go.Proofs.YtgdhleiokfaeoaaGreatDoor

