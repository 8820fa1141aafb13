/-
  The walk of numerallaw05.alive.
-/
import Derived.Test.YteoceoepakfgiaaGreatDoorHelpC
namespace Go.Proofs.YteoceoepakfgiaaGreatDoor
open Go.RowKit Go.Lb

attribute [local go_sem] Go.World.cell?_alloc_some

theorem third_is : scBits 5 10 true (limbs 1) (limbs 3) 0 false 0 = 46421 ∧ scFlags 5 10 true (limbs 1) (limbs 3) 0 0 = 1 ∧ scErr 5 10 true (limbs 1) (limbs 3) 0 = 0 := by decide +kernel
theorem five_is : rdN 5 2 false 0 = 2 ∧ exB 5 2 = false ∧ ratB false (limbs 5) (limbs 2) = true := by decide +kernel
theorem away_is : nmK ⟨#[97, 119, 97, 121]⟩ = 1 ∧ nmB ⟨#[97, 119, 97, 121]⟩ = true := by decide +kernel
theorem limbs_is : val (limbs 5) = 5 ∧ val (limbs 2) = 2 ∧ (limbs 2).length = 1 ∧ nth (limbs 2) 0 = 2 ∧ (limbs 1).length = 1 ∧ (limbs 3).length = 1 := by decide +kernel

set_option maxRecDepth 100000 in
set_option maxHeartbeats 2000000 in
theorem alive5_any (w : World) (hT : Tab w) :
    Calls Tryz.prog 6 #[] w fun e w' => e = .returned (.bool true) ∧ Below w.heap.size w w' := by
  obtain ⟨t1, t2, t3⟩ := third_is
  obtain ⟨f1, f2, f3⟩ := five_is
  obtain ⟨m1, m2⟩ := away_is
  obtain ⟨v1, v2, v3, v4, v5, v6⟩ := limbs_is
  have c1 : ∀ W, Below w.heap.size w W → Calls Tryz.prog 23 #[.bool true, .int .u32 1, .int .u32 3] W (Rtn true 1 3 0 W) := fun W hW => fraction5_any true 1 3 1 3 rfl rfl (by decide) (by decide) (by decide) (by decide) W (hT.below hW)
  have c2 : ∀ W, Below w.heap.size w W → Calls Tryz.prog 23 #[.bool false, .int .u32 5, .int .u32 2] W (Rtn false 5 2 0 W) := fun W hW => fraction5_any false 5 2 5 2 rfl rfl (by decide) (by decide) (by decide) (by decide) W (hT.below hW)
  have c3 : ∀ W a1 n1 p1 a2 n2 p2, Below w.heap.size w W → Sl W a1 n1 p1 (limbs 1) → Sl W a2 n2 p2 (limbs 3) → Calls Tryz.prog 19 #[.agg #[.int .i64 5, .int .i64 10], .agg #[.bool true, .slice a1 n1 p1, .slice a2 n2 p2], .bool false, .int .u8 0] W fun en w' => en = .returned (.tuple #[.int .u64 46421, .int .u8 1, .int .i64 0]) ∧ Below W.heap.size W w' := fun W a1 n1 p1 a2 n2 p2 hW h1 h2 => by
    have := rdRatio_any a1 a2 n1 n2 p1 p2 0 5 10 true false (limbs 1) (limbs 3) W h1 h2 (hT.below hW) (by rw [← h1.len, v5]; decide) (by rw [← h2.len, v6]; decide)
    rw [t1, t2, t3] at this
    exact this
  have c4 : ∀ W a1 n1 p1 a2 n2 p2, Below w.heap.size w W → Sl W a1 n1 p1 (limbs 5) → Sl W a2 n2 p2 (limbs 2) → Calls Tryz.prog 8 #[.agg #[.bool false, .slice a1 n1 p1, .slice a2 n2 p2], .int .u8 0] W fun en w' => ∃ ao k c, en = .returned (.tuple #[.bool false, .agg #[.slice ao k c], .bool false, .int .i64 0]) ∧ Fr 37 w' W.heap.size ao k c (limbs 2) ∧ Below W.heap.size W w' := fun W a1 n1 p1 a2 n2 p2 hW h1 h2 => by
    have := rdWholeP_ok a1 a2 n1 n2 p1 p2 0 false (limbs 5) (limbs 2) W h1 h2 (hT.below hW) (by decide) f3
    unfold WhlA at this
    rw [v1, v2, f1, f2] at this
    exact this
  have c5 : ∀ W, Calls Tryz.prog 24 #[.string ⟨#[97, 119, 97, 121]⟩] W fun e w' => e = .returned (.tuple #[.int .u8 1, .bool true]) ∧ Below W.heap.size W w' := fun W => by
    have := rdNamed_any ⟨#[97, 119, 97, 121]⟩ W
    rw [m1, m2] at this
    exact this
  clear t1 t2 t3 f1 f2 f3 m1 m2 v1 v2 v5 v6 hT
  go_enter Tryz.func6, Tryz.ntmps6
  go_wp2_with fail
  refine (c1 w (Below.refl _ _)).mono ?_
  rintro en w1 ⟨a1, n1, p1, a2, n2, p2, rfl, F1, F2, -, hb1⟩
  have V2 := more hb1 (.cells #[.bool true, .slice a1 n1 p1, .slice a2 n2 p2] 26)
  have D2 := box3_new w1 (.bool true) (.slice a1 n1 p1) (.slice a2 n2 p2) 26
  have S1 := F1.sl.alloc (.cells #[.bool true, .slice a1 n1 p1, .slice a2 n2 p2] 26)
  have S2 := F2.sl.alloc (.cells #[.bool true, .slice a1 n1 p1, .slice a2 n2 p2] 26)
  go_upto_region 2 with fail
  obtain ⟨q1, hq1⟩ : ∃ q, q = w1.heap.size := ⟨_, rfl⟩
  rw [← hq1] at D2 ⊢
  clear hq1 F1 F2 hb1
  generalize w1.alloc (.cells #[.bool true, .slice a1 n1 p1, .slice a2 n2 p2] 26) = w2 at V2 D2 S1 S2 ⊢
  go_wp2_with fail
  refine (c2 w2 V2).mono ?_
  rintro en w3 ⟨a3, n3, p3, a4, n4, p4, rfl, F3, F4, -, hb3⟩
  have V4 := more (next V2 hb3) (.cells #[.bool false, .slice a3 n3 p3, .slice a4 n4 p4] 26)
  have D4 := (D2.stay hb3).alloc (.cells #[.bool false, .slice a3 n3 p3, .slice a4 n4 p4] 26)
  have E4 := box3_new w3 (.bool false) (.slice a3 n3 p3) (.slice a4 n4 p4) 26
  replace S1 := (S1.below hb3).alloc (.cells #[.bool false, .slice a3 n3 p3, .slice a4 n4 p4] 26)
  replace S2 := (S2.below hb3).alloc (.cells #[.bool false, .slice a3 n3 p3, .slice a4 n4 p4] 26)
  have S3 := F3.sl.alloc (.cells #[.bool false, .slice a3 n3 p3, .slice a4 n4 p4] 26)
  have S4 := F4.sl.alloc (.cells #[.bool false, .slice a3 n3 p3, .slice a4 n4 p4] 26)
  go_upto_region 3 with fail
  obtain ⟨q3, hq3⟩ : ∃ q, q = w3.heap.size := ⟨_, rfl⟩
  rw [← hq3] at E4 ⊢
  clear hq3 F3 F4 hb3 c1 c2 D2 V2
  generalize w3.alloc (.cells #[.bool false, .slice a3 n3 p3, .slice a4 n4 p4] 26) = w4 at V4 D4 E4 S1 S2 S3 S4 ⊢
  have ⟨d0, d1, d2, _, _, _⟩ := D4
  go_wp2_with fail
  refine (c3 w4 _ _ _ _ _ _ V4 S1 S2).mono ?_
  rintro en w5 ⟨rfl, hb5⟩
  have V5 := next V4 hb5
  have E5 := E4.stay hb5
  have U3 := S3.below hb5
  have U4 := S4.below hb5
  clear d0 d1 d2 D4 E4 S1 S2 S3 S4 c3
  have ⟨d0, d1, d2, _, _, _⟩ := E5
  go_wp2_with fail
  refine (c4 w5 _ _ _ _ _ _ V5 U3 U4).mono ?_
  rintro en w6 ⟨a6, n6, p6, rfl, F6, hb6⟩
  have V7 := more (next V5 hb6) (.cells #[.slice a6 n6 p6] 24)
  have N7 := box1_new w6 (.slice a6 n6 p6) 24
  have S7 := F6.sl.alloc (.cells #[.slice a6 n6 p6] 24)
  go_upto_region 5 with fail
  obtain ⟨q6, hq6⟩ : ∃ q, q = w6.heap.size := ⟨_, rfl⟩
  rw [← hq6] at N7 ⊢
  clear hq6 F6 hb6 c4 d0 d1 d2 E5 U3 U4 V5 hb5 V4
  generalize w6.alloc (.cells #[.slice a6 n6 p6] 24) = w7 at V7 N7 S7 ⊢
  go_wp2_with fail
  refine (c5 w7).mono ?_
  rintro en w8 ⟨rfl, hb8⟩
  have S8 := S7.below hb8
  have N8 := (N7.stay hb8).c0
  have V8 := next V7 hb8
  obtain rfl : n6 = 1 := by rw [← S8.len]; exact v3
  obtain ⟨b, o, rfl, -, hc⟩ := S8.at_ (by decide)
  have k0 := hc 0 (by decide)
  rw [v4, Nat.add_zero] at k0
  clear hc S7 S8 N7 hb8 V7 c5
  go_wp2
  go_ret
  exact ⟨rfl, V8⟩

end Go.Proofs.YteoceoepakfgiaaGreatDoor
