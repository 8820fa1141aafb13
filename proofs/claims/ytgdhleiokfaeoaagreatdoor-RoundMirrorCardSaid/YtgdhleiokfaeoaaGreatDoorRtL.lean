/-
  Contracts of ratio: Neg, Scale by ten and a tenth, of what may be; of big's Mul onto its own first number.
-/
import Derived.Test.YtgdhleiokfaeoaaGreatDoorRtK
namespace Go.Proofs.YtgdhleiokfaeoaaGreatDoor
open Go.RowKit Go.Lb

attribute [local go_sem] Go.World.cell?_alloc_some

set_option maxRecDepth 100000 in
set_option maxHeartbeats 3000000 in
theorem rtNeg_ok (s : Bool) (a1 a2 : Option Addr) (n1 n2 c1 c2 : Nat) (xs ys : List Nat) (w : World) (h1 : Sl w a1 n1 c1 xs) (h2 : Sl w a2 n2 c2 ys) (hT : Tab w) (hr : ratB s xs ys = true) (l1 : n1 ≤ 1000) (l2 : n2 ≤ 1000) :
    Calls Tryz.prog 32 #[.agg #[.bool s, .slice a1 n1 c1, .slice a2 n2 c2]] w (RtnQ (-(sgQ' s (val xs) (val ys))) w) := by
  obtain ⟨W2, hW2⟩ : ∃ W2 : World, W2 = (w.alloc (.cells #[.bool s, .slice a1 n1 c1, .slice a2 n2 c2] 28)).alloc (.cells #[.bool false, .slice none 0 0, .slice none 0 0] 28) := ⟨_, rfl⟩
  have hb2 : Below w.heap.size w W2 := hW2 ▸ more (more (Below.refl _ _) _) _
  have X2 : Box3 W2 w.heap.size (.bool s) (.slice a1 n1 c1) (.slice a2 n2 c2) := hW2 ▸ (box3_new w _ _ _ _).alloc _
  have R2 : Box3 W2 (w.heap.size + 1) (.bool false) (.slice none 0 0) (.slice none 0 0) := by
    have := box3_new (w.alloc (.cells #[.bool s, .slice a1 n1 c1, .slice a2 n2 c2] 28)) (.bool false) (.slice none 0 0) (.slice none 0 0) 28
    rw [World.size_alloc] at this
    exact hW2 ▸ this
  have hZ : ∀ W, Calls Tryz.prog 31 #[.int .i64 0] W (WhoQ 0 W) := fun W => rtWholeN_ok 0 W (by decide) (by decide)
  have hq0 : (0 : Rat).num.natAbs = 0 ∧ (0 : Rat).den = 1 ∧ decide ((0 : Rat).num < 0) = false := by decide
  have hr0 : ratB false (limbs 0) (limbs 1) = true := by decide +kernel
  have hl0 : (limbs 0).length = 0 ∧ (limbs 1).length = 1 ∧ val (limbs 0) = 0 ∧ val (limbs 1) = 1 := by decide +kernel
  have hs0 : sgQ' false 0 1 = 0 := by decide +kernel
  have hO : ∀ (W : World) (z : Nat) (b1 b2 : Option Addr) (m1 m2 d1 d2 : Nat), Below W2.heap.size W2 W → W2.heap.size ≤ z → Res3 W z → Hd 43 W z → Sl W b1 m1 d1 (limbs (0 : Rat).num.natAbs) → Sl W b2 m2 d2 (limbs (0 : Rat).den) →
      Calls Tryz.prog 79 #[.agg #[.bool (decide ((0 : Rat).num < 0)), .slice b1 m1 d1, .slice b2 m2 d2], .agg #[.bool s, .slice a1 n1 c1, .slice a2 n2 c2], .func (.func 80) #[.pointer (some ⟨z, 0, none⟩)] #[]] W (RtnQ (-(sgQ' s (val xs) (val ys))) W2) := fun W z b1 b2 m1 m2 d1 d2 hW hz hR hH k1 k2 => by
    rw [hq0.1] at k1
    rw [hq0.2.1] at k2
    have := rtOf_sub W2 z false s b1 b2 a1 a2 m1 m2 n1 n2 d1 d2 c1 c2 (limbs 0) (limbs 1) xs ys W k1 k2 (h1.below (next hb2 hW)) (h2.below (next hb2 hW)) (hT.below (next hb2 hW)) hr0 hr hW hz hR hH (by rw [← k1.len, hl0.1]; decide) (by rw [← k2.len, hl0.2.1]; decide) l1 l2
    rw [hl0.2.2.1, hl0.2.2.2, hs0, Rat.sub_eq_add_neg, Rat.zero_add] at this
    rw [hq0.2.2]
    exact this
  generalize -(sgQ' s (val xs) (val ys)) = qd at *
  generalize (0 : Rat) = q0 at *
  clear hq0 hr0 hl0 hs0 h1 h2 hT hr l1 l2
  have ⟨x0, x1, x2, _, _, _⟩ := X2
  go_enter Tryz.func32, Tryz.ntmps32
  go_upto_region 1 with fail
  rw [← hW2]
  clear hW2
  go_region_with (first
    | (go_at_call 31; (with_reducible refine (hZ _).mono ?_); rintro en wA ⟨b1, m1, d1, b2, m2, d2, rfl, G1, G2, hbA⟩; have VA : Below W2.heap.size W2 wA := (by first | exact hbA | exact undrew hbA | exact next (more (Below.refl _ _) _) hbA | exact next (more (Below.refl _ _) _).drew hbA); have ⟨u0, u1, u2, _, _, _⟩ := X2.stay VA; (try have Z := (res_new W2 120 (.bool false) (.slice none 0 0) (.slice none 0 0)).stay (by first | exact hbA | exact undrew hbA)); (try have HZ := (hd_new (e := 43) (t := 120) W2 #[.bool false, .slice none 0 0, .slice none 0 0] (by decide)).stay (by simp) (by first | exact hbA | exact undrew hbA)))
    | (go_at_call 79; (first | (with_reducible refine (hO _ W2.heap.size _ _ _ _ _ _ VA (Nat.le_refl _) Z HZ G1.sl G2.sl).mono ?_) | (with_reducible refine (hO _ wA.heap.size _ _ _ _ _ _ (more VA _) VA.size (res_new wA _ _ _ _) (hd_new wA _ (by decide)) (G1.alloc _).sl (G2.alloc _).sl).mono ?_)); rintro en wB ⟨a3, n3, f3, a4, n4, f4, rfl, F3, F4, hap, hbB⟩; have RB := R2.stay hbB; have ⟨y0, y1, y2, y3, y4, y5⟩ := RB))
  all_goals
    have V5 := next hb2 hbB
    have hz2 := hb2.size
    have hz5 := R2.lt
    go_wp2
    obtain ⟨t0, t1, t2⟩ := RB.set (.bool (decide (qd.num < 0))) (.slice a3 n3 f3) (.slice a4 n4 f4)
    refine bodyPost_ret (v := .tuple #[.agg #[.bool (decide (qd.num < 0)), .slice a3 n3 f3, .slice a4 n4 f4], .int .i64 0]) (by simp [results, Tryz.results32, go_sem, t0, t1, t2]) rfl ?_
    exact ⟨_, _, _, _, _, _, rfl, (((F3.setCell (by simp; omega) _).setCell (by simp; omega) _).setCell (by simp; omega) _).mono hz2, (((F4.setCell (by simp; omega) _).setCell (by simp; omega) _).setCell (by simp; omega) _).mono hz2, hap, ((V5.setCell (by simp) _).setCell (by simp) _).setCell (by simp) _⟩

end Go.Proofs.YtgdhleiokfaeoaaGreatDoor
