/-
  numeralref02.Same of fractions: are the signs, the numbers, the lower numbers one?
-/
import Derived.Test.YteoceoepakfgiaaGreatDoorHelpA
namespace Go.Proofs.YteoceoepakfgiaaGreatDoor
open Go.RowKit Go.Lb

attribute [local go_sem] Go.World.cell?_alloc_some

/-- Are two fractions in cells one? -/
def sameB (s t : Bool) (xs ys us vs : List Nat) : Bool := decide (s = t ∧ xs = us ∧ ys = vs)

theorem sameB_parts (s t : Bool) (xs ys us vs : List Nat) : sameB s t xs ys us vs = (decide (s = t) && (decide (xs = us) && decide (ys = vs))) := by
  unfold sameB
  simp

set_option maxRecDepth 100000 in
set_option maxHeartbeats 2000000 in
theorem rf2Same_any (s t : Bool) (a1 a2 b1 b2 : Option Addr) (n1 n2 m1 m2 c1 c2 d1 d2 : Nat) (xs ys us vs : List Nat) (w : World) (h1 : Sl w a1 n1 c1 xs) (h2 : Sl w a2 n2 c2 ys) (h3 : Sl w b1 m1 d1 us) (h4 : Sl w b2 m2 d2 vs) :
    Calls Tryz.prog 10 #[.agg #[.bool s, .slice a1 n1 c1, .slice a2 n2 c2], .agg #[.bool t, .slice b1 m1 d1, .slice b2 m2 d2]] w fun e w' => e = .returned (.bool (sameB s t xs ys us vs)) ∧ Below w.heap.size w w' := by
  obtain ⟨W2, hW2⟩ : ∃ W2 : World, W2 = (w.alloc (.cells #[.bool s, .slice a1 n1 c1, .slice a2 n2 c2] 26)).alloc (.cells #[.bool t, .slice b1 m1 d1, .slice b2 m2 d2] 26) := ⟨_, rfl⟩
  have hb2 : Below w.heap.size w W2 := hW2 ▸ more (more (Below.refl _ _) _) _
  have D2 : Box3 W2 w.heap.size (.bool s) (.slice a1 n1 c1) (.slice a2 n2 c2) := hW2 ▸ (box3_new w _ _ _ _).alloc _
  have R2 : Box3 W2 (w.heap.size + 1) (.bool t) (.slice b1 m1 d1) (.slice b2 m2 d2) := by
    have := box3_new (w.alloc (.cells #[.bool s, .slice a1 n1 c1, .slice a2 n2 c2] 26)) (.bool t) (.slice b1 m1 d1) (.slice b2 m2 d2) 26
    rw [World.size_alloc] at this
    exact hW2 ▸ this
  have kA : ∀ W, Below w.heap.size w W → Calls Tryz.prog 36 #[.agg #[.slice a1 n1 c1], .agg #[.slice b1 m1 d1]] W _ := fun W hW => rf2SameNat_any a1 b1 n1 m1 c1 d1 xs us W (h1.below hW) (h3.below hW)
  have kB : ∀ W, Below w.heap.size w W → Calls Tryz.prog 36 #[.agg #[.slice a2 n2 c2], .agg #[.slice b2 m2 d2]] W _ := fun W hW => rf2SameNat_any a2 b2 n2 m2 c2 d2 ys vs W (h2.below hW) (h4.below hW)
  rw [sameB_parts]
  generalize decide (xs = us) = p at *
  generalize decide (ys = vs) = q at *
  clear h1 h2 h3 h4
  have ⟨x0, x1, x2, _, _, _⟩ := D2
  have ⟨y0, y1, y2, _, _, _⟩ := R2
  go_enter Tryz.func10, Tryz.ntmps10
  go_upto_region 1 with fail
  rw [← hW2]
  clear hW2
  go_wp2_with fail
  with_reducible refine (kA W2 hb2).mono ?_
  rintro en w3 ⟨rfl, hb3⟩
  have V3 := next hb2 hb3
  have D3 := D2.stay hb3
  have R3 := R2.stay hb3
  clear x0 x1 x2 y0 y1 y2 D2 R2 hb2 hb3 kA
  have ⟨x0, x1, x2, _, _, _⟩ := D3
  have ⟨y0, y1, y2, _, _, _⟩ := R3
  go_wp2_with fail
  with_reducible refine (kB w3 V3).mono ?_
  rintro en w4 ⟨rfl, hb4⟩
  have V4 := next V3 hb4
  have D4 := D3.stay hb4
  have R4 := R3.stay hb4
  clear x0 x1 x2 y0 y1 y2 D3 R3 V3 hb4 kB
  have ⟨x0, x1, x2, _, _, _⟩ := D4
  have ⟨y0, y1, y2, _, _, _⟩ := R4
  clear D4 R4
  cases s <;> cases t <;> cases p <;> cases q <;> (go_wp2; go_ret; exact ⟨by simp, V4⟩)

end Go.Proofs.YteoceoepakfgiaaGreatDoor
