/-
  The law's own helpers numerallaw06.goes and short.
-/
import Derived.Test.YtfjgmpfpadfknaaGreatDoorQRnBase
import Derived.Test.YtfjgmpfpadfknaaGreatDoorQDRchN
namespace Go.Proofs.YtfjgmpfpadfknaaGreatDoor

open Go.RowKit Go.Lb

attribute [local go_sem] Go.World.cell?_alloc_some

/-- Is a fraction rounded to these bits, without an overflow? -/
def rnB (E F b m : Nat) (s neg : Bool) (N D : Nat) : Bool := decide (sgBits E F N D s neg m = b) && decide (sgFlags E F N D s m ≠ 3)

theorem scn_nought (N D : Nat) : scnN N D 0 = N ∧ scnD N D 0 = D := by
  unfold scnN scnD
  have h : nearZ 0 (blN N + blN D) = 0 := by unfold nearZ; omega
  rw [h]
  simp

set_option maxRecDepth 100000 in
set_option maxHeartbeats 2000000 in
theorem goes6_any (E F b m : Nat) (s neg must : Bool) (a1 a2 : Option Addr) (n1 n2 c1 c2 : Nat) (xs ys : List Nat) (w : World) (h1 : Sl w a1 n1 c1 xs) (h2 : Sl w a2 n2 c2 ys) (hT : Tab w) (hf : formE (E : Int) (F : Int) = 0) (hm : m < 5) (hr : ratB s xs ys = true) (l1 : n1 ≤ 400) (l2 : n2 ≤ 400) :
    Calls Tryz.prog 41 #[.agg #[.int .i64 (E : Int), .int .i64 (F : Int)], .int .u64 (b : Int), .int .u8 (m : Int), .bool neg, .agg #[.bool s, .slice a1 n1 c1, .slice a2 n2 c2], .bool must] w fun en w' => en = .returned (.bool (rnB E F b m s neg (val xs) (val ys) == must)) ∧ Below w.heap.size w w' := by
  obtain ⟨W2, hW2⟩ : ∃ W2 : World, W2 = (w.alloc (.cells #[.int .i64 (E : Int), .int .i64 (F : Int)] 23)).alloc (.cells #[.bool s, .slice a1 n1 c1, .slice a2 n2 c2] 30) := ⟨_, rfl⟩
  have hb2 : Below w.heap.size w W2 := hW2 ▸ more (more (Below.refl _ _) _) _
  have F2 : Box2 W2 w.heap.size (.int .i64 (E : Int)) (.int .i64 (F : Int)) := by
    rw [hW2]; exact (box2_new w _ _ _).alloc _
  have D2 : Box3 W2 (w.heap.size + 1) (.bool s) (.slice a1 n1 c1) (.slice a2 n2 c2) := by
    have := box3_new (w.alloc (.cells #[.int .i64 (E : Int), .int .i64 (F : Int)] 23)) (.bool s) (.slice a1 n1 c1) (.slice a2 n2 c2) 30
    rw [World.size_alloc] at this
    exact hW2 ▸ this
  have cR := rdRatio_any a1 a2 n1 n2 c1 c2 m (E : Int) (F : Int) s neg xs ys W2 (h1.below hb2) (h2.below hb2) (hT.below hb2) l1 l2
  have hE : scErr (E : Int) (F : Int) s xs ys m = 0 := by
    unfold scErr
    rw [if_neg (by simp [hf]), if_neg (by simp [hr]), if_neg (by omega)]
  have hB : scBits (E : Int) (F : Int) s xs ys 0 neg m = sgBits E F (val xs) (val ys) s neg m := by
    unfold scBits
    rw [if_pos hE, (scn_nought _ _).1, (scn_nought _ _).2]
    rfl
  have hG : scFlags (E : Int) (F : Int) s xs ys 0 m = sgFlags E F (val xs) (val ys) s m := by
    unfold scFlags
    rw [if_pos hE, (scn_nought _ _).1, (scn_nought _ _).2]
    rfl
  rw [hE, hB, hG] at cR
  obtain ⟨t, ht1, ht2⟩ := flag_and (flags_few E F (val xs) (val ys) s m)
  unfold rnB
  generalize sgBits E F (val xs) (val ys) s neg m = B at *
  generalize sgFlags E F (val xs) (val ys) s m = G at *
  clear hE hB hG hr l1 l2 h1 h2 hT hf hm
  have ⟨d0, d1, d2, _, _, _⟩ := D2
  have ⟨f0, f1⟩ := F2
  by_cases hBb : B = b
  · have e1 : ((B : Int) = (b : Int)) = True := eq_true (by omega)
    have e2 : ((B : Int) == (b : Int)) = true := beq_iff_eq.2 (by omega)
    rw [decide_eq_true hBb, Bool.true_and, ← ht2]
    clear hBb ht2
    go_enter Tryz.func41, Tryz.ntmps41
    go_upto_region 1 with fail
    rw [← hW2]
    clear hW2
    go_wp2_with fail
    refine cR.mono ?_
    rintro en w3 ⟨rfl, hb3⟩
    have V := next hb2 hb3
    clear cR d0 d1 d2 f0 f1 D2 F2
    go_wp2
    go_ret
    exact ⟨by simp, V⟩
  · have e1 : ¬ ((B : Int) = (b : Int)) := by omega
    have e2 : ((B : Int) == (b : Int)) = false := by simp; omega
    rw [decide_eq_false hBb, Bool.false_and]
    clear hBb ht2
    go_enter Tryz.func41, Tryz.ntmps41
    go_upto_region 1 with fail
    rw [← hW2]
    clear hW2
    go_wp2_with fail
    refine cR.mono ?_
    rintro en w3 ⟨rfl, hb3⟩
    have V := next hb2 hb3
    clear cR d0 d1 d2 f0 f1 D2 F2
    go_wp2
    go_ret
    exact ⟨by simp, V⟩

set_option maxRecDepth 100000 in
theorem short6_any (s : Bool) (a1 a2 : Option Addr) (n1 n2 c1 c2 : Nat) (w : World) :
    Calls Tryz.prog 45 #[.agg #[.bool s, .slice a1 n1 c1, .slice a2 n2 c2]] w fun en w' => en = .returned (.bool (decide (n1 ≤ 200 ∧ n2 ≤ 200))) ∧ Below w.heap.size w w' := by
  have V := more (Below.refl w.heap.size w) (.cells #[.bool s, .slice a1 n1 c1, .slice a2 n2 c2] 30)
  have ⟨d0, d1, d2, _, _, _⟩ := box3_new w (.bool s) (.slice a1 n1 c1) (.slice a2 n2 c2) 30
  by_cases h1 : n1 ≤ 200
  · have e1 : (n1 : Int) ≤ 200 := by omega
    by_cases h2 : n2 ≤ 200
    · have e2 : (n2 : Int) ≤ 200 := by omega
      rw [decide_eq_true ⟨h1, h2⟩]
      go_enter Tryz.func45, Tryz.ntmps45
      go_wp2
      go_ret
      exact ⟨rfl, V⟩
    · have e2 : ¬ (n2 : Int) ≤ 200 := by omega
      rw [decide_eq_false (fun h => h2 h.2)]
      go_enter Tryz.func45, Tryz.ntmps45
      go_wp2
      go_ret
      exact ⟨rfl, V⟩
  · have e1 : ¬ (n1 : Int) ≤ 200 := by omega
    rw [decide_eq_false (fun h => h1 h.1)]
    go_enter Tryz.func45, Tryz.ntmps45
    go_wp2
    go_ret
    exact ⟨rfl, V⟩

end Go.Proofs.YtfjgmpfpadfknaaGreatDoor

