/-
  Contracts of ratio: of (with Sub), Sub, Whole, Neg, of what may be.
-/
import Derived.Test.YtgdhleiokfaeoaaGreatDoorQOrdW
import Derived.Test.YtgdhleiokfaeoaaGreatDoorQRtD
namespace Go.Proofs.YtgdhleiokfaeoaaGreatDoor

open Go.RowKit Go.Lb

attribute [local go_sem] Go.World.cell?_alloc_some

/-- An answered fraction, by its worth. -/
def RtnQ (q : Rat) (w : World) (en : Ending) (w' : World) : Prop := Rtn (decide (q.num < 0)) q.num.natAbs q.den 0 w en w'

theorem told_ok (b base : Nat) (q : Rat) (w : World) (h : Rq 43 w base b q) (l1 : ln q.num.natAbs ≤ 16384) (l2 : ln q.den ≤ 16384) :
    Calls Tryz.prog 77 #[.pointer (some ⟨b, 0, none⟩)] w (RtnQ q w) := by
  have hs : nzB (decide (q.num < 0)) q.num.natAbs = decide (q.num < 0) := nzB_nat _ _ rfl
  unfold RtnQ
  rw [← hs]
  exact rtTold_yes b base _ _ _ w h (Nat.le_trans l1 (by decide)) (Nat.le_trans l2 (by decide)) (decide_eq_false (by unfold ln at l1; omega)) (decide_eq_false (by unfold ln at l2; omega))

theorem box3_row {w w' : World} {b z : Nat} {u v x : Value} (h : Box3 w b u v x) (hg : w.grownBy w' (some z)) (hne : b ≠ z) : Box3 w' b u v x := by
  have hb : w'.heap[b]? = w.heap[b]? := hg.block b h.lt (fun e => hne (by cases e; rfl))
  exact ⟨(World.cell?_of_block hb).trans h.c0, (World.cell?_of_block hb).trans h.c1, (World.cell?_of_block hb).trans h.c2, (World.frozen?_of_block hb).trans h.z0, (World.frozen?_of_block hb).trans h.z1, (World.frozen?_of_block hb).trans h.z2⟩

/-- An answered fraction without an error. -/
def WhoQ (q : Rat) (w : World) (en : Ending) (w' : World) : Prop :=
  ∃ a1 n1 c1 a2 n2 c2, en = .returned (.agg #[.bool (decide (q.num < 0)), .slice a1 n1 c1, .slice a2 n2 c2]) ∧ Fr 43 w' w.heap.size a1 n1 c1 (limbs q.num.natAbs) ∧ Fr 43 w' w.heap.size a2 n2 c2 (limbs q.den) ∧ Below w.heap.size w w'

set_option maxRecDepth 100000 in
set_option maxHeartbeats 3000000 in
theorem rtWholeN_ok (n : Int) (w : World) (hn : -2147483648 ≤ n) (hn2 : n ≤ 2147483647) :
    Calls Tryz.prog 31 #[.int .i64 n] w (WhoQ ((n : Int) : Rat) w) := by
  obtain ⟨W1, hW1⟩ : ∃ W1 : World, W1 = w.alloc (.cells #[.bool false, .slice none 0 0, .slice none 0 0] 28) := ⟨_, rfl⟩
  have hb1 : Below w.heap.size w W1 := hW1 ▸ more (Below.refl _ _) _
  have R1 : Box3 W1 w.heap.size (.bool false) (.slice none 0 0) (.slice none 0 0) := hW1 ▸ box3_new w _ _ _ _
  have hSI := bgRSetInt64_any W1.heap.size W1.heap.size n (W1.alloc (.cells #[.bool false, .slice none 0 0, .slice none 0 0] 120)) (res_new W1 _ _ _ _) (Nat.le_refl _) (by omega)
  have l1 : ln ((n : Int) : Rat).num.natAbs ≤ 16384 := by rw [Rat.num_intCast]; exact Nat.le_trans (ln_small (by omega)) (by decide)
  have l2 : ln ((n : Int) : Rat).den ≤ 16384 := by rw [Rat.den_intCast, ln_one]; decide
  have hTo : ∀ (W : World) b B, Rq 43 W B b ((n : Int) : Rat) → Calls Tryz.prog 77 #[.pointer (some ⟨b, 0, none⟩)] W (RtnQ ((n : Int) : Rat) W) := fun W b B h => told_ok b B _ W h l1 l2
  generalize ((n : Int) : Rat) = q at *
  clear l1 l2
  go_enter Tryz.func31, Tryz.ntmps31
  go_upto_region 1 with fail
  rw [← hW1]
  clear hW1
  go_wp2_with fail
  refine hSI.mono ?_
  rintro en w3 hS3
  obtain ⟨b, rfl, Q3, hb3⟩ := hS3.mk
  have R3 := R1.stay hb3
  go_wp2_with fail
  refine (hTo w3 b _ Q3).mono ?_
  rintro en w4 ⟨a3, n3, f3, a4, n4, f4, rfl, F3, F4, hap, hb4⟩
  have V4 := next (next hb1 hb3) hb4
  have R4 := (R3.stay hb4).alloc (.cells #[.bool (decide (q.num < 0)), .slice a3 n3 f3, .slice a4 n4 f4] 28)
  have N4 := box3_new w4 (.bool (decide (q.num < 0))) (.slice a3 n3 f3) (.slice a4 n4 f4) 28
  have V5 := more V4 (.cells #[.bool (decide (q.num < 0)), .slice a3 n3 f3, .slice a4 n4 f4] 28)
  have G3 := F3.alloc (.cells #[.bool (decide (q.num < 0)), .slice a3 n3 f3, .slice a4 n4 f4] 28)
  have G4 := F4.alloc (.cells #[.bool (decide (q.num < 0)), .slice a3 n3 f3, .slice a4 n4 f4] 28)
  have hz1 := R1.lt
  have hz3 := hb3.size
  have hz0 := hb1.size
  clear hSI hTo Q3 R1 R3 F3 F4
  go_upto_region 2 with fail
  obtain ⟨q4, hq4⟩ : ∃ q, q = w4.heap.size := ⟨_, rfl⟩
  rw [← hq4] at N4 ⊢
  clear hq4 V4 hb3 hb4
  generalize w4.alloc (.cells #[.bool (decide (q.num < 0)), .slice a3 n3 f3, .slice a4 n4 f4] 28) = w5 at R4 N4 V5 G3 G4 ⊢
  have ⟨r0, r1, r2, _, _, _⟩ := R4
  have ⟨m0, m1, m2, _, _, _⟩ := N4
  go_wp2
  obtain ⟨t0, t1, t2⟩ := R4.set (.bool (decide (q.num < 0))) (.slice a3 n3 f3) (.slice a4 n4 f4)
  refine bodyPost_ret (v := .agg #[.bool (decide (q.num < 0)), .slice a3 n3 f3, .slice a4 n4 f4]) (by simp [results, Tryz.results31, go_sem, t0, t1, t2]) rfl ?_
  exact ⟨_, _, _, _, _, _, rfl, (((G3.setCell (by simp; omega) _).setCell (by simp; omega) _).setCell (by simp; omega) _).mono (by omega), (((G4.setCell (by simp; omega) _).setCell (by simp; omega) _).setCell (by simp; omega) _).mono (by omega), ((V5.setCell (Nat.le_refl _) _).setCell (Nat.le_refl _) _).setCell (Nat.le_refl _) _⟩

end Go.Proofs.YtgdhleiokfaeoaaGreatDoor

