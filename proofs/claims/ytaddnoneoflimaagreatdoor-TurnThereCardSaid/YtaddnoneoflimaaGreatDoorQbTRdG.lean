/-
  Contract of numeral/round: Dyadic, whatever it is asked. (Printed by wip/gen/dyadic5.py.)
-/
import Derived.Test.YtaddnoneoflimaaGreatDoorQbTMT21
namespace Go.Proofs.YtaddnoneoflimaaGreatDoor

open Go.RowKit Go.Lb

attribute [local go_sem] Go.World.cell?_alloc_some

set_option maxRecDepth 100000 in
set_option maxHeartbeats 2000000 in
theorem rdDyadic_form (ao : Option Addr) (n c m : Nat) (e f x : Int) (s neg : Bool) (w : World) (hf : formE e f = 5) :
    Calls Tryz.prog 170 #[.agg #[.int .i64 e, .int .i64 f], .agg #[.bool s, .slice ao n c, .int .i64 x], .bool neg, .int .u8 (m : Int)] w fun en w' => en = .returned (.tuple #[.int .u64 0, .int .u8 0, .int .i64 5]) ∧ Below w.heap.size w w' := by
  obtain ⟨W2, hW2⟩ : ∃ W2 : World, W2 = (w.alloc (.cells #[.int .i64 e, .int .i64 f] 31)).alloc (.cells #[.bool s, .slice ao n c, .int .i64 x] 90) := ⟨_, rfl⟩
  have hb2 : Below w.heap.size w W2 := hW2 ▸ more (more (Below.refl _ _) _) _
  have c0 : W2.cell? ⟨w.heap.size, 0, none⟩ = some (.int .i64 e) := by rw [hW2]; simp [World.cell?_alloc_some]
  have c1 : W2.cell? ⟨w.heap.size, 1, none⟩ = some (.int .i64 f) := by rw [hW2]; simp [World.cell?_alloc_some]
  have D2 : Box3 W2 (w.heap.size + 1) (.bool s) (.slice ao n c) (.int .i64 x) := by
    have := box3_new (w.alloc (.cells #[.int .i64 e, .int .i64 f] 31)) (.bool s) (.slice ao n c) (.int .i64 x) 90
    rw [World.size_alloc] at this
    exact hW2 ▸ this
  have hFc := formCheck_any e f W2
  rw [hf] at hFc
  clear hf
  go_enter Tryz.func170, Tryz.ntmps170
  go_wp2_with fail
  rw [← hW2]
  clear hW2
  refine hFc.mono ?_
  rintro en w3 ⟨rfl, hb3⟩
  go_wp2
  go_ret3
  exact ⟨rfl, next hb2 hb3⟩

set_option maxRecDepth 100000 in
set_option maxHeartbeats 2000000 in
theorem rdDyadic_two (ao : Option Addr) (n c m : Nat) (e f x : Int) (s neg : Bool) (xs : List Nat) (w : World) (h : Sl w ao n c xs) (hf : formE e f = 0) (hr : twoB s xs x = false) :
    Calls Tryz.prog 170 #[.agg #[.int .i64 e, .int .i64 f], .agg #[.bool s, .slice ao n c, .int .i64 x], .bool neg, .int .u8 (m : Int)] w fun en w' => en = .returned (.tuple #[.int .u64 0, .int .u8 0, .int .i64 40]) ∧ Below w.heap.size w w' := by
  obtain ⟨W2, hW2⟩ : ∃ W2 : World, W2 = (w.alloc (.cells #[.int .i64 e, .int .i64 f] 31)).alloc (.cells #[.bool s, .slice ao n c, .int .i64 x] 90) := ⟨_, rfl⟩
  have hb2 : Below w.heap.size w W2 := hW2 ▸ more (more (Below.refl _ _) _) _
  have c0 : W2.cell? ⟨w.heap.size, 0, none⟩ = some (.int .i64 e) := by rw [hW2]; simp [World.cell?_alloc_some]
  have c1 : W2.cell? ⟨w.heap.size, 1, none⟩ = some (.int .i64 f) := by rw [hW2]; simp [World.cell?_alloc_some]
  have D2 : Box3 W2 (w.heap.size + 1) (.bool s) (.slice ao n c) (.int .i64 x) := by
    have := box3_new (w.alloc (.cells #[.int .i64 e, .int .i64 f] 31)) (.bool s) (.slice ao n c) (.int .i64 x) 90
    rw [World.size_alloc] at this
    exact hW2 ▸ this
  have hFc := formCheck_any e f W2
  rw [hf] at hFc
  have hd : (dchk s xs x == 0) = false := by have := of_decide_eq_false hr; simpa using this
  have hRc : ∀ W, Below w.heap.size w W → Calls Tryz.prog 215 #[.agg #[.bool s, .slice ao n c, .int .i64 x]] W fun e w' => e = .returned (.int .i64 (dchk s xs x)) ∧ Below W.heap.size W w' := fun W hW => dyCheck_any s ao n c x xs W (h.below hW)
  generalize dchk s xs x = dk at *
  have hd' : (dk != 0) = true := by simpa using hd
  have ⟨d0, d1, d2, _, _, _⟩ := D2
  clear hf hr h
  go_enter Tryz.func170, Tryz.ntmps170
  go_wp2_with fail
  rw [← hW2]
  clear hW2
  refine hFc.mono ?_
  rintro en w3 ⟨rfl, hb3⟩
  have V3 := next hb2 hb3
  have ⟨e0, e1, e2, _, _, _⟩ := D2.stay hb3
  clear d0 d1 d2
  go_wp2_with fail
  refine (hRc w3 V3).mono ?_
  rintro en w4 ⟨rfl, hb4⟩
  go_wp2
  go_ret3
  exact ⟨rfl, next V3 hb4⟩

set_option maxRecDepth 100000 in
set_option maxHeartbeats 2000000 in
theorem rdDyadic_mode (ao : Option Addr) (n c m : Nat) (e f x : Int) (s neg : Bool) (xs : List Nat) (w : World) (h : Sl w ao n c xs) (hf : formE e f = 0) (hr : twoB s xs x = true) (hm : 4 < m) :
    Calls Tryz.prog 170 #[.agg #[.int .i64 e, .int .i64 f], .agg #[.bool s, .slice ao n c, .int .i64 x], .bool neg, .int .u8 (m : Int)] w fun en w' => en = .returned (.tuple #[.int .u64 0, .int .u8 0, .int .i64 7]) ∧ Below w.heap.size w w' := by
  obtain ⟨W2, hW2⟩ : ∃ W2 : World, W2 = (w.alloc (.cells #[.int .i64 e, .int .i64 f] 31)).alloc (.cells #[.bool s, .slice ao n c, .int .i64 x] 90) := ⟨_, rfl⟩
  have hb2 : Below w.heap.size w W2 := hW2 ▸ more (more (Below.refl _ _) _) _
  have c0 : W2.cell? ⟨w.heap.size, 0, none⟩ = some (.int .i64 e) := by rw [hW2]; simp [World.cell?_alloc_some]
  have c1 : W2.cell? ⟨w.heap.size, 1, none⟩ = some (.int .i64 f) := by rw [hW2]; simp [World.cell?_alloc_some]
  have D2 : Box3 W2 (w.heap.size + 1) (.bool s) (.slice ao n c) (.int .i64 x) := by
    have := box3_new (w.alloc (.cells #[.int .i64 e, .int .i64 f] 31)) (.bool s) (.slice ao n c) (.int .i64 x) 90
    rw [World.size_alloc] at this
    exact hW2 ▸ this
  have hFc := formCheck_any e f W2
  rw [hf] at hFc
  have hd : dchk s xs x = 0 := of_decide_eq_true hr
  have hRc : ∀ W, Below w.heap.size w W → Calls Tryz.prog 215 #[.agg #[.bool s, .slice ao n c, .int .i64 x]] W fun e w' => e = .returned (.int .i64 0) ∧ Below W.heap.size W w' := fun W hW => by
    have := dyCheck_any s ao n c x xs W (h.below hW)
    rwa [hd] at this
  have hm4 : (m : Int) > 4 := by omega
  have ⟨d0, d1, d2, _, _, _⟩ := D2
  clear hf hr h hd
  go_enter Tryz.func170, Tryz.ntmps170
  go_wp2_with fail
  rw [← hW2]
  clear hW2
  refine hFc.mono ?_
  rintro en w3 ⟨rfl, hb3⟩
  have V3 := next hb2 hb3
  have ⟨e0, e1, e2, _, _, _⟩ := D2.stay hb3
  clear d0 d1 d2
  go_wp2_with fail
  refine (hRc w3 V3).mono ?_
  rintro en w4 ⟨rfl, hb4⟩
  go_wp2
  go_ret3
  exact ⟨rfl, next V3 hb4⟩

theorem rdDyadic_any (ao : Option Addr) (n c m : Nat) (e f x : Int) (s neg : Bool) (xs : List Nat) (w : World) (h : Sl w ao n c xs) (l1 : n ≤ 400) :
    Calls Tryz.prog 170 #[.agg #[.int .i64 e, .int .i64 f], .agg #[.bool s, .slice ao n c, .int .i64 x], .bool neg, .int .u8 (m : Int)] w fun en w' => en = .returned (.tuple #[.int .u64 (dyBits e f s xs x neg m : Int), .int .u8 (dyFlags e f s xs x m : Int), .int .i64 (dyErr e f s xs x m)]) ∧ Below w.heap.size w w' := by
  unfold dyBits dyFlags
  by_cases hf : formE e f = 0
  · cases hr : twoB s xs x
    · have hE : dyErr e f s xs x m = 40 := by unfold dyErr; rw [if_neg (by simp [hf]), if_pos hr]
      rw [hE]
      exact rdDyadic_two ao n c m e f x s neg xs w h hf hr
    · by_cases hm : 4 < m
      · have hE : dyErr e f s xs x m = 7 := by unfold dyErr; rw [if_neg (by simp [hf]), if_neg (by simp [hr]), if_pos hm]
        rw [hE]
        exact rdDyadic_mode ao n c m e f x s neg xs w h hf hr hm
      · have hE : dyErr e f s xs x m = 0 := by unfold dyErr; rw [if_neg (by simp [hf]), if_neg (by simp [hr]), if_neg hm]
        obtain ⟨e1, e2, f1, f2⟩ := formE_ok hf
        rw [hE, if_pos rfl, if_pos rfl]
        obtain ⟨E, rfl⟩ : ∃ E : Nat, e = (E : Int) := ⟨e.toNat, by omega⟩
        obtain ⟨F, rfl⟩ : ∃ F : Nat, f = (F : Int) := ⟨f.toNat, by omega⟩
        simp only [Int.toNat_natCast]
        exact rdDyadic_ok ao n c E F m x s neg xs w h (by omega) l1 (by omega) (by omega) (by omega) (by omega) hf hr
  · have h5 : formE e f = 5 := by unfold formE at hf ⊢; split at hf <;> simp_all
    have hE : dyErr e f s xs x m = 5 := by unfold dyErr; rw [if_pos hf]
    rw [hE]
    exact rdDyadic_form ao n c m e f x s neg w h5

end Go.Proofs.YtaddnoneoflimaaGreatDoor

