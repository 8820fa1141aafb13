/-
  The walks of nat.Of and the reference's Of: a number of 64 bits.
-/
import Derived.Test.YtnokabglkmiidaaDoorRefDown
namespace Go.Proofs.YtnokabglkmiidaaDoor
open Go.RowKit Go.Lb

theorem val_two {n : Nat} (h : n < 18446744073709551616) : val [n % 4294967296, n / 4294967296 % 4294967296] = n := by
  simp only [val]
  omega

theorem ok_two (n : Nat) : Ok [n % 4294967296, n / 4294967296 % 4294967296] := fun x hx => by
  simp at hx
  omega

theorem lits_two (n : Nat) : [Value.int .u32 ((n : Int) % 4294967296), Value.int .u32 ((n : Int) / 4294967296 % 4294967296)] = lvs [n % 4294967296, n / 4294967296 % 4294967296] := by
  unfold lvs lv
  simp

theorem own_two (w : World) (n : Nat) {x y : Int} (hx : x = (n : Int) % 4294967296) (hy : y = (n : Int) / 4294967296 % 4294967296) : (w.alloc (.cells #[.int .u32 x, .int .u32 y] 55)).ownsRow w.heap.size 55 1 (.slice (some ⟨w.heap.size, 0, none⟩) 2 2) 2 (lvs [n % 4294967296, n / 4294967296 % 4294967296]) := by
  subst hx
  subst hy
  rw [← lits_two n]
  exact World.ownsRow_lit w #[.int .u32 ((n : Int) % 4294967296), .int .u32 ((n : Int) / 4294967296 % 4294967296)] 2 (Nat.le_refl _) (by decide) rfl

set_option maxHeartbeats 800000 in
theorem natOf_any (n : Nat) (w : World) (hn : n < 18446744073709551616) :
    Calls Tryd.prog 49 #[.int .u64 n] w fun e w' => ∃ ao k c, e = .returned (.agg #[.slice ao k c]) ∧ Fr 55 w' w.heap.size ao k c (limbs n) ∧ Below w.heap.size w w' := by
  have hv := Lib.hid (val_two hn)
  go_enter Tryd.func49, Tryd.ntmps49
  go_wp2_with fail
  have ow := own_two (w.alloc (.cells #[.slice none 0 0] 24)) n (x := (n : Int) % 4294967296) (y := (n : Int) / 4294967296) rfl (by omega)
  rw [World.size_alloc] at ow
  refine (natTrimmed_own _ ow (ok_two n)).mono ?_
  rintro e w1 ⟨a1, k1, rfl, hF, hb1⟩
  rw [hv.out] at hF
  have B := ((box1_new w (.slice none 0 0) 24).alloc (.cells #[.int .u32 ((n : Int) % 4294967296), .int .u32 ((n : Int) / 4294967296)] 55)).stay hb1
  have ⟨b0, bz⟩ := B
  have hW := next (more (more (Below.refl _ _) _) _) hb1
  go_wp2
  refine bodyPost_ret (v := .agg #[.slice a1 k1 k1]) (by simp [results, Tryd.results49, go_sem, B.set]) rfl ⟨a1, k1, k1, rfl, (hF.setCell (by simp) _).mono (by omega), hW.setCell (by simp) _⟩

theorem ref_two (w : World) (n : Nat) {x y : Int} (hx : x = (n : Int) % 4294967296) (hy : y = (n : Int) / 4294967296 % 4294967296) : Fr 55 (w.alloc (.cells #[.int .u32 x, .int .u32 y] 55)) w.heap.size (some ⟨w.heap.size, 0, none⟩) 2 2 [n % 4294967296, n / 4294967296 % 4294967296] :=
  fr_own (own_two w n hx hy) (ok_two n) (k := 2) (c := 2) (Nat.le_refl _) (Nat.le_refl _) (Nat.le_refl _)

set_option maxHeartbeats 800000 in
theorem refOf_any (n : Nat) (w : World) (hn : n < 18446744073709551616) :
    Calls Tryd.prog 45 #[.int .u64 n] w fun e w' => ∃ ao k c, e = .returned (.agg #[.slice ao k c]) ∧ Fr 55 w' w.heap.size ao k c (limbs n) ∧ Below w.heap.size w w' := by
  have hv := Lib.hid (val_two hn)
  go_enter Tryd.func45, Tryd.ntmps45
  go_wp2_with fail
  have ow := ref_two (w.alloc (.cells #[.slice none 0 0] 24)) n (x := (n : Int) % 4294967296) (y := (n : Int) / 4294967296) rfl (by omega)
  rw [World.size_alloc] at ow
  refine (refTrim_any _ 2 2 _ _ ow).mono ?_
  rintro e w1 ⟨k1, rfl, hF, rfl⟩
  rw [hv.out] at hF
  go_wp2_with fail
  refine (refNat_any _ (some ⟨w.heap.size + 1, 0, none⟩) k1 2 rfl _).mono ?_
  rintro e w2 ⟨rfl, hb2⟩
  have B := ((box1_new w (.slice none 0 0) 24).alloc (.cells #[.int .u32 ((n : Int) % 4294967296), .int .u32 ((n : Int) / 4294967296)] 55)).stay hb2
  have ⟨b0, bz⟩ := B
  have hW := next (more (more (Below.refl _ _) _) _) hb2
  go_wp2
  refine bodyPost_ret (v := .agg #[.slice (some ⟨w.heap.size + 1, 0, none⟩) k1 2]) (by simp [results, Tryd.results45, go_sem, B.set]) rfl ⟨_, k1, 2, rfl, ((hF.below hb2).setCell (by simp) _).mono (by omega), hW.setCell (by simp) _⟩

end Go.Proofs.YtnokabglkmiidaaDoor
