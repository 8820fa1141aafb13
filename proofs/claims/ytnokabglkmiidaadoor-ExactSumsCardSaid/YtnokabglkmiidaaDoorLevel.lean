/-
  The walks of nat.Up (every way) and exact.level.
-/
import Derived.Test.YtnokabglkmiidaaDoorSumN
namespace Go.Proofs.YtnokabglkmiidaaDoor
open Go.RowKit Go.Lb

set_option maxRecDepth 100000 in
theorem natUp_zero (ao : Option Addr) (n c k : Nat) (ys : List Nat) (w : World) (h : Sl w ao n c ys) (hc : chk ys = 0) (h0 : val ys = 0) :
    Calls Tryd.prog 107 #[.agg #[.slice ao n c], .int .i64 k] w (Numb w 0 0) := by
  have hn0 := (val_zero_iff h.ok hc).1 h0
  have hb0 : bitsN ys = 0 := by unfold bitsN; rw [if_pos hc, szN_zero hn0]; rfl
  go_enter Tryd.func107, Tryd.ntmps107
  go_wp2_with (go_at_call 86; refine (natBits_any ao n c ys _ ((h.alloc _).alloc _)).mono ?_; rintro e w1 ⟨rfl, hb1⟩; rw [hb0, hc]; have A := ((box1_new w _ _).alloc _).stay hb1; have B := (box1_new _ _ _).stay hb1; rw [World.size_alloc] at B; have ⟨a0, az⟩ := A; have ⟨b0, bz⟩ := B; have hW := next (more (more (Below.refl _ _) _) _) hb1)
  refine bodyPost_ret (v := .tuple #[.agg #[.slice none 0 0], .int .i64 0]) (by simp [results, Tryd.results107, go_sem, B.set]) rfl ⟨none, 0, 0, rfl, ?_, hW.setCell (by simp) _⟩
  rw [limbs_zero]
  exact fr_nil _ _ _

set_option maxRecDepth 100000 in
theorem natUp_many (ao : Option Addr) (n c k : Nat) (ys : List Nat) (w : World) (h : Sl w ao n c ys) (hc : chk ys = 0) (h0 : val ys ≠ 0) (hk : ¬ k + szN ys ≤ 524288) :
    Calls Tryd.prog 107 #[.agg #[.slice ao n c], .int .i64 k] w (Numb w 0 4) := by
  have hb0 : bitsN ys = (szN ys : Int) := by unfold bitsN; rw [if_pos hc]
  have hs := (sz_bounds h.ok hc h0).1
  have hm := szN_max h.ok hc
  generalize szN ys = z at hb0 hk hs hm
  have hzB : ((z : Int) == 0) = false := by simp; omega
  have hgt : (524288 : Int) - (z : Int) < (k : Int) := by omega
  go_enter Tryd.func107, Tryd.ntmps107
  go_wp2_with (go_at_call 86; refine (natBits_any ao n c ys _ ((h.alloc _).alloc _)).mono ?_; rintro e w1 ⟨rfl, hb1⟩; rw [hb0, hc]; have A := ((box1_new w _ _).alloc _).stay hb1; have B := (box1_new _ _ _).stay hb1; rw [World.size_alloc] at B; have ⟨a0, az⟩ := A; have ⟨b0, bz⟩ := B; have hW := next (more (more (Below.refl _ _) _) _) hb1)
  refine bodyPost_ret (v := .tuple #[.agg #[.slice none 0 0], .int .i64 4]) (by simp [results, Tryd.results107, go_sem, B.set]) rfl ⟨none, 0, 0, rfl, ?_, hW.setCell (by simp) _⟩
  rw [limbs_zero]
  exact fr_nil _ _ _

theorem natUp_any (ao : Option Addr) (n c k : Nat) (ys : List Nat) (w : World) (h : Sl w ao n c ys) (hc : chk ys = 0) :
    Calls Tryd.prog 107 #[.agg #[.slice ao n c], .int .i64 k] w (Numb w (bigN (val ys * 2 ^ k)) (bigE (val ys * 2 ^ k))) := by
  by_cases h0 : val ys = 0
  · rw [h0, Nat.zero_mul]
    exact natUp_zero ao n c k ys w h hc h0
  · by_cases hk : k + szN ys ≤ 524288
    · have hB := bigE_ok ((up_fits h.ok hc h0 k).2 hk)
      rw [hB.1, hB.2]
      exact natUp_ok ao n c k ys w h hc h0 hk
    · have hB := bigE_many (fun hh => hk ((up_fits h.ok hc h0 k).1 hh))
      rw [hB.1, hB.2]
      exact natUp_many ao n c k ys w h hc h0 hk

/-- The same, the count told as an integer. -/
theorem natUp_i (ao : Option Addr) (n c : Nat) (k : Int) (hk : 0 ≤ k) (ys : List Nat) (w : World) (h : Sl w ao n c ys) (hc : chk ys = 0) :
    Calls Tryd.prog 107 #[.agg #[.slice ao n c], .int .i64 k] w (Numb w (bigN (val ys * 2 ^ k.toNat)) (bigE (val ys * 2 ^ k.toNat))) := by
  obtain ⟨k, rfl⟩ := Int.eq_ofNat_of_zero_le hk
  exact natUp_any ao n c k ys w h hc

/-- What level answers. -/
def Lvl (P Q : Nat) (m er : Int) (w : World) (e : Ending) (w' : World) : Prop :=
  ∃ a1 n1 c1 a2 n2 c2, e = .returned (.tuple #[.agg #[.slice a1 n1 c1], .agg #[.slice a2 n2 c2], .int .i64 m, .int .i64 er]) ∧ Fr 55 w' w.heap.size a1 n1 c1 (limbs P) ∧ Fr 55 w' w.heap.size a2 n2 c2 (limbs Q) ∧ Below w.heap.size w w'

set_option maxRecDepth 100000 in
set_option maxHeartbeats 1600000 in
theorem level_ok (s t : Bool) (a1 a2 : Option Addr) (n1 n2 c1 c2 : Nat) (x y : Int) (xs ys : List Nat) (w : World) (h1 : Sl w a1 n1 c1 xs) (h2 : Sl w a2 n2 c2 ys) (hx : chk xs = 0) (hy : chk ys = 0)
    (x1 : -1073741824 ≤ x) (x2 : x ≤ 1073741824) (y1 : -1073741824 ≤ y) (y2 : y ≤ 1073741824) (g1 : bigE (lvN (val xs) x y) = 0) :
    Calls Tryd.prog 87 #[.agg #[.bool s, .slice a1 n1 c1, .int .i64 x], .agg #[.bool t, .slice a2 n2 c2, .int .i64 y]] w (Lvl (bigN (lvN (val xs) x y)) (bigN (lvN (val ys) y x)) (min x y) (bigE (lvN (val ys) y x)) w) := by
  have hm : min x y ≤ x := Int.min_le_left _ _
  have hm2 : min x y ≤ y := Int.min_le_right _ _
  have hm3 : -1073741824 ≤ min x y := by omega
  have hl1 : lvN (val xs) x y = val xs * 2 ^ (x - min x y).toNat := rfl
  have hl2 : lvN (val ys) y x = val ys * 2 ^ (y - min x y).toNat := by unfold lvN; rw [Int.min_comm]
  rw [hl2]
  rw [hl1] at g1 ⊢
  clear hl1 hl2
  go_enter Tryd.func87, Tryd.ntmps87
  go_wp2_with (first
    | (go_at_call 107; (with_reducible refine (natUp_i a1 n1 c1 _ (by omega) xs _ ((((h1.alloc _).alloc _).alloc _).alloc _) hx).mono ?_); rintro e w3 ⟨ao, k, c, rfl, hF, hb1⟩; rw [g1]; have A := ((((box3_new w _ _ _ _).alloc _).alloc _).alloc _).stay hb1; have B := (((box3_new _ _ _ _ _).alloc _).alloc _).stay hb1; have X := ((box1_new _ _ _).alloc _).stay hb1; have Y := (box1_new _ _ _).stay hb1; rw [World.size_alloc] at B; rw [World.size_alloc, World.size_alloc] at X; rw [World.size_alloc, World.size_alloc, World.size_alloc] at Y; have ⟨q0, q1, q2, qz0, qz1, qz2⟩ := A; have ⟨p0, p1, p2, pz0, pz1, pz2⟩ := B; have ⟨r0, rz⟩ := X; have ⟨v0, vz⟩ := Y; have hW := next (more (more (more (more (Below.refl _ _) _) _) _) _) hb1; have lX := X.lt; have lY := Y.lt; have hWx := hW.setCell (p := ⟨w.heap.size + 1 + 1, 0, none⟩) (by simp <;> omega) (.slice ao k c); have X' := X.set (.slice ao k c); have Y' := (World.cell?_setCell_other w3 ⟨w.heap.size + 1 + 1, 0, none⟩ ⟨w.heap.size + 1 + 1 + 1, 0, none⟩ (.slice ao k c) (by simp)).trans v0)
    | (go_at_call 107; (with_reducible refine (natUp_i a2 n2 c2 _ (by omega) ys _ (h2.below hWx) hy).mono ?_); rintro e w4 ⟨bo, kk, cc, rfl, hG, hb2⟩; have ⟨X4, Xz4⟩ := cfStay ⟨X', (World.frozen?_setCell ..).trans rz⟩ hb2; have ⟨Y4, Yz4⟩ := cfStay ⟨Y', (World.frozen?_setCell ..).trans vz⟩ hb2; have hW4 := next hWx hb2; have hF4 := (hF.setCell (p := ⟨w.heap.size + 1 + 1, 0, none⟩) (by simp <;> omega) (.slice ao k c)).below hb2; have X5 := (World.cell?_setCell_other w4 ⟨w.heap.size + 1 + 1 + 1, 0, none⟩ ⟨w.heap.size + 1 + 1, 0, none⟩ (.slice bo kk cc) (by simp)).trans X4; have Y5 := World.cell?_setCell_same w4 ⟨w.heap.size + 1 + 1 + 1, 0, none⟩ (.slice bo kk cc) Y4))
  go_region
  all_goals go_wp2
  have X6 := World.cell?_setCell_same _ ⟨w.heap.size + 1 + 1, 0, none⟩ (.slice ao k c) X5
  have Y6 := World.cell?_setCell_same _ ⟨w.heap.size + 1 + 1 + 1, 0, none⟩ (.slice bo kk cc) ((World.cell?_setCell_other _ ⟨w.heap.size + 1 + 1, 0, none⟩ ⟨w.heap.size + 1 + 1 + 1, 0, none⟩ (.slice ao k c) (by simp)).trans Y5)
  refine bodyPost_ret (v := .tuple #[.agg #[.slice ao k c], .agg #[.slice bo kk cc], .int .i64 (min x y), .int .i64 (bigE (val ys * 2 ^ (y - min x y).toNat))]) (by simp [results, Tryd.results87, go_sem, X6, Y6]) rfl ⟨ao, k, c, bo, kk, cc, rfl, ?_, ?_, ?_⟩
  · refine Fr.mono (Fr.drew (Fr.setCell (Fr.setCell (Fr.setCell hF4 ?_ _) ?_ _) ?_ _)) (by simp <;> omega : w.heap.size ≤ _) <;> (simp <;> omega)
  · have l3 := hWx.size
    refine Fr.mono (Fr.drew (Fr.setCell (Fr.setCell (Fr.setCell hG ?_ _) ?_ _) ?_ _)) l3 <;> simpa using (by omega)
  · exact (((hW4.setCell (by simp <;> omega) _).setCell (by simp <;> omega) _).setCell (by simp <;> omega) _).drew

set_option maxRecDepth 100000 in
set_option maxHeartbeats 1600000 in
theorem level_many (s t : Bool) (a1 a2 : Option Addr) (n1 n2 c1 c2 : Nat) (x y : Int) (xs : List Nat) (w : World) (h1 : Sl w a1 n1 c1 xs) (hx : chk xs = 0)
    (x1 : -1073741824 ≤ x) (x2 : x ≤ 1073741824) (y1 : -1073741824 ≤ y) (y2 : y ≤ 1073741824) (g1 : bigE (lvN (val xs) x y) = 4) :
    Calls Tryd.prog 87 #[.agg #[.bool s, .slice a1 n1 c1, .int .i64 x], .agg #[.bool t, .slice a2 n2 c2, .int .i64 y]] w (Lvl (bigN (lvN (val xs) x y)) 0 (min x y) 4 w) := by
  have hm : min x y ≤ x := Int.min_le_left _ _
  have hm2 : min x y ≤ y := Int.min_le_right _ _
  have hm3 : -1073741824 ≤ min x y := by omega
  have hl1 : lvN (val xs) x y = val xs * 2 ^ (x - min x y).toNat := rfl
  rw [hl1] at g1 ⊢
  clear hl1
  go_enter Tryd.func87, Tryd.ntmps87
  go_wp2_with (first
    | (go_at_call 107; (with_reducible refine (natUp_i a1 n1 c1 _ (by omega) xs _ ((((h1.alloc _).alloc _).alloc _).alloc _) hx).mono ?_); rintro e w3 ⟨ao, k, c, rfl, hF, hb1⟩; rw [g1]; have X := ((box1_new _ _ _).alloc _).stay hb1; have Y := (box1_new _ _ _).stay hb1; rw [World.size_alloc, World.size_alloc] at X; rw [World.size_alloc, World.size_alloc, World.size_alloc] at Y; have ⟨r0, rz⟩ := X; have ⟨v0, vz⟩ := Y; have hW := next (more (more (more (more (Below.refl _ _) _) _) _) _) hb1; have lX := X.lt; have lY := Y.lt; have hWx := hW.setCell (p := ⟨w.heap.size + 1 + 1, 0, none⟩) (by simp <;> omega) (.slice ao k c); have X' := X.set (.slice ao k c); have Y' := (World.cell?_setCell_other w3 ⟨w.heap.size + 1 + 1, 0, none⟩ ⟨w.heap.size + 1 + 1 + 1, 0, none⟩ (.slice ao k c) (by simp)).trans v0))
  go_region
  all_goals go_wp2
  have X6 := World.cell?_setCell_same _ ⟨w.heap.size + 1 + 1, 0, none⟩ (.slice ao k c) X'
  have Y6 := World.cell?_setCell_same _ ⟨w.heap.size + 1 + 1 + 1, 0, none⟩ (.slice none 0 0) ((World.cell?_setCell_other _ ⟨w.heap.size + 1 + 1, 0, none⟩ ⟨w.heap.size + 1 + 1 + 1, 0, none⟩ (.slice ao k c) (by simp)).trans Y')
  refine bodyPost_ret (v := .tuple #[.agg #[.slice ao k c], .agg #[.slice none 0 0], .int .i64 (min x y), .int .i64 4]) (by simp [results, Tryd.results87, go_sem, X6, Y6]) rfl ⟨ao, k, c, none, 0, 0, rfl, ?_, fr_nil _ _ _, ?_⟩
  · refine Fr.mono (Fr.drew (Fr.setCell (Fr.setCell (Fr.setCell hF ?_ _) ?_ _) ?_ _)) (by simp <;> omega : w.heap.size ≤ _) <;> (simp <;> omega)
  · exact (((hW.setCell (by simp <;> omega) _).setCell (by simp <;> omega) _).setCell (by simp <;> omega) _).drew

end Go.Proofs.YtnokabglkmiidaaDoor
