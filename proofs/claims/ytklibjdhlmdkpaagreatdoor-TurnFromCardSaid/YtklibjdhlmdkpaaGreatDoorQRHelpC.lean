/-
  Contracts of round.Whole (of what may be asked); numerallaw05.fraction, alive.
-/
import Derived.Test.YtklibjdhlmdkpaaGreatDoorQTurBase
namespace Go.Proofs.YtklibjdhlmdkpaaGreatDoor
open Go.RowKit Go.Lb
set_option maxRecDepth 100000
set_option maxHeartbeats 4000000
attribute [local go_sem] Go.World.cell?_alloc_some
def WhlA (N D : Nat) (s : Bool) (m : Nat) (w : World) (en : Ending) (w' : World) : Prop :=
 ∃ ao k c, en = .returned (.tuple #[.bool (nzB s (rdN N D s m)), .agg #[.slice ao k c], .bool (exB N D), .int .i64 0]) ∧ Fr 38 w' w.heap.size ao k c (limbs (rdN N D s m)) ∧ Below w.heap.size w w'
theorem sign_gt (x : Nat) : decide ((x : Int).sign > 0) = decide (x ≠ 0) := by
 rcases Nat.eq_zero_or_pos x with h | h
 ·subst h; rfl
 ·rw [Int.sign_eq_one_of_pos (by omega), decide_eq_true (by decide), decide_eq_true (by omega)]
theorem rdWholeP_ok (a1 a2 : Option Addr) (n1 n2 c1 c2 m : Nat) (s : Bool) (xs ys : List Nat) (w : World) (h1 : Sl w a1 n1 c1 xs) (h2 : Sl w a2 n2 c2 ys) (hT : Tab w) (hm : m < 5) (hr : ratB s xs ys = true) :
  Calls Tryz.prog 90 #[.agg #[.bool s, .slice a1 n1 c1, .slice a2 n2 c2], .int .u8 m] w (WhlA (val xs) (val ys) s m w) := by
 obtain ⟨W2, hW2⟩ : ∃ W2 : World, W2 = (w.alloc (.cells #[.bool s, .slice a1 n1 c1, .slice a2 n2 c2] 131)).alloc (.cells #[.slice none 0 0] 111) := ⟨_, rfl⟩
 have hb2 : Below w.heap.size w W2 := hW2 ▸ more (more (Below.refl _ _) _) _
 have D2 : Box3 W2 w.heap.size (.bool s) (.slice a1 n1 c1) (.slice a2 n2 c2) := hW2 ▸ (box3_new w _ _ _ _).alloc _
 have R2 : Box1 W2 (w.heap.size + 1) (.slice none 0 0) := by
  have := box1_new (w.alloc (.cells #[.bool s, .slice a1 n1 c1, .slice a2 n2 c2] 131)) (.slice none 0 0) 111
  rw [World.size_alloc] at this
  exact hW2 ▸ this
 have hRc : Calls Tryz.prog 192 #[.agg #[.bool s, .slice a1 n1 c1, .slice a2 n2 c2]] W2 fun e w' => e = .returned (.int .i64 0) ∧ Below W2.heap.size W2 w' := by
  have := rtCheck_any s a1 a2 n1 n2 c1 c2 xs ys W2 (h1.below hb2) (h2.below hb2) (hT.below hb2)
  unfold ratE at this
  rwa [if_pos hr] at this
 obtain ⟨hx, hy, hl, _, _⟩ : chk xs = 0 ∧ chk ys = 0 ∧ ys.length ≠ 0 ∧ Nat.gcd (val xs) (val ys) = 1 ∧ (s = true → val xs ≠ 0) := of_decide_eq_true hr
 have l1 : n1 ≤ 16384 := by rw [← h1.len]; exact chk_zero_len hx
 have l2 : n2 ≤ 16384 := by rw [← h2.len]; exact chk_zero_len hy
 have hD0 : val ys ≠ 0 := fun h => hl ((val_zero_iff h2.ok hy).1 h)
 have hL1 : ∀ W, Below w.heap.size w W → Calls Tryz.prog 185 #[.agg #[.slice a1 n1 c1]] W (MkZ 38 (val xs : Int) W) := fun W hW => rdLarge_any a1 n1 c1 xs W (h1.below hW) (by omega)
 have hL2 : ∀ W, Below w.heap.size w W → Calls Tryz.prog 185 #[.agg #[.slice a2 n2 c2]] W (MkZ 38 (val ys : Int) W) := fun W hW => rdLarge_any a2 n2 c2 ys W (h2.below hW) (by omega)
 have lN : ln (val xs) ≤ 16384 := Nat.le_trans (ln_le (val_lt h1.ok)) (by rw [h1.len]; exact l1)
 have hm4 : ¬ (m : Int) > 4 := by omega
 have hWh : ∀ (W : World) (B1 B2 b1 b2 : Nat), Iz 38 W B1 b1 (val xs : Int) → Iz 38 W B2 b2 (val ys : Int) → Calls Tryz.prog 193 #[.pointer (some ⟨b1, 0, none⟩), .pointer (some ⟨b2, 0, none⟩), .bool s, .int .u8 m] W (WhP (val xs) (val ys) s m W) := fun W B1 B2 b1 b2 i1 i2 => rdWhole_any B1 B2 b1 b2 _ _ m s W i1 i2 hD0 hm (by omega)
 have hrn : ln (rdN (val xs) (val ys) s m) ≤ 16386 := by
  have h3 := rd_le (val xs) (val ys) s m
  have h4 := ln_mono h3
  have h5 := ln_add' (val xs / val ys) 1
  have h6 := ln_div (val xs) (val ys)
  have h7 := ln_one
  omega
 unfold WhP at hWh
 unfold WhlA
 generalize rdN (val xs) (val ys) s m = rn at *
 generalize exB (val xs) (val ys) = ex at *
 generalize val xs = N at *
 generalize val ys = D at *
 clear hx hy hl hr hT h1 h2 l1 l2 lN hD0 hm
 have ⟨d0, d1, d2, _, _, _⟩ := D2
 go_enter Tryz.func90, Tryz.ntmps90
 go_wp2_with fail
 rw [← hW2]
 clear hW2
 refine hRc.mono ?_
 rintro en w3 ⟨rfl, hb3⟩
 have W3 := next hb2 hb3
 have D3 := D2.stay hb3
 have R3 := R2.stay hb3
 clear d0 d1 d2 D2 R2 hRc hb2
 go_upto_region 5 with fail
 have kS : ∀ w' : World, Below w3.heap.size w3 w' → (w'.cell? ⟨w.heap.size, 0, none⟩ = some (.bool s) ∧ w'.cell? ⟨w.heap.size, 1, none⟩ = some (.slice a1 n1 c1) ∧ w'.cell? ⟨w.heap.size, 2, none⟩ = some (.slice a2 n2 c2) ∧ Below w3.heap.size w3 w') := fun w' hb => ⟨cellStay D3.c0 hb, cellStay D3.c1 hb, cellStay D3.c2 hb, hb⟩
 go_cut [8, 9] from 19 (fun v8 v9 wx => ∃ c, v8 = .pointer (some ⟨c, 0, none⟩) ∧ v9 = .bool ex ∧ Iz 38 wx w3.heap.size c (rn : Int) ∧ Below w3.heap.size w3 wx)
 case first =>
  go_region_held3 (fun w' => w'.cell? ⟨w.heap.size, 0, none⟩ = some (.bool s) ∧ w'.cell? ⟨w.heap.size, 1, none⟩ = some (.slice a1 n1 c1) ∧ w'.cell? ⟨w.heap.size, 2, none⟩ = some (.slice a2 n2 c2) ∧ Below w3.heap.size w3 w')
   ((refine kS _ ?_; (repeat (with_reducible (first | exact VC | exact VB | exact VA | exact Below.refl _ _ | refine Below.drew ?_))); done))
   (first
    | (go_at_call 185; (with_reducible refine (hL1 _ ?_).mono ?_); (first | exact W3.drew | exact W3); rintro en wA ⟨q1, rfl, IA, hbA⟩; have VA : Below w3.heap.size w3 wA := (by first | exact hbA | exact undrew hbA); have hsA := VA.size)
    | (go_at_call 185; (with_reducible refine (hL2 _ (next W3 VA)).mono ?_); rintro en wB ⟨q2, rfl, IB, hbB⟩; have VB := next VA hbB; have hsB := VB.size)
    | (go_at_call 193; (with_reducible refine (hWh _ _ _ _ _ (IA.stay hbB) IB).mono ?_); rintro en wC ⟨q3, rfl, IC, hbC⟩; have VC := next VB hbC))
  all_goals go_wp2
  all_goals go_meet
  all_goals exact ⟨_, rfl, rfl, IC.mono hsB, VC⟩
 case rest =>
  obtain ⟨cq, rfl, rfl, hI, hbx⟩ := hcut
  have Dx := D3.stay hbx
  have Rx := R3.stay hbx
  have Vx := next W3 hbx
  clear kS hL1 hL2 hWh D3 R3
  have ⟨d0, _, _, _, _, _⟩ := Dx
  have hSg := bgSignZ_any cq w3.heap.size (rn : Int) wc hI
  have hLm := rdLimbs_any w3.heap.size cq rn wc hI (by omega)
  have hsn := sign_gt rn
  have hz3 := W3.size
  have hzx := hbx.size
  have hz2 := Rx.lt
  have hn : Hid (nzB s rn = (s && decide (rn ≠ 0))) := Lib.hid rfl
  cases s
  ·go_wp2_with fail
   refine hLm.mono ?_
   rintro en w4 ⟨ao, k, c, rfl, F4, hb4⟩
   have ⟨r0, y0⟩ := Rx.stay hb4
   have V4 := next Vx hb4
   go_wp2
   have t0 := World.cell?_setCell_same w4 ⟨w.heap.size + 1, 0, none⟩ (.slice ao k c) r0
   refine bodyPost_ret (v := .tuple #[.bool false, .agg #[.slice ao k c], .bool ex, .int .i64 0]) (by simp [results, Tryz.results90, go_sem, t0]) rfl ⟨ao, k, c, by rw [hn.out]; rfl, (F4.setCell (by simp; omega) _).mono (by omega), V4.setCell (by simp) _⟩
  ·go_wp2_with fail
   refine hSg.mono ?_
   rintro en w4' ⟨rfl, rfl⟩
   go_wp2_with fail
   refine hLm.mono ?_
   rintro en w4 ⟨ao, k, c, rfl, F4, hb4⟩
   have ⟨r0, y0⟩ := Rx.stay hb4
   have V4 := next Vx hb4
   go_wp2
   have t0 := World.cell?_setCell_same w4 ⟨w.heap.size + 1, 0, none⟩ (.slice ao k c) r0
   refine bodyPost_ret (v := .tuple #[.bool (decide ((rn : Int).sign > 0)), .agg #[.slice ao k c], .bool ex, .int .i64 0]) (by simp [results, Tryz.results90, go_sem, t0]) rfl ⟨ao, k, c, by rw [hn.out, hsn]; rfl, (F4.setCell (by simp; omega) _).mono (by omega), V4.setCell (by simp) _⟩
end Go.Proofs.YtklibjdhlmdkpaaGreatDoor
