/-
  The walk of the reference's Value: what any bits of any form are worth.
-/
import Derived.Test.YtnokabglkmiidaaDoorVal
import Derived.Test.YtnokabglkmiidaaDoorFields
import Derived.Test.YtnokabglkmiidaaDoorRefMake
import Derived.Test.YtnokabglkmiidaaDoorFormA
namespace Go.Proofs.YtnokabglkmiidaaDoor
open Go.RowKit Go.Lb

theorem refOf_i (n : Nat) (x : Int) (hx : x = (n : Int)) (w : World) (hn : n < 18446744073709551616) :
    Calls Tryd.prog 45 #[.int .u64 x] w fun e w' => ∃ ao k c, e = .returned (.agg #[.slice ao k c]) ∧ Fr 55 w' w.heap.size ao k c (limbs n) ∧ Below w.heap.size w w' := by
  subst hx
  exact refOf_any n w hn

theorem rfMake_i (neg : Bool) (ao : Option Addr) (n c : Nat) (ys : List Nat) (x y : Int) (hy : y = x) (w : World) (h : Sl w ao n c ys) :
    Calls Tryd.prog 7 #[.bool neg, .agg #[.slice ao n c], .int .i64 y] w (Made neg ys x w) := by
  subst hy
  exact rfMake_any neg ao n c ys y w h

set_option maxRecDepth 100000 in
set_option maxHeartbeats 1600000 in
theorem refValue_no (e f : Int) (b : Nat) (w : World) (h : fitsE e f b ≠ 0) (hb : b < 18446744073709551616) :
    Calls Tryd.prog 13 #[.agg #[.int .i64 e, .int .i64 f], .int .u64 b] w (Valued e f b w) := by
  have hz : (fitsE e f b != 0) = true := by simp [h]
  have Ho := Lib.hid (val_fits h).1
  have He := Lib.hid (val_fits h).2
  go_enter Tryd.func13, Tryd.ntmps13
  go_wp2_with (go_at_call 43; refine (may_any e f b _ hb).mono ?_; rintro en w1 ⟨rfl, hb1⟩; have B := (box3_new _ _ _ _ _).stay hb1; rw [World.size_alloc] at B; have ⟨b0, b1, b2, z0, z1, z2⟩ := B; have hl := B.lt; have hW := next (more (more (Below.refl _ _) _) _) hb1)
  obtain ⟨t0, t1, t2⟩ := B.set (.bool false) (.slice none 0 0) (.int .i64 0)
  refine bodyPost_ret (v := .tuple #[.agg #[.bool false, .slice none 0 0, .int .i64 0], .int .i64 (fitsE e f b)]) (by simp [results, Tryd.results13, go_sem, t0, t1, t2]) rfl (valued_none Ho.out He.out (((hW.setCell (by simp) _).setCell (by simp) _).setCell (by simp) _))

theorem maskI {e : Nat} (h : e ≤ 11) : wrap64 (wrap64 (2 ^ e) - 1) = (maskN e : Int) := by
  have hfin : ∀ k : Fin 12, wrap64 (wrap64 (2 ^ k.val) - 1) = ((2 ^ k.val - 1 : Nat) : Int) := by decide +kernel
  unfold maskN
  exact hfin ⟨e, by omega⟩

set_option maxRecDepth 100000 in
set_option maxHeartbeats 1600000 in
theorem refValue_endless (e f b : Nat) (w : World) (h : formE (e : Int) (f : Int) = 0) (hb : b < 18446744073709551616) (hp : b < pw (1 + e + f)) (hxm : exN e f b = maskN e) :
    Calls Tryd.prog 13 #[.agg #[.int .i64 e, .int .i64 f], .int .u64 b] w (Valued (e : Int) (f : Int) b w) := by
  obtain ⟨h1, h2, h3, h4⟩ := formE_ok h
  have g2 : e ≤ 11 := by omega
  have g3 : f ≤ 52 := by omega
  have hok := fitsE_ok h hp
  have hz : (fitsE (e : Int) (f : Int) b != 0) = false := by simp [hok]
  have Ho := Lib.hid (val_endless hok hxm).1
  have He := Lib.hid (val_endless hok hxm).2
  have hm : ((exN e f b : Int) == wrap64 (wrap64 (2 ^ e) - 1)) = true := by rw [maskI g2, hxm]; simp
  clear h h1 h2 h3 h4 hok hxm
  go_enter Tryd.func13, Tryd.ntmps13
  go_wp2_with (first
    | (go_at_call 43; refine (may_any e f b _ hb).mono ?_; rintro en w1 ⟨rfl, hb1⟩; have A := ((box2_new w (.int .i64 (e : Int)) (.int .i64 (f : Int)) 40).alloc _).stay hb1; have ⟨a0, a1⟩ := A; have B := (box3_new _ _ _ _ _).stay hb1; rw [World.size_alloc] at B; have hW := next (more (more (Below.refl _ _) _) _) hb1)
    | (go_at_call 44; refine (refFields_any e f b _ g2 g3 hb hp).mono ?_; rintro en w2 ⟨rfl, hb2⟩; replace A := A.stay hb2; have ⟨a0, a1⟩ := A; replace B := B.stay hb2; have ⟨b0, b1, b2, z0, z1, z2⟩ := B; replace hW := next hW hb2))
  obtain ⟨t0, t1, t2⟩ := B.set (.bool false) (.slice none 0 0) (.int .i64 0)
  refine bodyPost_ret (v := .tuple #[.agg #[.bool false, .slice none 0 0, .int .i64 0], .int .i64 8]) (by simp [results, Tryd.results13, go_sem, t0, t1, t2]) rfl (valued_none Ho.out He.out (((hW.setCell (by simp) _).setCell (by simp) _).setCell (by simp) _))

/-- What stays through the last statements of the reference's Value: the form, the result's cells. -/
structure RefK (e f h : Nat) (w w' : World) : Prop where
  a0 : w'.cell? ⟨h, 0, none⟩ = some (.int .i64 (e : Int))
  a1 : w'.cell? ⟨h, 1, none⟩ = some (.int .i64 (f : Int))
  bel : Below w.heap.size w w'
  res : Res3 w' (h + 1)
  le : w.heap.size ≤ h

theorem RefK.stay {e f h : Nat} {w wp w' : World} (k : RefK e f h w wp) (hb : Below wp.heap.size wp w') : RefK e f h w w' :=
  ⟨cellStay k.a0 hb, cellStay k.a1 hb, next k.bel hb, k.res.stay hb, k.le⟩
theorem RefK.drew {e f h : Nat} {w wp : World} (k : RefK e f h w wp) : RefK e f h w wp.drew := k.stay ((Below.refl _ _).drew)
theorem RefK.set {e f h : Nat} {w wp : World} (k : RefK e f h w wp) (u v x : Value) : RefK e f h w (((wp.setCell ⟨h + 1, 0, none⟩ u).setCell ⟨h + 1, 1, none⟩ v).setCell ⟨h + 1, 2, none⟩ x) := by
  have hle := k.le
  exact ⟨(cell_set3 (by omega) u v x).trans k.a0, (cell_set3 (by omega) u v x).trans k.a1, ((k.bel.setCell (by simp; omega) _).setCell (by simp; omega) _).setCell (by simp; omega) _, k.res.set u v x, k.le⟩
theorem RefK.conj {e f h : Nat} {w w' : World} (k : RefK e f h w w') :
    w'.cell? ⟨h, 0, none⟩ = some (.int .i64 (e : Int)) ∧ w'.cell? ⟨h, 1, none⟩ = some (.int .i64 (f : Int)) ∧ w'.cell? ⟨h + 1, 0, none⟩ = some (cellOf w' (h + 1) 0) ∧ w'.cell? ⟨h + 1, 1, none⟩ = some (cellOf w' (h + 1) 1) ∧ w'.cell? ⟨h + 1, 2, none⟩ = some (cellOf w' (h + 1) 2) ∧
    w'.frozen? ⟨h + 1, 0, none⟩ = false ∧ w'.frozen? ⟨h + 1, 1, none⟩ = false ∧ w'.frozen? ⟨h + 1, 2, none⟩ = false ∧ RefK e f h w w' :=
  ⟨k.a0, k.a1, k.res.c0, k.res.c1, k.res.c2, k.res.z0, k.res.z1, k.res.z2, k⟩

set_option maxRecDepth 100000 in
set_option maxHeartbeats 4000000 in
theorem refValue_sub (e f b : Nat) (w : World) (h : formE (e : Int) (f : Int) = 0) (hb : b < 18446744073709551616) (hp : b < pw (1 + e + f)) (hx0 : exN e f b = 0) (hxm : exN e f b ≠ maskN e) :
    Calls Tryd.prog 13 #[.agg #[.int .i64 e, .int .i64 f], .int .u64 b] w (Valued (e : Int) (f : Int) b w) := by
  obtain ⟨h1, h2, h3, h4⟩ := formE_ok h
  have g1 : 2 ≤ e := by omega
  have g2 : e ≤ 11 := by omega
  have g3 : f ≤ 52 := by omega
  have hok := fitsE_ok h hp
  have hz : (fitsE (e : Int) (f : Int) b != 0) = false := by simp [hok]
  have hble := biasN_le g2
  have hmb : exN e f b ≤ 2047 := by have := exN_lt e f b; have := pw_le g2; have e11 : pw 11 = 2048 := (by unfold pw; rfl); omega
  have hvn := vN_lt (e := e) (b := b) g3
  have hmant : (frN f b : Int) = ((vN e f b : Nat) : Int) := by unfold vN; rw [if_pos hx0]
  have hexp : 1 - (biasN e : Int) - (f : Int) = vX e f b := by unfold vX; rw [if_pos hx0]
  have Hm := Lib.hid hmant
  have Hx := Lib.hid hexp
  have Hy := Lib.hid (val_yes hok hxm)
  have hm : ((exN e f b : Int) == wrap64 (wrap64 (2 ^ e) - 1)) = false := by rw [maskI g2]; simp; omega
  have hz0 : ((exN e f b : Int) == 0) = true := by simp; omega
  have hw1 : IntKind.i64.wrap (1 - (biasN e : Int)) = 1 - (biasN e : Int) := IntWalk.i64_in _ (by omega)
  have hw2 : IntKind.i64.wrap (1 - (biasN e : Int) - (f : Int)) = 1 - (biasN e : Int) - (f : Int) := IntWalk.i64_in _ (by omega)
  clear h h1 h2 h3 h4 hok hxm hx0 hmant hexp
  go_enter Tryd.func13, Tryd.ntmps13
  go_wp2_with (first
    | (go_at_call 43; refine (may_any e f b _ hb).mono ?_; rintro en w1 ⟨rfl, hb1⟩; have A := ((box2_new w (.int .i64 (e : Int)) (.int .i64 (f : Int)) 40).alloc _).stay hb1; have ⟨a0, a1⟩ := A; have B := (box3_new _ _ _ _ _).stay hb1; rw [World.size_alloc] at B; have hW := next (more (more (Below.refl _ _) _) _) hb1)
    | (go_at_call 44; refine (refFields_any e f b _ g2 g3 hb hp).mono ?_; rintro en w2 ⟨rfl, hb2⟩; replace A := A.stay hb2; have ⟨a0, a1⟩ := A; replace B := B.stay hb2; have ⟨b0, b1, b2, z0, z1, z2⟩ := B; replace hW := next hW hb2))
  have hK : RefK e f w.heap.size w w2 := ⟨a0, a1, hW, B.res, Nat.le_refl _⟩
  clear a0 a1 b0 b1 b2 z0 z1 z2 hW hb1 hb2
  go_region_held3 (fun w' => w'.cell? ⟨w.heap.size, 0, none⟩ = some (.int .i64 (e : Int)) ∧ w'.cell? ⟨w.heap.size, 1, none⟩ = some (.int .i64 (f : Int)) ∧ w'.cell? ⟨w.heap.size + 1, 0, none⟩ = some (cellOf w' (w.heap.size + 1) 0) ∧ w'.cell? ⟨w.heap.size + 1, 1, none⟩ = some (cellOf w' (w.heap.size + 1) 1) ∧ w'.cell? ⟨w.heap.size + 1, 2, none⟩ = some (cellOf w' (w.heap.size + 1) 2) ∧ w'.frozen? ⟨w.heap.size + 1, 0, none⟩ = false ∧ w'.frozen? ⟨w.heap.size + 1, 1, none⟩ = false ∧ w'.frozen? ⟨w.heap.size + 1, 2, none⟩ = false ∧ RefK e f w.heap.size w w')
    ((first | exact RefK.conj hK.drew | (go_split_ands; exact RefK.conj (RefK.stay (by assumption) hbB)) | (go_split_ands; exact RefK.conj (RefK.set (by assumption) _ _ _)) | (go_keep; done)))
    (first | (go_at_call 45; (with_reducible refine (refOf_i (vN e f b) _ Hm.out _ (by omega)).mono ?_); rintro en wB ⟨ao, k, c, rfl, hFo, hbB⟩; have hbO := hbB) | (go_at_call 46; (with_reducible refine (bias_any e f _ g1 g2).mono ?_); rintro en wB ⟨rfl, hbB⟩; replace hFo := hFo.below hbB; have hbI := hbB) | (go_at_call 7; (with_reducible refine (rfMake_i (sgB e f b) ao k c (limbs (vN e f b)) (vX e f b) _ Hx.out _ hFo.sl).mono ?_); rintro en wB ⟨am, nm, cm, rfl, hFm, hbB⟩))
  go_wp2
  have KO := (RefK.stay hK.drew hbO).stay hbI
  have KB := KO.stay hbB
  obtain ⟨q1, q2, q3, q4⟩ := Hy.out
  have KS := KB.set (.bool (mkS (sgB e f b) (limbs (vN e f b)) (vX e f b))) (.slice am nm cm) (.int .i64 (mkX (limbs (vN e f b)) (vX e f b)))
  obtain ⟨t0, t1, t2⟩ := KB.res.box.set (.bool (mkS (sgB e f b) (limbs (vN e f b)) (vX e f b))) (.slice am nm cm) (.int .i64 (mkX (limbs (vN e f b)) (vX e f b)))
  have hlo := KO.res.box.lt
  have hfin := Fr.setCell (Fr.setCell (Fr.setCell hFm (p := ⟨w.heap.size + 1, 0, none⟩) hlo (.bool (mkS (sgB e f b) (limbs (vN e f b)) (vX e f b)))) (p := ⟨w.heap.size + 1, 1, none⟩) hlo (.slice am nm cm)) (p := ⟨w.heap.size + 1, 2, none⟩) hlo (.int .i64 (mkX (limbs (vN e f b)) (vX e f b)))
  refine bodyPost_ret (v := .tuple #[.agg #[.bool (mkS (sgB e f b) (limbs (vN e f b)) (vX e f b)), .slice am nm cm, .int .i64 (mkX (limbs (vN e f b)) (vX e f b))], .int .i64 (mkE (limbs (vN e f b)) (vX e f b))]) ?_ rfl ⟨am, nm, cm, by rw [q2, q3, q4], by rw [q1]; exact hfin.mono (by omega), KS.bel⟩
  clear KS hfin
  simp only [results, Tryd.results13]
  simp [go_sem, t0, t1, t2]

set_option maxRecDepth 100000 in
set_option maxHeartbeats 4000000 in
theorem refValue_normal (e f b : Nat) (w : World) (h : formE (e : Int) (f : Int) = 0) (hb : b < 18446744073709551616) (hp : b < pw (1 + e + f)) (hx0 : exN e f b ≠ 0) (hxm : exN e f b ≠ maskN e) :
    Calls Tryd.prog 13 #[.agg #[.int .i64 e, .int .i64 f], .int .u64 b] w (Valued (e : Int) (f : Int) b w) := by
  obtain ⟨h1, h2, h3, h4⟩ := formE_ok h
  have g1 : 2 ≤ e := by omega
  have g2 : e ≤ 11 := by omega
  have g3 : f ≤ 52 := by omega
  have hok := fitsE_ok h hp
  have hz : (fitsE (e : Int) (f : Int) b != 0) = false := by simp [hok]
  have hble := biasN_le g2
  have hmb : exN e f b ≤ 2047 := by have := exN_lt e f b; have := pw_le g2; have e11 : pw 11 = 2048 := (by unfold pw; rfl); omega
  have hvn := vN_lt (e := e) (b := b) g3
  have hmant : (pw f : Int) + (frN f b : Int) = ((vN e f b : Nat) : Int) := by unfold vN; rw [if_neg hx0]; omega
  have hexp : (exN e f b : Int) - (biasN e : Int) - (f : Int) = vX e f b := by unfold vX; rw [if_neg hx0]
  have Hm := Lib.hid hmant
  have Hx := Lib.hid hexp
  have Hy := Lib.hid (val_yes hok hxm)
  have hm : ((exN e f b : Int) == wrap64 (wrap64 (2 ^ e) - 1)) = false := by rw [maskI g2]; simp; omega
  have hz0 : ((exN e f b : Int) == 0) = false := by simp; omega
  have hw1 : IntKind.i64.wrap (1 - (biasN e : Int)) = 1 - (biasN e : Int) := IntWalk.i64_in _ (by omega)
  have hw2 : IntKind.i64.wrap (1 - (biasN e : Int) - (f : Int)) = 1 - (biasN e : Int) - (f : Int) := IntWalk.i64_in _ (by omega)
  have hw3 : IntKind.i64.wrap ((exN e f b : Int) - (biasN e : Int)) = (exN e f b : Int) - (biasN e : Int) := IntWalk.i64_in _ (by omega)
  have hw4 : IntKind.i64.wrap ((exN e f b : Int) - (biasN e : Int) - (f : Int)) = (exN e f b : Int) - (biasN e : Int) - (f : Int) := IntWalk.i64_in _ (by omega)
  have hw5 := pw_u64 g3
  have hpf : pw f ≤ 4503599627370496 := by have := pw_le g3; rw [show pw 52 = 4503599627370496 by unfold pw; rfl] at this; exact this
  have hfl := frN_lt f b
  have hw6 : IntKind.u64.wrap ((pw f : Int) + (frN f b : Int)) = (pw f : Int) + (frN f b : Int) := IntWalk.u64_in _ (by omega)
  have hw7 : IntKind.u64.wrap (f : Int) = (f : Int) := IntWalk.u64_in _ (by omega)
  have hw8 : min f 64 = f := by omega
  clear h h1 h2 h3 h4 hok hxm hx0 hmant hexp
  go_enter Tryd.func13, Tryd.ntmps13
  go_wp2_with (first
    | (go_at_call 43; refine (may_any e f b _ hb).mono ?_; rintro en w1 ⟨rfl, hb1⟩; have A := ((box2_new w (.int .i64 (e : Int)) (.int .i64 (f : Int)) 40).alloc _).stay hb1; have ⟨a0, a1⟩ := A; have B := (box3_new _ _ _ _ _).stay hb1; rw [World.size_alloc] at B; have hW := next (more (more (Below.refl _ _) _) _) hb1)
    | (go_at_call 44; refine (refFields_any e f b _ g2 g3 hb hp).mono ?_; rintro en w2 ⟨rfl, hb2⟩; replace A := A.stay hb2; have ⟨a0, a1⟩ := A; replace B := B.stay hb2; have ⟨b0, b1, b2, z0, z1, z2⟩ := B; replace hW := next hW hb2))
  have hK : RefK e f w.heap.size w w2 := ⟨a0, a1, hW, B.res, Nat.le_refl _⟩
  clear a0 a1 b0 b1 b2 z0 z1 z2 hW hb1 hb2
  go_region_held3 (fun w' => w'.cell? ⟨w.heap.size, 0, none⟩ = some (.int .i64 (e : Int)) ∧ w'.cell? ⟨w.heap.size, 1, none⟩ = some (.int .i64 (f : Int)) ∧ w'.cell? ⟨w.heap.size + 1, 0, none⟩ = some (cellOf w' (w.heap.size + 1) 0) ∧ w'.cell? ⟨w.heap.size + 1, 1, none⟩ = some (cellOf w' (w.heap.size + 1) 1) ∧ w'.cell? ⟨w.heap.size + 1, 2, none⟩ = some (cellOf w' (w.heap.size + 1) 2) ∧ w'.frozen? ⟨w.heap.size + 1, 0, none⟩ = false ∧ w'.frozen? ⟨w.heap.size + 1, 1, none⟩ = false ∧ w'.frozen? ⟨w.heap.size + 1, 2, none⟩ = false ∧ RefK e f w.heap.size w w')
    ((first | exact RefK.conj hK.drew | (go_split_ands; exact RefK.conj (RefK.stay (by assumption) hbB)) | (go_split_ands; exact RefK.conj (RefK.set (by assumption) _ _ _)) | (go_keep; done)))
    (first | (go_at_call 45; (with_reducible refine (refOf_i (vN e f b) _ Hm.out _ (by omega)).mono ?_); rintro en wB ⟨ao, k, c, rfl, hFo, hbB⟩; have hbO := hbB) | (go_at_call 46; (with_reducible refine (bias_any e f _ g1 g2).mono ?_); rintro en wB ⟨rfl, hbB⟩; replace hFo := hFo.below hbB; have hbI := hbB) | (go_at_call 7; (with_reducible refine (rfMake_i (sgB e f b) ao k c (limbs (vN e f b)) (vX e f b) _ Hx.out _ hFo.sl).mono ?_); rintro en wB ⟨am, nm, cm, rfl, hFm, hbB⟩))
  go_wp2
  have KO := (RefK.stay hK.drew hbO).stay hbI
  have KB := KO.stay hbB
  obtain ⟨q1, q2, q3, q4⟩ := Hy.out
  have KS := KB.set (.bool (mkS (sgB e f b) (limbs (vN e f b)) (vX e f b))) (.slice am nm cm) (.int .i64 (mkX (limbs (vN e f b)) (vX e f b)))
  obtain ⟨t0, t1, t2⟩ := KB.res.box.set (.bool (mkS (sgB e f b) (limbs (vN e f b)) (vX e f b))) (.slice am nm cm) (.int .i64 (mkX (limbs (vN e f b)) (vX e f b)))
  have hlo := KO.res.box.lt
  have hfin := Fr.setCell (Fr.setCell (Fr.setCell hFm (p := ⟨w.heap.size + 1, 0, none⟩) hlo (.bool (mkS (sgB e f b) (limbs (vN e f b)) (vX e f b)))) (p := ⟨w.heap.size + 1, 1, none⟩) hlo (.slice am nm cm)) (p := ⟨w.heap.size + 1, 2, none⟩) hlo (.int .i64 (mkX (limbs (vN e f b)) (vX e f b)))
  refine bodyPost_ret (v := .tuple #[.agg #[.bool (mkS (sgB e f b) (limbs (vN e f b)) (vX e f b)), .slice am nm cm, .int .i64 (mkX (limbs (vN e f b)) (vX e f b))], .int .i64 (mkE (limbs (vN e f b)) (vX e f b))]) ?_ rfl ⟨am, nm, cm, by rw [q2, q3, q4], by rw [q1]; exact hfin.mono (by omega), KS.bel⟩
  clear KS hfin
  simp only [results, Tryd.results13]
  simp [go_sem, t0, t1, t2]

end Go.Proofs.YtnokabglkmiidaaDoor
