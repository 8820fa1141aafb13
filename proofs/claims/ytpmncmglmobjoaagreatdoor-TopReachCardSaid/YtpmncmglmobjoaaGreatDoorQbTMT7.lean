/-
  What any bits of any form are worth: the words, and the walk of exact.Value. The walk of exact.Value of what is not finite; exact.Value of any bits of any form. The walk of the reference's Value: what any bits of any form are worth.
-/
import Derived.Test.YtpmncmglmobjoaaGreatDoorQbTSplits
import Derived.Test.YtpmncmglmobjoaaGreatDoorQbTMT5
set_option maxHeartbeats 4000000
set_option maxRecDepth 100000
namespace Go.Proofs.YtpmncmglmobjoaaGreatDoor
open Go.RowKit Go.Lb
def vN (e f b : Nat) : Nat := if exN e f b = 0 then frN f b else pw f + frN f b
def vX (e f b : Nat) : Int := if exN e f b = 0 then 1 - (biasN e : Int) - (f : Int) else (exN e f b : Int) - (biasN e : Int) - (f : Int)
def valOk (e f : Int) (b : Nat) : Bool := decide (fitsE e f b = 0 ∧ exN e.toNat f.toNat b ≠ maskN e.toNat)
def valE (e f : Int) (b : Nat) : Int := if fitsE e f b ≠ 0 then fitsE e f b else if exN e.toNat f.toNat b = maskN e.toNat then 8 else mkE (limbs (vN e.toNat f.toNat b)) (vX e.toNat f.toNat b)
def valN (e f : Int) (b : Nat) : Nat := if valOk e f b = true then mkN (limbs (vN e.toNat f.toNat b)) (vX e.toNat f.toNat b) else 0
def valX (e f : Int) (b : Nat) : Int := if valOk e f b = true then mkX (limbs (vN e.toNat f.toNat b)) (vX e.toNat f.toNat b) else 0
def valS (e f : Int) (b : Nat) : Bool := if valOk e f b = true then mkS (sgB e.toNat f.toNat b) (limbs (vN e.toNat f.toNat b)) (vX e.toNat f.toNat b) else false
def Valued (e f : Int) (b : Nat) (w : World) (en : Ending) (w' : World) : Prop :=
 ∃ ao n c, en = .returned (.tuple #[.agg #[.bool (valS e f b), .slice ao n c, .int .i64 (valX e f b)], .int .i64 (valE e f b)]) ∧ Fr 40 w' w.heap.size ao n c (limbs (valN e f b)) ∧ Below w.heap.size w w'
theorem val_no {e f : Int} {b : Nat} (h : valOk e f b = false) : valN e f b = 0 ∧ valX e f b = 0 ∧ valS e f b = false := by
 unfold valN valX valS
 rw [h]
 exact ⟨rfl, rfl, rfl⟩
theorem valued_none {e f : Int} {b : Nat} {w w' : World} {er : Int} (h : valOk e f b = false) (he : valE e f b = er) (hW : Below w.heap.size w w') :
 Valued e f b w (.returned (.tuple #[.agg #[.bool false, .slice none 0 0, .int .i64 0], .int .i64 er])) w' := by
 obtain ⟨h1, h2, h3⟩ := val_no h
 exact ⟨none, 0, 0, by rw [h2, h3, he], by rw [h1]; exact fr_nil _ _ _, hW⟩
theorem val_fits {e f : Int} {b : Nat} (h : fitsE e f b ≠ 0) : valOk e f b = false ∧ valE e f b = fitsE e f b := by
 refine ⟨decide_eq_false fun hh => h hh.1, ?_⟩
 unfold valE
 rw [if_pos h]
theorem val_endless {e f b : Nat} (h : fitsE (e : Int) (f : Int) b = 0) (hx : exN e f b = maskN e) : valOk (e : Int) (f : Int) b = false ∧ valE (e : Int) (f : Int) b = 8 := by
 refine ⟨decide_eq_false fun hh => hh.2 (by simpa using hx), ?_⟩
 unfold valE
 rw [if_neg (by simp [h]), if_pos (by simpa using hx)]
theorem val_yes {e f b : Nat} (h : fitsE (e : Int) (f : Int) b = 0) (hx : exN e f b ≠ maskN e) :
 valN (e : Int) (f : Int) b = mkN (limbs (vN e f b)) (vX e f b) ∧ valX (e : Int) (f : Int) b = mkX (limbs (vN e f b)) (vX e f b) ∧ valS (e : Int) (f : Int) b = mkS (sgB e f b) (limbs (vN e f b)) (vX e f b) ∧ valE (e : Int) (f : Int) b = mkE (limbs (vN e f b)) (vX e f b) := by
 have ho : valOk (e : Int) (f : Int) b = true := decide_eq_true ⟨h, by simpa using hx⟩
 unfold valN valX valS valE
 rw [if_pos ho, if_pos ho, if_pos ho, if_neg (by simp [h]), if_neg (by simpa using hx)]
 simp
theorem value_no (e f : Int) (b : Nat) (w : World) (h : fitsE e f b ≠ 0) (hb : b < 18446744073709551616) :
 Calls Tryz.prog 34 #[.agg #[.int .i64 e, .int .i64 f], .int .u64 b] w (Valued e f b w) := by
 have hz : (fitsE e f b != 0) = true := by simp [h]
 have Ho := Lib.hid (val_fits h).1
 have He := Lib.hid (val_fits h).2
 go_enter Tryz.func34, Tryz.ntmps34
 go_wp2_with (go_at_call 65; refine (split_no e f b _ h hb).mono ?_; rintro en w1 ⟨rfl, hb1⟩; have B := (box3_new _ _ _ _ _).stay hb1; rw [World.size_alloc] at B; have ⟨b0, b1, b2, z0, z1, z2⟩ := B; have hl := B.lt; have hW := next (more (more (Below.refl _ _) _) _) hb1)
 obtain ⟨t0, t1, t2⟩ := B.set (.bool false) (.slice none 0 0) (.int .i64 0)
 refine bodyPost_ret (v := .tuple #[.agg #[.bool false, .slice none 0 0, .int .i64 0], .int .i64 (fitsE e f b)]) (by simp [results, Tryz.results34, go_sem, t0, t1, t2, hl]) rfl (valued_none Ho.out He.out (more (((hW.setCell (by simp) _).setCell (by simp) _).setCell (by simp) _) _))
theorem natOf_i (n : Nat) (x : Int) (hx : x = (n : Int)) (w : World) (hn : n < 18446744073709551616) :
 Calls Tryz.prog 36 #[.int .u64 x] w fun e w' => ∃ ao k c, e = .returned (.agg #[.slice ao k c]) ∧ Fr 40 w' w.heap.size ao k c (limbs n) ∧ Below w.heap.size w w' := by
 subst hx
 exact natOf_any n w hn
theorem exMake_i (neg : Bool) (ao : Option Addr) (n c : Nat) (ys : List Nat) (x y : Int) (hy : y = x) (w : World) (h : Sl w ao n c ys) (hT : Tab w) :
 Calls Tryz.prog 35 #[.bool neg, .agg #[.slice ao n c], .int .i64 y] w (Made neg ys x w) := by
 subst hy
 exact exMake_any neg ao n c ys y w h hT
structure ValK (sg : Bool) (h p : Nat) (w w' : World) : Prop where
 p0 : w'.cell? ⟨p, 0, none⟩ = some (.bool sg)
 tab : Tab w'
 bel : Below w.heap.size w w'
 res : Res3 w' (h + 1)
 ne : p ≠ h + 1
 le : w.heap.size ≤ h
 tl : 0 < w.heap.size
theorem ValK.stay {sg : Bool} {h p : Nat} {w wp w' : World} (k : ValK sg h p w wp) (hb : Below wp.heap.size wp w') : ValK sg h p w w' :=
 ⟨cellStay k.p0 hb, k.tab.below hb, next k.bel hb, k.res.stay hb, k.ne, k.le, k.tl⟩
theorem ValK.drew {sg : Bool} {h p : Nat} {w wp : World} (k : ValK sg h p w wp) : ValK sg h p w wp.drew := k.stay ((Below.refl _ _).drew)
theorem ValK.set {sg : Bool} {h p : Nat} {w wp : World} (k : ValK sg h p w wp) (u v x : Value) : ValK sg h p w (((wp.setCell ⟨h + 1, 0, none⟩ u).setCell ⟨h + 1, 1, none⟩ v).setCell ⟨h + 1, 2, none⟩ x) := by
 have hle := k.le
 have htl := k.tl
 exact ⟨(cell_set3 k.ne u v x).trans k.p0, fun j hj => (cell_set3 (by omega) u v x).trans (k.tab j hj), ((k.bel.setCell (by simp; omega) _).setCell (by simp; omega) _).setCell (by simp; omega) _, k.res.set u v x, k.ne, k.le, k.tl⟩
theorem ValK.conj {sg : Bool} {h p : Nat} {w w' : World} (k : ValK sg h p w w') :
 w'.cell? ⟨p, 0, none⟩ = some (.bool sg) ∧ w'.cell? ⟨h + 1, 0, none⟩ = some (cellOf w' (h + 1) 0) ∧ w'.cell? ⟨h + 1, 1, none⟩ = some (cellOf w' (h + 1) 1) ∧ w'.cell? ⟨h + 1, 2, none⟩ = some (cellOf w' (h + 1) 2) ∧
 w'.frozen? ⟨h + 1, 0, none⟩ = false ∧ w'.frozen? ⟨h + 1, 1, none⟩ = false ∧ w'.frozen? ⟨h + 1, 2, none⟩ = false ∧ ValK sg h p w w' :=
 ⟨k.p0, k.res.c0, k.res.c1, k.res.c2, k.res.z0, k.res.z1, k.res.z2, k⟩
theorem Tab.lt {w : World} (h : Tab w) : 0 < w.heap.size := World.block_lt_of_cell? _ _ (h 0 (by decide))
theorem frN_lt (f b : Nat) : frN f b < pw f := takeN_lt b 0 f
theorem mant_or {f m : Nat} (hf : f ≤ 52) (hm : m < pw f) : bits BinOp.or IntKind.u64 (m : Int) (IntKind.u64.wrap (2 ^ f)) = ((pw f + m : Nat) : Int) := by
 have hp : pw f ≤ 4503599627370496 := by have := pw_le hf; rw [show pw 52 = 4503599627370496 by unfold pw; rfl] at this; exact this
 have hw : IntKind.u64.wrap (2 ^ f) = ((pw f : Nat) : Int) := by
  rw [show (2 : Int) ^ f = ((pw f : Nat) : Int) by unfold pw; rw [Int.natCast_pow]; rfl]
  exact IntWalk.u64_in _ (by omega)
 rw [hw, u64_or_nat _ _ (by omega) (by omega), Nat.or_comm]
 have := Nat.two_pow_add_eq_or_of_lt (i := f) (b := m) (by unfold pw at hm; exact hm) 1
 rw [Nat.mul_one] at this
 unfold pw
 rw [← this]
theorem bias_two {e : Nat} (h1 : 2 ≤ e) (h : e ≤ 11) : wrap64 (2 - wrap64 (2 ^ (e - 1))) = 1 - (biasN e : Int) := by
 have hfin : ∀ k : Fin 12, wrap64 (2 - wrap64 (2 ^ (k.val - 1))) = 1 - ((2 ^ (k.val - 1) - 1 : Nat) : Int) := by decide +kernel
 unfold biasN
 exact hfin ⟨e, by omega⟩
theorem vN_lt {e f b : Nat} (hf : f ≤ 52) : vN e f b < 9007199254740992 := by
 have hp : pw f ≤ 4503599627370496 := by have := pw_le hf; rw [show pw 52 = 4503599627370496 by unfold pw; rfl] at this; exact this
 have := frN_lt f b
 unfold vN
 split <;> omega
theorem value_normal (e f b : Nat) (w : World) (h : formE (e : Int) (f : Int) = 0) (hb : b < 18446744073709551616) (hp : b < pw (1 + e + f)) (hx0 : exN e f b ≠ 0) (hxm : exN e f b ≠ maskN e) (hT : Tab w) :
 Calls Tryz.prog 34 #[.agg #[.int .i64 e, .int .i64 f], .int .u64 b] w (Valued (e : Int) (f : Int) b w) := by
 obtain ⟨h1, h2, h3, h4⟩ := formE_ok h
 have g1 : 2 ≤ e := by omega
 have g2 : e ≤ 11 := by omega
 have g3 : f ≤ 52 := by omega
 have hble := biasN_le g2
 have hmb : exN e f b ≤ 2047 := by have := exN_lt e f b; have := pw_le g2; have e11 : pw 11 = 2048 := (by unfold pw; rfl); omega
 have hc : classN e (exN e f b) (frN f b) = 3 := by unfold classN; rw [if_neg hx0, if_neg hxm]
 have cl := class_any e f b
 rw [hc] at cl
 have hvn := vN_lt (e := e) (b := b) g3
 have hmant : bits BinOp.or IntKind.u64 (frN f b : Int) (IntKind.u64.wrap (2 ^ f)) = ((vN e f b : Nat) : Int) := by rw [mant_or g3 (frN_lt f b)]; unfold vN; rw [if_neg hx0]
 have hexp : wrap64 (wrap64 (wrap64 (2 - wrap64 (2 ^ (e - 1))) - (f : Int)) + ((exN e f b : Int) - 1)) = vX e f b := by 
  unfold vX
  rw [if_neg hx0, bias_two g1 g2, IntWalk.wrap64_in (1 - (biasN e : Int) - f) ⟨by omega, by omega⟩, IntWalk.wrap64_in _ ⟨by omega, by omega⟩]
  omega
 have Hm := Lib.hid hmant
 have Hx := Lib.hid hexp
 have Hy := Lib.hid (val_yes (fitsE_ok h hp) hxm)
 have htl := hT.lt
 clear h1 h2 h3 h4 hc hmant hexp hx0 hxm
 go_enter Tryz.func34, Tryz.ntmps34
 go_wp2_with (first
  | (go_at_call 65; refine (split_any e f b _ h hb hp).mono ?_; rintro en w1 ⟨rfl, hb1⟩; have A := ((box2_new w (.int .i64 (e : Int)) (.int .i64 (f : Int)) 23).alloc _).stay hb1; have ⟨a0, a1⟩ := A; have B := (box3_new _ _ _ _ _).stay hb1; rw [World.size_alloc] at B; have ⟨b0, b1, b2, z0, z1, z2⟩ := B; have hl := A.lt; have hl2 := B.lt; have hW := next (more (more (Below.refl _ _) _) _) hb1)
  | (go_at_call 33; refine (cl _ h hb hp).mono ?_; rintro en w2 ⟨rfl, hb2⟩; have P := (box3_new w1 (.bool (sgB e f b)) (.int .i64 (exN e f b : Int)) (.int .u64 (frN f b : Int)) 104).stay hb2; have ⟨p0, p1, p2, _, _, _⟩ := P; replace A := (A.alloc _).stay hb2; have ⟨a0, a1⟩ := A; replace B := (B.alloc _).stay hb2; have ⟨b0, b1, b2, z0, z1, z2⟩ := B; replace hW := next (more hW _) hb2))
 go_quiet (fail)
 go_wp2
 have hK : ValK (sgB e f b) w.heap.size w1.heap.size w (w2.drewN nq) := ValK.stay ⟨p0, hT.below hW, hW, B.res, by omega, Nat.le_refl _, htl⟩ (below_drewN (Below.refl _ _) _)
 clear a0 a1 b0 b1 b2 z0 z1 z2 p0 p1 p2 hW hb1 hb2
 go_region_held3 (fun w' => w'.cell? ⟨w1.heap.size, 0, none⟩ = some (.bool (sgB e f b)) ∧ w'.cell? ⟨w.heap.size + 1, 0, none⟩ = some (cellOf w' (w.heap.size + 1) 0) ∧ w'.cell? ⟨w.heap.size + 1, 1, none⟩ = some (cellOf w' (w.heap.size + 1) 1) ∧ w'.cell? ⟨w.heap.size + 1, 2, none⟩ = some (cellOf w' (w.heap.size + 1) 2) ∧ w'.frozen? ⟨w.heap.size + 1, 0, none⟩ = false ∧ w'.frozen? ⟨w.heap.size + 1, 1, none⟩ = false ∧ w'.frozen? ⟨w.heap.size + 1, 2, none⟩ = false ∧ ValK (sgB e f b) w.heap.size w1.heap.size w w')
  ((first | exact ValK.conj hK.drew | (go_split_ands; exact ValK.conj (ValK.stay (by assumption) hbB)) | (go_split_ands; exact ValK.conj (ValK.set (by assumption) _ _ _)) | (go_keep; done)))
  (first | (go_at_call 36; (with_reducible refine (natOf_i (vN e f b) _ Hm.out _ (by omega)).mono ?_); rintro en wB ⟨ao, k, c, rfl, hFo, hbB⟩; have hbO := hbB) | (go_at_call 35; (with_reducible refine (exMake_i (sgB e f b) ao k c (limbs (vN e f b)) (vX e f b) _ Hx.out _ hFo.sl ?_).mono ?_); (go_split_ands; exact ValK.tab (by assumption)); rintro en wB ⟨am, nm, cm, rfl, hFm, hbB⟩))
 go_wp2
 have KO := ValK.stay hK.drew hbO
 have KB := KO.stay hbB
 obtain ⟨q1, q2, q3, q4⟩ := Hy.out
 have KS := KB.set (.bool (mkS (sgB e f b) (limbs (vN e f b)) (vX e f b))) (.slice am nm cm) (.int .i64 (mkX (limbs (vN e f b)) (vX e f b)))
 obtain ⟨t0, t1, t2⟩ := KB.res.box.set (.bool (mkS (sgB e f b) (limbs (vN e f b)) (vX e f b))) (.slice am nm cm) (.int .i64 (mkX (limbs (vN e f b)) (vX e f b)))
 have hlo := KO.res.box.lt
 have hfin := Fr.setCell (Fr.setCell (Fr.setCell hFm (p := ⟨w.heap.size + 1, 0, none⟩) hlo (.bool (mkS (sgB e f b) (limbs (vN e f b)) (vX e f b)))) (p := ⟨w.heap.size + 1, 1, none⟩) hlo (.slice am nm cm)) (p := ⟨w.heap.size + 1, 2, none⟩) hlo (.int .i64 (mkX (limbs (vN e f b)) (vX e f b)))
 refine bodyPost_ret (v := .tuple #[.agg #[.bool (mkS (sgB e f b) (limbs (vN e f b)) (vX e f b)), .slice am nm cm, .int .i64 (mkX (limbs (vN e f b)) (vX e f b))], .int .i64 (mkE (limbs (vN e f b)) (vX e f b))]) ?_ rfl ⟨am, nm, cm, by rw [q2, q3, q4], by rw [q1]; exact hfin.mono (by omega), KS.bel⟩
 clear KS hfin
 simp only [results, Tryz.results34]
 simp [go_sem, t0, t1, t2]
theorem value_small (e f b : Nat) (w : World) (h : formE (e : Int) (f : Int) = 0) (hb : b < 18446744073709551616) (hp : b < pw (1 + e + f)) (hx0 : exN e f b = 0) (hf0 : frN f b ≠ 0) (hxm : exN e f b ≠ maskN e) (hT : Tab w) :
 Calls Tryz.prog 34 #[.agg #[.int .i64 e, .int .i64 f], .int .u64 b] w (Valued (e : Int) (f : Int) b w) := by
 obtain ⟨h1, h2, h3, h4⟩ := formE_ok h
 have g1 : 2 ≤ e := by omega
 have g2 : e ≤ 11 := by omega
 have g3 : f ≤ 52 := by omega
 have hble := biasN_le g2
 have hmb : exN e f b ≤ 2047 := by have := exN_lt e f b; have := pw_le g2; have e11 : pw 11 = 2048 := (by unfold pw; rfl); omega
 have hc : classN e (exN e f b) (frN f b) = 2 := by unfold classN; rw [if_pos hx0, if_neg hf0]
 have cl := class_any e f b
 rw [hc] at cl
 have hvn := vN_lt (e := e) (b := b) g3
 have hmant : (frN f b : Int) = ((vN e f b : Nat) : Int) := by unfold vN; rw [if_pos hx0]
 have hexp : wrap64 (wrap64 (2 - wrap64 (2 ^ (e - 1))) - (f : Int)) = vX e f b := by 
  unfold vX
  rw [if_pos hx0, bias_two g1 g2, IntWalk.wrap64_in _ ⟨by omega, by omega⟩]
 have Hm := Lib.hid hmant
 have Hx := Lib.hid hexp
 have Hy := Lib.hid (val_yes (fitsE_ok h hp) hxm)
 have htl := hT.lt
 clear h1 h2 h3 h4 hc hmant hexp hx0 hxm hf0
 go_enter Tryz.func34, Tryz.ntmps34
 go_wp2_with (first
  | (go_at_call 65; refine (split_any e f b _ h hb hp).mono ?_; rintro en w1 ⟨rfl, hb1⟩; have A := ((box2_new w (.int .i64 (e : Int)) (.int .i64 (f : Int)) 23).alloc _).stay hb1; have ⟨a0, a1⟩ := A; have B := (box3_new _ _ _ _ _).stay hb1; rw [World.size_alloc] at B; have ⟨b0, b1, b2, z0, z1, z2⟩ := B; have hl := A.lt; have hl2 := B.lt; have hW := next (more (more (Below.refl _ _) _) _) hb1)
  | (go_at_call 33; refine (cl _ h hb hp).mono ?_; rintro en w2 ⟨rfl, hb2⟩; have P := (box3_new w1 (.bool (sgB e f b)) (.int .i64 (exN e f b : Int)) (.int .u64 (frN f b : Int)) 104).stay hb2; have ⟨p0, p1, p2, _, _, _⟩ := P; replace A := (A.alloc _).stay hb2; have ⟨a0, a1⟩ := A; replace B := (B.alloc _).stay hb2; have ⟨b0, b1, b2, z0, z1, z2⟩ := B; replace hW := next (more hW _) hb2))
 go_quiet (fail)
 go_wp2
 have hK : ValK (sgB e f b) w.heap.size w1.heap.size w (w2.drewN nq) := ValK.stay ⟨p0, hT.below hW, hW, B.res, by omega, Nat.le_refl _, htl⟩ (below_drewN (Below.refl _ _) _)
 clear a0 a1 b0 b1 b2 z0 z1 z2 p0 p1 p2 hW hb1 hb2
 go_region_held3 (fun w' => w'.cell? ⟨w1.heap.size, 0, none⟩ = some (.bool (sgB e f b)) ∧ w'.cell? ⟨w.heap.size + 1, 0, none⟩ = some (cellOf w' (w.heap.size + 1) 0) ∧ w'.cell? ⟨w.heap.size + 1, 1, none⟩ = some (cellOf w' (w.heap.size + 1) 1) ∧ w'.cell? ⟨w.heap.size + 1, 2, none⟩ = some (cellOf w' (w.heap.size + 1) 2) ∧ w'.frozen? ⟨w.heap.size + 1, 0, none⟩ = false ∧ w'.frozen? ⟨w.heap.size + 1, 1, none⟩ = false ∧ w'.frozen? ⟨w.heap.size + 1, 2, none⟩ = false ∧ ValK (sgB e f b) w.heap.size w1.heap.size w w')
  ((first | exact ValK.conj hK.drew | (go_split_ands; exact ValK.conj (ValK.stay (by assumption) hbB)) | (go_split_ands; exact ValK.conj (ValK.set (by assumption) _ _ _)) | (go_keep; done)))
  (first | (go_at_call 36; (with_reducible refine (natOf_i (vN e f b) _ Hm.out _ (by omega)).mono ?_); rintro en wB ⟨ao, k, c, rfl, hFo, hbB⟩; have hbO := hbB) | (go_at_call 35; (with_reducible refine (exMake_i (sgB e f b) ao k c (limbs (vN e f b)) (vX e f b) _ Hx.out _ hFo.sl ?_).mono ?_); (go_split_ands; exact ValK.tab (by assumption)); rintro en wB ⟨am, nm, cm, rfl, hFm, hbB⟩))
 go_wp2
 have KO := ValK.stay hK.drew hbO
 have KB := KO.stay hbB
 obtain ⟨q1, q2, q3, q4⟩ := Hy.out
 have KS := KB.set (.bool (mkS (sgB e f b) (limbs (vN e f b)) (vX e f b))) (.slice am nm cm) (.int .i64 (mkX (limbs (vN e f b)) (vX e f b)))
 obtain ⟨t0, t1, t2⟩ := KB.res.box.set (.bool (mkS (sgB e f b) (limbs (vN e f b)) (vX e f b))) (.slice am nm cm) (.int .i64 (mkX (limbs (vN e f b)) (vX e f b)))
 have hlo := KO.res.box.lt
 have hfin := Fr.setCell (Fr.setCell (Fr.setCell hFm (p := ⟨w.heap.size + 1, 0, none⟩) hlo (.bool (mkS (sgB e f b) (limbs (vN e f b)) (vX e f b)))) (p := ⟨w.heap.size + 1, 1, none⟩) hlo (.slice am nm cm)) (p := ⟨w.heap.size + 1, 2, none⟩) hlo (.int .i64 (mkX (limbs (vN e f b)) (vX e f b)))
 refine bodyPost_ret (v := .tuple #[.agg #[.bool (mkS (sgB e f b) (limbs (vN e f b)) (vX e f b)), .slice am nm cm, .int .i64 (mkX (limbs (vN e f b)) (vX e f b))], .int .i64 (mkE (limbs (vN e f b)) (vX e f b))]) ?_ rfl ⟨am, nm, cm, by rw [q2, q3, q4], by rw [q1]; exact hfin.mono (by omega), KS.bel⟩
 clear KS hfin
 simp only [results, Tryz.results34]
 simp [go_sem, t0, t1, t2]
theorem value_zero (e f b : Nat) (w : World) (h : formE (e : Int) (f : Int) = 0) (hb : b < 18446744073709551616) (hp : b < pw (1 + e + f)) (hx0 : exN e f b = 0) (hf0 : frN f b = 0) (hxm : exN e f b ≠ maskN e) (hT : Tab w) :
 Calls Tryz.prog 34 #[.agg #[.int .i64 e, .int .i64 f], .int .u64 b] w (Valued (e : Int) (f : Int) b w) := by
 obtain ⟨h1, h2, h3, h4⟩ := formE_ok h
 have g1 : 2 ≤ e := by omega
 have g2 : e ≤ 11 := by omega
 have g3 : f ≤ 52 := by omega
 have hble := biasN_le g2
 have hmb : exN e f b ≤ 2047 := by have := exN_lt e f b; have := pw_le g2; have e11 : pw 11 = 2048 := (by unfold pw; rfl); omega
 have hc : classN e (exN e f b) (frN f b) = 1 := by unfold classN; rw [if_pos hx0, if_pos hf0]
 have cl := class_any e f b
 rw [hc] at cl
 have hvn := vN_lt (e := e) (b := b) g3
 have hmant : (frN f b : Int) = ((vN e f b : Nat) : Int) := by unfold vN; rw [if_pos hx0]
 have hexp : wrap64 (wrap64 (2 - wrap64 (2 ^ (e - 1))) - (f : Int)) = vX e f b := by 
  unfold vX
  rw [if_pos hx0, bias_two g1 g2, IntWalk.wrap64_in _ ⟨by omega, by omega⟩]
 have Hm := Lib.hid hmant
 have Hx := Lib.hid hexp
 have Hy := Lib.hid (val_yes (fitsE_ok h hp) hxm)
 have htl := hT.lt
 clear h1 h2 h3 h4 hc hmant hexp hx0 hxm hf0
 go_enter Tryz.func34, Tryz.ntmps34
 go_wp2_with (first
  | (go_at_call 65; refine (split_any e f b _ h hb hp).mono ?_; rintro en w1 ⟨rfl, hb1⟩; have A := ((box2_new w (.int .i64 (e : Int)) (.int .i64 (f : Int)) 23).alloc _).stay hb1; have ⟨a0, a1⟩ := A; have B := (box3_new _ _ _ _ _).stay hb1; rw [World.size_alloc] at B; have ⟨b0, b1, b2, z0, z1, z2⟩ := B; have hl := A.lt; have hl2 := B.lt; have hW := next (more (more (Below.refl _ _) _) _) hb1)
  | (go_at_call 33; refine (cl _ h hb hp).mono ?_; rintro en w2 ⟨rfl, hb2⟩; have P := (box3_new w1 (.bool (sgB e f b)) (.int .i64 (exN e f b : Int)) (.int .u64 (frN f b : Int)) 104).stay hb2; have ⟨p0, p1, p2, _, _, _⟩ := P; replace A := (A.alloc _).stay hb2; have ⟨a0, a1⟩ := A; replace B := (B.alloc _).stay hb2; have ⟨b0, b1, b2, z0, z1, z2⟩ := B; replace hW := next (more hW _) hb2))
 go_quiet (fail)
 go_wp2
 have hK : ValK (sgB e f b) w.heap.size w1.heap.size w (w2.drewN nq) := ValK.stay ⟨p0, hT.below hW, hW, B.res, by omega, Nat.le_refl _, htl⟩ (below_drewN (Below.refl _ _) _)
 clear a0 a1 b0 b1 b2 z0 z1 z2 p0 p1 p2 hW hb1 hb2
 go_region_held3 (fun w' => w'.cell? ⟨w1.heap.size, 0, none⟩ = some (.bool (sgB e f b)) ∧ w'.cell? ⟨w.heap.size + 1, 0, none⟩ = some (cellOf w' (w.heap.size + 1) 0) ∧ w'.cell? ⟨w.heap.size + 1, 1, none⟩ = some (cellOf w' (w.heap.size + 1) 1) ∧ w'.cell? ⟨w.heap.size + 1, 2, none⟩ = some (cellOf w' (w.heap.size + 1) 2) ∧ w'.frozen? ⟨w.heap.size + 1, 0, none⟩ = false ∧ w'.frozen? ⟨w.heap.size + 1, 1, none⟩ = false ∧ w'.frozen? ⟨w.heap.size + 1, 2, none⟩ = false ∧ ValK (sgB e f b) w.heap.size w1.heap.size w w')
  ((first | exact ValK.conj hK.drew | (go_split_ands; exact ValK.conj (ValK.stay (by assumption) hbB)) | (go_split_ands; exact ValK.conj (ValK.set (by assumption) _ _ _)) | (go_keep; done)))
  (first | (go_at_call 36; (with_reducible refine (natOf_i (vN e f b) _ Hm.out _ (by omega)).mono ?_); rintro en wB ⟨ao, k, c, rfl, hFo, hbB⟩; have hbO := hbB) | (go_at_call 35; (with_reducible refine (exMake_i (sgB e f b) ao k c (limbs (vN e f b)) (vX e f b) _ Hx.out _ hFo.sl ?_).mono ?_); (go_split_ands; exact ValK.tab (by assumption)); rintro en wB ⟨am, nm, cm, rfl, hFm, hbB⟩))
 go_wp2
 have KO := ValK.stay hK.drew hbO
 have KB := KO.stay hbB
 obtain ⟨q1, q2, q3, q4⟩ := Hy.out
 have KS := KB.set (.bool (mkS (sgB e f b) (limbs (vN e f b)) (vX e f b))) (.slice am nm cm) (.int .i64 (mkX (limbs (vN e f b)) (vX e f b)))
 obtain ⟨t0, t1, t2⟩ := KB.res.box.set (.bool (mkS (sgB e f b) (limbs (vN e f b)) (vX e f b))) (.slice am nm cm) (.int .i64 (mkX (limbs (vN e f b)) (vX e f b)))
 have hlo := KO.res.box.lt
 have hfin := Fr.setCell (Fr.setCell (Fr.setCell hFm (p := ⟨w.heap.size + 1, 0, none⟩) hlo (.bool (mkS (sgB e f b) (limbs (vN e f b)) (vX e f b)))) (p := ⟨w.heap.size + 1, 1, none⟩) hlo (.slice am nm cm)) (p := ⟨w.heap.size + 1, 2, none⟩) hlo (.int .i64 (mkX (limbs (vN e f b)) (vX e f b)))
 refine bodyPost_ret (v := .tuple #[.agg #[.bool (mkS (sgB e f b) (limbs (vN e f b)) (vX e f b)), .slice am nm cm, .int .i64 (mkX (limbs (vN e f b)) (vX e f b))], .int .i64 (mkE (limbs (vN e f b)) (vX e f b))]) ?_ rfl ⟨am, nm, cm, by rw [q2, q3, q4], by rw [q1]; exact hfin.mono (by omega), KS.bel⟩
 clear KS hfin
 simp only [results, Tryz.results34]
 simp [go_sem, t0, t1, t2]
theorem value_inf (e f b : Nat) (w : World) (h : formE (e : Int) (f : Int) = 0) (hb : b < 18446744073709551616) (hp : b < pw (1 + e + f)) (hxm : exN e f b = maskN e) (hf0 : frN f b = 0) :
 Calls Tryz.prog 34 #[.agg #[.int .i64 e, .int .i64 f], .int .u64 b] w (Valued (e : Int) (f : Int) b w) := by
 obtain ⟨h1, h2, h3, h4⟩ := formE_ok h
 have g1 : 2 ≤ e := by omega
 have g2 : e ≤ 11 := by omega
 have g3 : f ≤ 52 := by omega
 have hx0 : exN e f b ≠ 0 := by
  have := pw_le (show 2 ≤ e by omega)
  rw [show pw 2 = 4 by unfold pw; rfl] at this
  rw [hxm, maskN_eq]
  omega
 have hc : classN e (exN e f b) (frN f b) = 4 := by unfold classN; rw [if_neg hx0, if_pos hxm, if_pos hf0]
 have cl := class_any e f b
 rw [hc] at cl
 have Ho := Lib.hid (val_endless (fitsE_ok h hp) hxm).1
 have He := Lib.hid (val_endless (fitsE_ok h hp) hxm).2
 clear h1 h2 h3 h4 hc hx0 hxm hf0
 go_enter Tryz.func34, Tryz.ntmps34
 go_wp2_with (first
  | (go_at_call 65; refine (split_any e f b _ h hb hp).mono ?_; rintro en w1 ⟨rfl, hb1⟩; have A := ((box2_new w (.int .i64 (e : Int)) (.int .i64 (f : Int)) 23).alloc _).stay hb1; have ⟨a0, a1⟩ := A; have B := (box3_new _ _ _ _ _).stay hb1; rw [World.size_alloc] at B; have ⟨b0, b1, b2, z0, z1, z2⟩ := B; have hl := A.lt; have hl2 := B.lt; have hW := next (more (more (Below.refl _ _) _) _) hb1)
  | (go_at_call 33; refine (cl _ h hb hp).mono ?_; rintro en w2 ⟨rfl, hb2⟩; have P := (box3_new w1 (.bool (sgB e f b)) (.int .i64 (exN e f b : Int)) (.int .u64 (frN f b : Int)) 104).stay hb2; have ⟨p0, p1, p2, _, _, _⟩ := P; replace A := (A.alloc _).stay hb2; have ⟨a0, a1⟩ := A; replace B := (B.alloc _).stay hb2; have ⟨b0, b1, b2, z0, z1, z2⟩ := B; replace hW := next (more hW _) hb2))
 go_quiet (fail)
 go_wp2
 have Bq : Box3 (w2.drewN nq) (w.heap.size + 1) (.bool false) (.slice none 0 0) (.int .i64 0) := B.stay (below_drewN (Below.refl _ _) _)
 obtain ⟨t0, t1, t2⟩ := Bq.set (.bool false) (.slice none 0 0) (.int .i64 0)
 have hWq := drewn hW nq
 refine bodyPost_ret (v := .tuple #[.agg #[.bool false, .slice none 0 0, .int .i64 0], .int .i64 8]) ?_ rfl (valued_none Ho.out He.out (((hWq.setCell (by simp) _).setCell (by simp) _).setCell (by simp) _))
 simp only [results, Tryz.results34]
 simp [go_sem, t0, t1, t2]
theorem value_nan (e f b : Nat) (w : World) (h : formE (e : Int) (f : Int) = 0) (hb : b < 18446744073709551616) (hp : b < pw (1 + e + f)) (hxm : exN e f b = maskN e) (hf0 : frN f b ≠ 0) :
 Calls Tryz.prog 34 #[.agg #[.int .i64 e, .int .i64 f], .int .u64 b] w (Valued (e : Int) (f : Int) b w) := by
 obtain ⟨h1, h2, h3, h4⟩ := formE_ok h
 have g1 : 2 ≤ e := by omega
 have g2 : e ≤ 11 := by omega
 have g3 : f ≤ 52 := by omega
 have hx0 : exN e f b ≠ 0 := by
  have := pw_le (show 2 ≤ e by omega)
  rw [show pw 2 = 4 by unfold pw; rfl] at this
  rw [hxm, maskN_eq]
  omega
 have hc : classN e (exN e f b) (frN f b) = 5 := by unfold classN; rw [if_neg hx0, if_pos hxm, if_neg hf0]
 have cl := class_any e f b
 rw [hc] at cl
 have Ho := Lib.hid (val_endless (fitsE_ok h hp) hxm).1
 have He := Lib.hid (val_endless (fitsE_ok h hp) hxm).2
 clear h1 h2 h3 h4 hc hx0 hxm hf0
 go_enter Tryz.func34, Tryz.ntmps34
 go_wp2_with (first
  | (go_at_call 65; refine (split_any e f b _ h hb hp).mono ?_; rintro en w1 ⟨rfl, hb1⟩; have A := ((box2_new w (.int .i64 (e : Int)) (.int .i64 (f : Int)) 23).alloc _).stay hb1; have ⟨a0, a1⟩ := A; have B := (box3_new _ _ _ _ _).stay hb1; rw [World.size_alloc] at B; have ⟨b0, b1, b2, z0, z1, z2⟩ := B; have hl := A.lt; have hl2 := B.lt; have hW := next (more (more (Below.refl _ _) _) _) hb1)
  | (go_at_call 33; refine (cl _ h hb hp).mono ?_; rintro en w2 ⟨rfl, hb2⟩; have P := (box3_new w1 (.bool (sgB e f b)) (.int .i64 (exN e f b : Int)) (.int .u64 (frN f b : Int)) 104).stay hb2; have ⟨p0, p1, p2, _, _, _⟩ := P; replace A := (A.alloc _).stay hb2; have ⟨a0, a1⟩ := A; replace B := (B.alloc _).stay hb2; have ⟨b0, b1, b2, z0, z1, z2⟩ := B; replace hW := next (more hW _) hb2))
 go_quiet (fail)
 go_wp2
 have Bq : Box3 (w2.drewN nq) (w.heap.size + 1) (.bool false) (.slice none 0 0) (.int .i64 0) := B.stay (below_drewN (Below.refl _ _) _)
 obtain ⟨t0, t1, t2⟩ := Bq.set (.bool false) (.slice none 0 0) (.int .i64 0)
 have hWq := drewn hW nq
 refine bodyPost_ret (v := .tuple #[.agg #[.bool false, .slice none 0 0, .int .i64 0], .int .i64 8]) ?_ rfl (valued_none Ho.out He.out (((hWq.setCell (by simp) _).setCell (by simp) _).setCell (by simp) _))
 simp only [results, Tryz.results34]
 simp [go_sem, t0, t1, t2]
theorem value_any (e f : Int) (b : Nat) (w : World) (hb : b < 18446744073709551616) (hT : Tab w) :
 Calls Tryz.prog 34 #[.agg #[.int .i64 e, .int .i64 f], .int .u64 b] w (Valued e f b w) := by
 by_cases hF : fitsE e f b = 0
 · have h : formE e f = 0 := by
    apply Classical.byContradiction
    intro hn
    rw [fitsE_form hn] at hF
    exact hn hF
   obtain ⟨h1, h2, h3, h4⟩ := formE_ok h
   obtain ⟨e, rfl⟩ := Int.eq_ofNat_of_zero_le (by omega : 0 ≤ e)
   obtain ⟨f, rfl⟩ := Int.eq_ofNat_of_zero_le (by omega : 0 ≤ f)
   have hp : b < pw (1 + e + f) := by
    apply Classical.byContradiction
    intro hn
    rw [fitsE_bits h hn] at hF
    cases hF
   by_cases hxm : exN e f b = maskN e
   · by_cases hf0 : frN f b = 0
     · exact value_inf e f b w h hb hp hxm hf0
     · exact value_nan e f b w h hb hp hxm hf0
   · by_cases hx0 : exN e f b = 0
     · by_cases hf0 : frN f b = 0
       · exact value_zero e f b w h hb hp hx0 hf0 hxm hT
       · exact value_small e f b w h hb hp hx0 hf0 hxm hT
     · exact value_normal e f b w h hb hp hx0 hxm hT
 · exact value_no e f b w hF hb
structure RefK (e f h : Nat) (w w' : World) : Prop where
 a0 : w'.cell? ⟨h, 0, none⟩ = some (.int .i64 (e : Int))
 a1 : w'.cell? ⟨h, 1, none⟩ = some (.int .i64 (f : Int))
 bel : Below w.heap.size w w'
 res : Res3 w' (h + 1)
 le : w.heap.size ≤ h
theorem RefK.stay {e f h : Nat} {w wp w' : World} (k : RefK e f h w wp) (hb : Below wp.heap.size wp w') : RefK e f h w w' :=
 ⟨cellStay k.a0 hb, cellStay k.a1 hb, next k.bel hb, k.res.stay hb, k.le⟩
theorem RefK.drew {e f h : Nat} {w wp : World} (k : RefK e f h w wp) : RefK e f h w wp.drew := k.stay ((Below.refl _ _).drew)
theorem RefK.set {e f h : Nat} {w wp : World} (k : RefK e f h w wp) (u v x : Value) : RefK e f h w (((wp.setCell ⟨h + 1, 0, none⟩ u).setCell ⟨h + 1, 1, none⟩ v).setCell ⟨h + 1, 2, none⟩ x) := by
 have hle := k.le
 exact ⟨(cell_set3 (by omega) u v x).trans k.a0, (cell_set3 (by omega) u v x).trans k.a1, ((k.bel.setCell (by simp; omega) _).setCell (by simp; omega) _).setCell (by simp; omega) _, k.res.set u v x, k.le⟩
theorem RefK.conj {e f h : Nat} {w w' : World} (k : RefK e f h w w') :
 w'.cell? ⟨h, 0, none⟩ = some (.int .i64 (e : Int)) ∧ w'.cell? ⟨h, 1, none⟩ = some (.int .i64 (f : Int)) ∧ w'.cell? ⟨h + 1, 0, none⟩ = some (cellOf w' (h + 1) 0) ∧ w'.cell? ⟨h + 1, 1, none⟩ = some (cellOf w' (h + 1) 1) ∧ w'.cell? ⟨h + 1, 2, none⟩ = some (cellOf w' (h + 1) 2) ∧
 w'.frozen? ⟨h + 1, 0, none⟩ = false ∧ w'.frozen? ⟨h + 1, 1, none⟩ = false ∧ w'.frozen? ⟨h + 1, 2, none⟩ = false ∧ RefK e f h w w' :=
 ⟨k.a0, k.a1, k.res.c0, k.res.c1, k.res.c2, k.res.z0, k.res.z1, k.res.z2, k⟩
def valD (e f : Int) (b : Nat) : Ds := ⟨valS e f b, valN e f b, valX e f b, valE e f b⟩
theorem valD_mk {e f b : Nat} (h : fitsE (e : Int) (f : Int) b = 0) (hx : exN e f b ≠ maskN e) : valD (e : Int) (f : Int) b = mkA (sgB e f b) (vN e f b) (vX e f b) := by
 obtain ⟨h1, h2, h3, h4⟩ := val_yes h hx
 unfold valD mkA
 rw [h1, h2, h3, h4]
theorem mask_bias {e : Nat} (h : 2 ≤ e) : maskN e = 2 * biasN e + 1 := by
 unfold maskN biasN
 have h1 : 2 ^ e = 2 * 2 ^ (e - 1) := by
  rw [show 2 * 2 ^ (e - 1) = 2 ^ (e - 1) * 2 by omega, ← Nat.pow_succ]
  congr 1
  omega
 have := Nat.two_pow_pos (e - 1)
 omega
theorem bias_small {e : Nat} (h : e ≤ 11) : biasN e ≤ 1023 := by
 unfold biasN
 have : 2 ^ (e - 1) ≤ 2 ^ 10 := Nat.pow_le_pow_right (by decide) (by omega)
 omega
def baseI (e f : Nat) : Int := 1 - (biasN e : Int) - f
theorem frN_eq (f b : Nat) : frN f b = b % pw f := by
 unfold frN takeN
 rw [pw_zero, Nat.div_one]
theorem frN_lt' (f b : Nat) : frN f b < pw f := by
 rw [frN_eq]
 exact Nat.mod_lt _ (pw_pos f)
theorem vN_top (e f b : Nat) : vN e f b < pw (f + 1) := by
 have := frN_lt' f b
 unfold vN
 rw [pw_succ]
 split <;> omega
theorem vX_low (e f b : Nat) : baseI e f ≤ vX e f b := by
 unfold vX baseI
 split <;> omega
theorem vX_high {e f b : Nat} (he : e ≤ 11) : vX e f b ≤ baseI e f + 2048 := by
 have h1 := exN_lt e f b
 have h2 := pw_le he
 have h3 : pw 11 = 2048 := by unfold pw; rfl
 unfold vX baseI
 split <;> omega
def gN (e f b : Nat) : Nat := upW (vN e f b) (vX e f b) (baseI e f)
theorem gN_lt {e f b d : Nat} (he : e ≤ 11) (hd : d = 2048) : gN e f b < 2 ^ (f + 1 + d) := by
 have h1 := vN_top e f b
 have h2 := vX_high (f := f) (b := b) he
 unfold gN upW
 unfold pw at h1
 rw [Nat.pow_add]
 exact Nat.mul_lt_mul_of_lt_of_le h1 (Nat.pow_le_pow_right (by decide) (by omega)) (Nat.two_pow_pos _)
theorem valD_ok {e f b : Nat} (h : fitsE (e : Int) (f : Int) b = 0) (hx : exN e f b ≠ maskN e) (he : e ≤ 11) (hf : f ≤ 52) :
 (valD (e : Int) (f : Int) b).e = 0 ∧ Wo (valD (e : Int) (f : Int) b) (baseI e f) (sgI (sgB e f b) (gN e f b)) := by
 rw [valD_mk h hx]
 have hb := bias_small he
 have h1 : -1073741824 ≤ baseI e f := by unfold baseI; omega
 have h2 : baseI e f ≤ 1 := by unfold baseI; omega
 obtain ⟨d, hd⟩ : ∃ d, d = 2048 := ⟨_, rfl⟩
 have hg := gN_lt (f := f) (b := b) he hd
 obtain ⟨K, hK⟩ : ∃ K, K = f + 1 + d := ⟨_, rfl⟩
 rw [← hK] at hg
 obtain ⟨g1, g2⟩ := mkA_ok (s := sgB e f b) (vX_low e f b) hg (by omega) h1 (by omega)
 exact ⟨g2, mkA_worth g1 (fun _ => vX_low e f b) g2⟩
end Go.Proofs.YtpmncmglmobjoaaGreatDoor
