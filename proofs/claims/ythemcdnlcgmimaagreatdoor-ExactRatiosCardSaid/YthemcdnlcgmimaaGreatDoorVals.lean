/-
  What any bits of any form are worth: the words, and the walk of exact.Value. The walk of exact.Value of what is not finite; exact.Value of any bits of any form. The walk of the reference's Value: what any bits of any form are worth.
-/
import Derived.Test.YthemcdnlcgmimaaGreatDoorSplits
import Derived.Test.YthemcdnlcgmimaaGreatDoorMakes
import Derived.Deep.RegionHeld3
import Derived.Test.YthemcdnlcgmimaaGreatDoorForms
namespace Go.Proofs.YthemcdnlcgmimaaGreatDoor
open Go.RowKit Go.Lb

/-- The whole number, the power of two. -/
def vN (e f b : Nat) : Nat := if exN e f b = 0 then frN f b else pw f + frN f b
def vX (e f b : Nat) : Int := if exN e f b = 0 then 1 - (biasN e : Int) - (f : Int) else (exN e f b : Int) - (biasN e : Int) - (f : Int)

def valOk (e f : Int) (b : Nat) : Bool := decide (fitsE e f b = 0 ∧ exN e.toNat f.toNat b ≠ maskN e.toNat)
def valE (e f : Int) (b : Nat) : Int := if fitsE e f b ≠ 0 then fitsE e f b else if exN e.toNat f.toNat b = maskN e.toNat then 8 else mkE (limbs (vN e.toNat f.toNat b)) (vX e.toNat f.toNat b)
def valN (e f : Int) (b : Nat) : Nat := if valOk e f b = true then mkN (limbs (vN e.toNat f.toNat b)) (vX e.toNat f.toNat b) else 0
def valX (e f : Int) (b : Nat) : Int := if valOk e f b = true then mkX (limbs (vN e.toNat f.toNat b)) (vX e.toNat f.toNat b) else 0
def valS (e f : Int) (b : Nat) : Bool := if valOk e f b = true then mkS (sgB e.toNat f.toNat b) (limbs (vN e.toNat f.toNat b)) (vX e.toNat f.toNat b) else false

def Valued (e f : Int) (b : Nat) (w : World) (en : Ending) (w' : World) : Prop :=
  ∃ ao n c, en = .returned (.tuple #[.agg #[.bool (valS e f b), .slice ao n c, .int .i64 (valX e f b)], .int .i64 (valE e f b)]) ∧ Fr 46 w' w.heap.size ao n c (limbs (valN e f b)) ∧ Below w.heap.size w w'

theorem val_no {e f : Int} {b : Nat} (h : valOk e f b = false) : valN e f b = 0 ∧ valX e f b = 0 ∧ valS e f b = false := by
  unfold valN valX valS
  rw [h]
  exact ⟨rfl, rfl, rfl⟩

theorem valued_none {e f : Int} {b : Nat} {w w' : World} {er : Int} (h : valOk e f b = false) (he : valE e f b = er) (hW : Below w.heap.size w w') :
    Valued e f b w (.returned (.tuple #[.agg #[.bool false, .slice none 0 0, .int .i64 0], .int .i64 er])) w' := by
  obtain ⟨h1, h2, h3⟩ := val_no h
  exact ⟨none, 0, 0, by rw [h2, h3, he], by rw [h1]; exact fr_nil _ _ _, hW⟩

theorem val_fits {e f : Int} {b : Nat} (h : fitsE e f b ≠ 0) : valOk e f b = false ∧ valE e f b = fitsE e f b := by
  refine ⟨decide_eq_false fun hh => h hh.1, ?_⟩
  unfold valE
  rw [if_pos h]

theorem val_endless {e f b : Nat} (h : fitsE (e : Int) (f : Int) b = 0) (hx : exN e f b = maskN e) : valOk (e : Int) (f : Int) b = false ∧ valE (e : Int) (f : Int) b = 8 := by
  refine ⟨decide_eq_false fun hh => hh.2 (by simpa using hx), ?_⟩
  unfold valE
  rw [if_neg (by simp [h]), if_pos (by simpa using hx)]

theorem val_yes {e f b : Nat} (h : fitsE (e : Int) (f : Int) b = 0) (hx : exN e f b ≠ maskN e) :
    valN (e : Int) (f : Int) b = mkN (limbs (vN e f b)) (vX e f b) ∧ valX (e : Int) (f : Int) b = mkX (limbs (vN e f b)) (vX e f b) ∧ valS (e : Int) (f : Int) b = mkS (sgB e f b) (limbs (vN e f b)) (vX e f b) ∧ valE (e : Int) (f : Int) b = mkE (limbs (vN e f b)) (vX e f b) := by
  have ho : valOk (e : Int) (f : Int) b = true := decide_eq_true ⟨h, by simpa using hx⟩
  unfold valN valX valS valE
  rw [if_pos ho, if_pos ho, if_pos ho, if_neg (by simp [h]), if_neg (by simpa using hx)]
  simp

theorem natOf_i (n : Nat) (x : Int) (hx : x = (n : Int)) (w : World) (hn : n < 18446744073709551616) :
    Calls Tryz.prog 17 #[.int .u64 x] w fun e w' => ∃ ao k c, e = .returned (.agg #[.slice ao k c]) ∧ Fr 46 w' w.heap.size ao k c (limbs n) ∧ Below w.heap.size w w' := by
  subst hx
  exact natOf_any n w hn

theorem exMake_i (neg : Bool) (ao : Option Addr) (n c : Nat) (ys : List Nat) (x y : Int) (hy : y = x) (w : World) (h : Sl w ao n c ys) (hT : Tab w) :
    Calls Tryz.prog 26 #[.bool neg, .agg #[.slice ao n c], .int .i64 y] w (Made neg ys x w) := by
  subst hy
  exact exMake_any neg ao n c ys y w h hT

/-- What stays through the last statement of Value: the sign, the result's cells, the table. -/
structure ValK (sg : Bool) (h p : Nat) (w w' : World) : Prop where
  p0 : w'.cell? ⟨p, 0, none⟩ = some (.bool sg)
  tab : Tab w'
  bel : Below w.heap.size w w'
  res : Res3 w' (h + 1)
  ne : p ≠ h + 1
  le : w.heap.size ≤ h
  tl : 0 < w.heap.size

theorem ValK.stay {sg : Bool} {h p : Nat} {w wp w' : World} (k : ValK sg h p w wp) (hb : Below wp.heap.size wp w') : ValK sg h p w w' :=
  ⟨cellStay k.p0 hb, k.tab.below hb, next k.bel hb, k.res.stay hb, k.ne, k.le, k.tl⟩
theorem ValK.drew {sg : Bool} {h p : Nat} {w wp : World} (k : ValK sg h p w wp) : ValK sg h p w wp.drew := k.stay ((Below.refl _ _).drew)
theorem ValK.set {sg : Bool} {h p : Nat} {w wp : World} (k : ValK sg h p w wp) (u v x : Value) : ValK sg h p w (((wp.setCell ⟨h + 1, 0, none⟩ u).setCell ⟨h + 1, 1, none⟩ v).setCell ⟨h + 1, 2, none⟩ x) := by
  have hle := k.le
  have htl := k.tl
  exact ⟨(cell_set3 k.ne u v x).trans k.p0, fun j hj => (cell_set3 (by omega) u v x).trans (k.tab j hj), ((k.bel.setCell (by simp; omega) _).setCell (by simp; omega) _).setCell (by simp; omega) _, k.res.set u v x, k.ne, k.le, k.tl⟩
theorem ValK.conj {sg : Bool} {h p : Nat} {w w' : World} (k : ValK sg h p w w') :
    w'.cell? ⟨p, 0, none⟩ = some (.bool sg) ∧ w'.cell? ⟨h + 1, 0, none⟩ = some (cellOf w' (h + 1) 0) ∧ w'.cell? ⟨h + 1, 1, none⟩ = some (cellOf w' (h + 1) 1) ∧ w'.cell? ⟨h + 1, 2, none⟩ = some (cellOf w' (h + 1) 2) ∧
    w'.frozen? ⟨h + 1, 0, none⟩ = false ∧ w'.frozen? ⟨h + 1, 1, none⟩ = false ∧ w'.frozen? ⟨h + 1, 2, none⟩ = false ∧ ValK sg h p w w' :=
  ⟨k.p0, k.res.c0, k.res.c1, k.res.c2, k.res.z0, k.res.z1, k.res.z2, k⟩

theorem Tab.lt {w : World} (h : Tab w) : 0 < w.heap.size := World.block_lt_of_cell? _ _ (h 0 (by decide))

theorem frN_lt (f b : Nat) : frN f b < pw f := takeN_lt b 0 f

theorem mant_or {f m : Nat} (hf : f ≤ 52) (hm : m < pw f) : bits BinOp.or IntKind.u64 (m : Int) (IntKind.u64.wrap (2 ^ f)) = ((pw f + m : Nat) : Int) := by
  have hp : pw f ≤ 4503599627370496 := by have := pw_le hf; rw [show pw 52 = 4503599627370496 by unfold pw; rfl] at this; exact this
  have hw : IntKind.u64.wrap (2 ^ f) = ((pw f : Nat) : Int) := by
    rw [show (2 : Int) ^ f = ((pw f : Nat) : Int) by unfold pw; rw [Int.natCast_pow]; rfl]
    exact IntWalk.u64_in _ (by omega)
  rw [hw, u64_or_nat _ _ (by omega) (by omega), Nat.or_comm]
  have := Nat.two_pow_add_eq_or_of_lt (i := f) (b := m) (by unfold pw at hm; exact hm) 1
  rw [Nat.mul_one] at this
  unfold pw
  rw [← this]

theorem bias_two {e : Nat} (h1 : 2 ≤ e) (h : e ≤ 11) : wrap64 (2 - wrap64 (2 ^ (e - 1))) = 1 - (biasN e : Int) := by
  have hfin : ∀ k : Fin 12, wrap64 (2 - wrap64 (2 ^ (k.val - 1))) = 1 - ((2 ^ (k.val - 1) - 1 : Nat) : Int) := by decide +kernel
  unfold biasN
  exact hfin ⟨e, by omega⟩

theorem vN_lt {e f b : Nat} (hf : f ≤ 52) : vN e f b < 9007199254740992 := by
  have hp : pw f ≤ 4503599627370496 := by have := pw_le hf; rw [show pw 52 = 4503599627370496 by unfold pw; rfl] at this; exact this
  have := frN_lt f b
  unfold vN
  split <;> omega

end Go.Proofs.YthemcdnlcgmimaaGreatDoor

namespace Go.Proofs.YthemcdnlcgmimaaGreatDoor
open Go.RowKit Go.Lb

end Go.Proofs.YthemcdnlcgmimaaGreatDoor

namespace Go.Proofs.YthemcdnlcgmimaaGreatDoor
open Go.RowKit Go.Lb

theorem refOf_i (n : Nat) (x : Int) (hx : x = (n : Int)) (w : World) (hn : n < 18446744073709551616) :
    Calls Tryz.prog 20 #[.int .u64 x] w fun e w' => ∃ ao k c, e = .returned (.agg #[.slice ao k c]) ∧ Fr 46 w' w.heap.size ao k c (limbs n) ∧ Below w.heap.size w w' := by
  subst hx
  exact refOf_any n w hn

theorem rfMake_i (neg : Bool) (ao : Option Addr) (n c : Nat) (ys : List Nat) (x y : Int) (hy : y = x) (w : World) (h : Sl w ao n c ys) :
    Calls Tryz.prog 30 #[.bool neg, .agg #[.slice ao n c], .int .i64 y] w (Made neg ys x w) := by
  subst hy
  exact rfMake_any neg ao n c ys y w h

theorem maskI {e : Nat} (h : e ≤ 11) : wrap64 (wrap64 (2 ^ e) - 1) = (maskN e : Int) := by
  have hfin : ∀ k : Fin 12, wrap64 (wrap64 (2 ^ k.val) - 1) = ((2 ^ k.val - 1 : Nat) : Int) := by decide +kernel
  unfold maskN
  exact hfin ⟨e, by omega⟩

/-- What stays through the last statements of the reference's Value: the form, the result's cells. -/
structure RefK (e f h : Nat) (w w' : World) : Prop where
  a0 : w'.cell? ⟨h, 0, none⟩ = some (.int .i64 (e : Int))
  a1 : w'.cell? ⟨h, 1, none⟩ = some (.int .i64 (f : Int))
  bel : Below w.heap.size w w'
  res : Res3 w' (h + 1)
  le : w.heap.size ≤ h

theorem RefK.stay {e f h : Nat} {w wp w' : World} (k : RefK e f h w wp) (hb : Below wp.heap.size wp w') : RefK e f h w w' :=
  ⟨cellStay k.a0 hb, cellStay k.a1 hb, next k.bel hb, k.res.stay hb, k.le⟩
theorem RefK.drew {e f h : Nat} {w wp : World} (k : RefK e f h w wp) : RefK e f h w wp.drew := k.stay ((Below.refl _ _).drew)
theorem RefK.set {e f h : Nat} {w wp : World} (k : RefK e f h w wp) (u v x : Value) : RefK e f h w (((wp.setCell ⟨h + 1, 0, none⟩ u).setCell ⟨h + 1, 1, none⟩ v).setCell ⟨h + 1, 2, none⟩ x) := by
  have hle := k.le
  exact ⟨(cell_set3 (by omega) u v x).trans k.a0, (cell_set3 (by omega) u v x).trans k.a1, ((k.bel.setCell (by simp; omega) _).setCell (by simp; omega) _).setCell (by simp; omega) _, k.res.set u v x, k.le⟩
theorem RefK.conj {e f h : Nat} {w w' : World} (k : RefK e f h w w') :
    w'.cell? ⟨h, 0, none⟩ = some (.int .i64 (e : Int)) ∧ w'.cell? ⟨h, 1, none⟩ = some (.int .i64 (f : Int)) ∧ w'.cell? ⟨h + 1, 0, none⟩ = some (cellOf w' (h + 1) 0) ∧ w'.cell? ⟨h + 1, 1, none⟩ = some (cellOf w' (h + 1) 1) ∧ w'.cell? ⟨h + 1, 2, none⟩ = some (cellOf w' (h + 1) 2) ∧
    w'.frozen? ⟨h + 1, 0, none⟩ = false ∧ w'.frozen? ⟨h + 1, 1, none⟩ = false ∧ w'.frozen? ⟨h + 1, 2, none⟩ = false ∧ RefK e f h w w' :=
  ⟨k.a0, k.a1, k.res.c0, k.res.c1, k.res.c2, k.res.z0, k.res.z1, k.res.z2, k⟩

end Go.Proofs.YthemcdnlcgmimaaGreatDoor
