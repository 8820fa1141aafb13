/-
  The walks of forms.place.take, forms.Split, and of the reference's Fields: bits taken apart. The walks of forms.Split of bits that may not be, and of forms.Class. The walk of the reference's Fields: bits taken apart. The walks of nat.Of and the reference's Of: a number of 64 bits.
-/
import Derived.Test.YthemcdnlcgmimaaGreatDoorForms
import Derived.Test.YthemcdnlcgmimaaGreatDoorBoxes
import Derived.Deep.RegionHeld3
import Derived.Test.YthemcdnlcgmimaaGreatDoorMakes
namespace Go.Proofs.YthemcdnlcgmimaaGreatDoor
open Go.RowKit Go.Lb

/-- A field of bits. (No simp rule looks into it.) -/
def takeN (b fr sz : Nat) : Nat := b / pw fr % pw sz

theorem and_mask {b sz : Nat} (hs : sz ≤ 64) (hb : b < 18446744073709551616) : bits BinOp.and IntKind.u64 (b : Int) (maskN sz : Int) = ((b % pw sz : Nat) : Int) := by
  have h64 : pw 64 = 18446744073709551616 := by unfold pw; rfl
  have hm : maskN sz < 18446744073709551616 := by
    have := pw_le hs
    have := pw_pos sz
    rw [maskN_eq]
    omega
  rw [u64_and_nat _ _ hb hm]
  unfold maskN pw
  rw [Nat.and_two_pow_sub_one_eq_mod]

theorem takeN_lt (b fr sz : Nat) : takeN b fr sz < pw sz := Nat.mod_lt _ (pw_pos sz)

/-- The sign, the exponent's bits, the fraction's bits. -/
def sgB (e f b : Nat) : Bool := decide (takeN b (f + e) 1 ≠ 0)
def exN (e f b : Nat) : Nat := takeN b f e
def frN (f b : Nat) : Nat := takeN b 0 f

/-- What stays through Split's last statement: the layout, the result's cells. -/
structure SplitK (e f h p : Nat) (w w' : World) : Prop where
  a0 : w'.cell? ⟨p, 0, none⟩ = some (.int .i64 0)
  a1 : w'.cell? ⟨p, 1, none⟩ = some (.int .i64 f)
  a2 : w'.cell? ⟨p, 2, none⟩ = some (.int .i64 f)
  a3 : w'.cell? ⟨p, 3, none⟩ = some (.int .i64 e)
  a4 : w'.cell? ⟨p, 4, none⟩ = some (.int .i64 (↑f + ↑e))
  a5 : w'.cell? ⟨p, 5, none⟩ = some (.int .i64 1)
  bel : Below w.heap.size w w'
  res : Res3 w' (h + 1)
  lt : h + 1 < p
  le : w.heap.size ≤ h

theorem SplitK.stay {e f h p : Nat} {w wp w' : World} (k : SplitK e f h p w wp) (hb : Below wp.heap.size wp w') : SplitK e f h p w w' :=
  ⟨cellStay k.a0 hb, cellStay k.a1 hb, cellStay k.a2 hb, cellStay k.a3 hb, cellStay k.a4 hb, cellStay k.a5 hb, next k.bel hb, k.res.stay hb, k.lt, k.le⟩
theorem SplitK.drew {e f h p : Nat} {w wp : World} (k : SplitK e f h p w wp) : SplitK e f h p w wp.drew := k.stay ((Below.refl _ _).drew)
theorem SplitK.set {e f h p : Nat} {w wp : World} (k : SplitK e f h p w wp) (u v x : Value) : SplitK e f h p w (((wp.setCell ⟨h + 1, 0, none⟩ u).setCell ⟨h + 1, 1, none⟩ v).setCell ⟨h + 1, 2, none⟩ x) := by
  have hne : p ≠ h + 1 := by have := k.lt; omega
  have hle := k.le
  exact ⟨(cell_set3 hne u v x).trans k.a0, (cell_set3 hne u v x).trans k.a1, (cell_set3 hne u v x).trans k.a2, (cell_set3 hne u v x).trans k.a3, (cell_set3 hne u v x).trans k.a4, (cell_set3 hne u v x).trans k.a5,
    ((k.bel.setCell (by simp; omega) _).setCell (by simp; omega) _).setCell (by simp; omega) _, k.res.set u v x, k.lt, k.le⟩
theorem SplitK.conj {e f h p : Nat} {w w' : World} (k : SplitK e f h p w w') :
    w'.cell? ⟨p, 0, none⟩ = some (.int .i64 0) ∧ w'.cell? ⟨p, 1, none⟩ = some (.int .i64 f) ∧ w'.cell? ⟨p, 2, none⟩ = some (.int .i64 f) ∧ w'.cell? ⟨p, 3, none⟩ = some (.int .i64 e) ∧ w'.cell? ⟨p, 4, none⟩ = some (.int .i64 (↑f + ↑e)) ∧ w'.cell? ⟨p, 5, none⟩ = some (.int .i64 1) ∧
    w'.cell? ⟨h + 1, 0, none⟩ = some (cellOf w' (h + 1) 0) ∧ w'.cell? ⟨h + 1, 1, none⟩ = some (cellOf w' (h + 1) 1) ∧ w'.cell? ⟨h + 1, 2, none⟩ = some (cellOf w' (h + 1) 2) ∧
    w'.frozen? ⟨h + 1, 0, none⟩ = false ∧ w'.frozen? ⟨h + 1, 1, none⟩ = false ∧ w'.frozen? ⟨h + 1, 2, none⟩ = false ∧ SplitK e f h p w w' :=
  ⟨k.a0, k.a1, k.a2, k.a3, k.a4, k.a5, k.res.c0, k.res.c1, k.res.c2, k.res.z0, k.res.z1, k.res.z2, k⟩

end Go.Proofs.YthemcdnlcgmimaaGreatDoor

namespace Go.Proofs.YthemcdnlcgmimaaGreatDoor
open Go.RowKit Go.Lb

/-- A float's class: nought, subnormal, normal, infinite, none. -/
def classN (e ex fr : Nat) : Nat := if ex = 0 then (if fr = 0 then 1 else 2) else if ex = maskN e then (if fr = 0 then 4 else 5) else 3

theorem exN_lt (e f b : Nat) : exN e f b < pw e := takeN_lt b f e
theorem maskN_lt11 {e : Nat} (h : e ≤ 11) : maskN e ≤ 2047 := by
  have := pw_le h
  have e11 : pw 11 = 2048 := by unfold pw; rfl
  rw [maskN_eq]; omega

end Go.Proofs.YthemcdnlcgmimaaGreatDoor

namespace Go.Proofs.YthemcdnlcgmimaaGreatDoor
open Go.RowKit Go.Lb

theorem pw_u64 {f : Nat} (hf : f ≤ 52) : IntKind.u64.wrap (2 ^ f) = ((pw f : Nat) : Int) := by
  have hp : pw f ≤ 4503599627370496 := by have := pw_le hf; rw [show pw 52 = 4503599627370496 by unfold pw; rfl] at this; exact this
  rw [show (2 : Int) ^ f = ((pw f : Nat) : Int) by unfold pw; rw [Int.natCast_pow]; rfl]
  exact IntWalk.u64_in _ (by omega)

end Go.Proofs.YthemcdnlcgmimaaGreatDoor

namespace Go.Proofs.YthemcdnlcgmimaaGreatDoor
open Go.RowKit Go.Lb

theorem val_two {n : Nat} (h : n < 18446744073709551616) : val [n % 4294967296, n / 4294967296 % 4294967296] = n := by
  simp only [val]
  omega

theorem ok_two (n : Nat) : Ok [n % 4294967296, n / 4294967296 % 4294967296] := fun x hx => by
  simp at hx
  omega

theorem lits_two (n : Nat) : [Value.int .u32 ((n : Int) % 4294967296), Value.int .u32 ((n : Int) / 4294967296 % 4294967296)] = lvs [n % 4294967296, n / 4294967296 % 4294967296] := by
  unfold lvs lv
  simp

theorem own_two (w : World) (n : Nat) {x y : Int} (hx : x = (n : Int) % 4294967296) (hy : y = (n : Int) / 4294967296 % 4294967296) : (w.alloc (.cells #[.int .u32 x, .int .u32 y] 46)).ownsRow w.heap.size 46 1 (.slice (some ⟨w.heap.size, 0, none⟩) 2 2) 2 (lvs [n % 4294967296, n / 4294967296 % 4294967296]) := by
  subst hx
  subst hy
  rw [← lits_two n]
  exact World.ownsRow_lit w #[.int .u32 ((n : Int) % 4294967296), .int .u32 ((n : Int) / 4294967296 % 4294967296)] 2 (Nat.le_refl _) (by decide) rfl

set_option maxHeartbeats 800000 in
theorem natOf_any (n : Nat) (w : World) (hn : n < 18446744073709551616) :
    Calls Tryz.prog 17 #[.int .u64 n] w fun e w' => ∃ ao k c, e = .returned (.agg #[.slice ao k c]) ∧ Fr 46 w' w.heap.size ao k c (limbs n) ∧ Below w.heap.size w w' := by
  have hv := Lib.hid (val_two hn)
  go_enter Tryz.func17, Tryz.ntmps17
  go_wp2_with fail
  have ow := own_two (w.alloc (.cells #[.slice none 0 0] 24)) n (x := (n : Int) % 4294967296) (y := (n : Int) / 4294967296) rfl (by omega)
  rw [World.size_alloc] at ow
  refine (natTrimmed_own _ ow (ok_two n)).mono ?_
  rintro e w1 ⟨a1, k1, rfl, hF, hb1⟩
  rw [hv.out] at hF
  have B := ((box1_new w (.slice none 0 0) 24).alloc (.cells #[.int .u32 ((n : Int) % 4294967296), .int .u32 ((n : Int) / 4294967296)] 46)).stay hb1
  have ⟨b0, bz⟩ := B
  have hW := next (more (more (Below.refl _ _) _) _) hb1
  go_wp2
  refine bodyPost_ret (v := .agg #[.slice a1 k1 k1]) (by simp [results, Tryz.results17, go_sem, B.set]) rfl ⟨a1, k1, k1, rfl, (hF.setCell (by simp) _).mono (by omega), hW.setCell (by simp) _⟩

theorem ref_two (w : World) (n : Nat) {x y : Int} (hx : x = (n : Int) % 4294967296) (hy : y = (n : Int) / 4294967296 % 4294967296) : Fr 46 (w.alloc (.cells #[.int .u32 x, .int .u32 y] 46)) w.heap.size (some ⟨w.heap.size, 0, none⟩) 2 2 [n % 4294967296, n / 4294967296 % 4294967296] :=
  fr_own (own_two w n hx hy) (ok_two n) (k := 2) (c := 2) (Nat.le_refl _) (Nat.le_refl _) (Nat.le_refl _)

set_option maxHeartbeats 800000 in
theorem refOf_any (n : Nat) (w : World) (hn : n < 18446744073709551616) :
    Calls Tryz.prog 20 #[.int .u64 n] w fun e w' => ∃ ao k c, e = .returned (.agg #[.slice ao k c]) ∧ Fr 46 w' w.heap.size ao k c (limbs n) ∧ Below w.heap.size w w' := by
  have hv := Lib.hid (val_two hn)
  go_enter Tryz.func20, Tryz.ntmps20
  go_wp2_with fail
  have ow := ref_two (w.alloc (.cells #[.slice none 0 0] 24)) n (x := (n : Int) % 4294967296) (y := (n : Int) / 4294967296) rfl (by omega)
  rw [World.size_alloc] at ow
  refine (refTrim_any _ 2 2 _ _ ow).mono ?_
  rintro e w1 ⟨k1, rfl, hF, rfl⟩
  rw [hv.out] at hF
  go_wp2_with fail
  refine (refNat_any _ (some ⟨w.heap.size + 1, 0, none⟩) k1 2 rfl _).mono ?_
  rintro e w2 ⟨rfl, hb2⟩
  have B := ((box1_new w (.slice none 0 0) 24).alloc (.cells #[.int .u32 ((n : Int) % 4294967296), .int .u32 ((n : Int) / 4294967296)] 46)).stay hb2
  have ⟨b0, bz⟩ := B
  have hW := next (more (more (Below.refl _ _) _) _) hb2
  go_wp2
  refine bodyPost_ret (v := .agg #[.slice (some ⟨w.heap.size + 1, 0, none⟩) k1 2]) (by simp [results, Tryz.results20, go_sem, B.set]) rfl ⟨_, k1, 2, rfl, ((hF.below hb2).setCell (by simp) _).mono (by omega), hW.setCell (by simp) _⟩

end Go.Proofs.YthemcdnlcgmimaaGreatDoor
