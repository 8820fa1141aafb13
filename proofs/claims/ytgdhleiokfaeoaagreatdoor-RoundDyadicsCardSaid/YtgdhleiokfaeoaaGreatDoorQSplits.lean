/-
  The walks of the small functions of forms. The walks of forms.layout, join, Join and of the reference's May. The walk of math/bits.Len64, over the library's own text. The walks of forms.Fits and of the reference's May: may bits be a float of a form? The walks of forms.place.take, forms.Split, and of the reference's Fields: bits taken apart. The walks of forms.Split of bits that may not be, and of forms.Class. The walk of the reference's Fields: bits taken apart. The walks of nat.Of and the reference's Of: a number of 64 bits.
-/

import Derived.Test.YtgdhleiokfaeoaaGreatDoorQNats
import Derived.Test.YtgdhleiokfaeoaaGreatDoorQBase
import Derived.Deep.RegionHeld3
import Derived.Lib.ItoaNum
import Derived.Test.YtgdhleiokfaeoaaGreatDoorQBoxes
import Derived.Test.YtgdhleiokfaeoaaGreatDoorQMakes
namespace Go.Proofs.YtgdhleiokfaeoaaGreatDoor

open Go.RowKit Go.Lb

/-- May a form be? -/
def formB (e f : Int) : Bool := decide (2 ≤ e ∧ e ≤ 11 ∧ 1 ≤ f ∧ f ≤ 52)

def formE (e f : Int) : Int := if formB e f = true then 0 else 5

theorem formE_ok {e f : Int} (h : formE e f = 0) : 2 ≤ e ∧ e ≤ 11 ∧ 1 ≤ f ∧ f ≤ 52 := by
  unfold formE at h
  split at h
  · rename_i hb; simpa [formB] using hb
  · cases h

theorem formE_yes {e f : Int} (h : 2 ≤ e ∧ e ≤ 11 ∧ 1 ≤ f ∧ f ≤ 52) : formE e f = 0 := by
  unfold formE formB; rw [if_pos (by simpa using h)]

theorem formE_no {e f : Int} (h : ¬(2 ≤ e ∧ e ≤ 11 ∧ 1 ≤ f ∧ f ≤ 52)) : formE e f = 5 := by
  unfold formE formB; rw [if_neg (by simpa using h)]

set_option maxHeartbeats 400000 in
theorem formCheck_any (e f : Int) (w : World) :
    Calls Tryz.prog 45 #[.agg #[.int .i64 e, .int .i64 f]] w fun en w' => en = .returned (.int .i64 (formE e f)) ∧ Below w.heap.size w w' := by
  by_cases h1 : e < 2
  · have H := Lib.hid (formE_no (e := e) (f := f) (by omega))
    go_enter Tryz.func45, Tryz.ntmps45
    go_wp2
    go_ret
    exact ⟨by rw [H.out]; rfl, more (Below.refl _ _) _⟩
  · by_cases h2 : 11 < e
    · have H := Lib.hid (formE_no (e := e) (f := f) (by omega))
      go_enter Tryz.func45, Tryz.ntmps45
      go_wp2
      go_ret
      exact ⟨by rw [H.out]; rfl, more (Below.refl _ _) _⟩
    · by_cases h3 : f < 1
      · have H := Lib.hid (formE_no (e := e) (f := f) (by omega))
        go_enter Tryz.func45, Tryz.ntmps45
        go_wp2
        go_ret
        exact ⟨by rw [H.out]; rfl, more (Below.refl _ _) _⟩
      · by_cases h4 : 52 < f
        · have H := Lib.hid (formE_no (e := e) (f := f) (by omega))
          go_enter Tryz.func45, Tryz.ntmps45
          go_wp2
          go_ret
          exact ⟨by rw [H.out]; rfl, more (Below.refl _ _) _⟩
        · have H := Lib.hid (formE_yes (e := e) (f := f) (by omega))
          go_enter Tryz.func45, Tryz.ntmps45
          go_wp2
          go_ret
          exact ⟨by rw [H.out]; rfl, more (Below.refl _ _) _⟩

theorem bias_fin : ∀ e : Fin 12, wrap64 (wrap64 (2 ^ (e.val - 1)) - 1) = ((2 ^ (e.val - 1) - 1 : Nat) : Int) := by decide +kernel

end Go.Proofs.YtgdhleiokfaeoaaGreatDoor

namespace Go.Proofs.YtgdhleiokfaeoaaGreatDoor

open Go.RowKit Go.Lb

end Go.Proofs.YtgdhleiokfaeoaaGreatDoor

namespace Go.Proofs.YtgdhleiokfaeoaaGreatDoor

open Go.RowKit Go.Lb

end Go.Proofs.YtgdhleiokfaeoaaGreatDoor

namespace Go.Proofs.YtgdhleiokfaeoaaGreatDoor

open Go.RowKit Go.Lb

end Go.Proofs.YtgdhleiokfaeoaaGreatDoor

namespace Go.Proofs.YtgdhleiokfaeoaaGreatDoor

open Go.RowKit Go.Lb

/-- A field of bits. (No simp rule looks into it.) -/
def takeN (b fr sz : Nat) : Nat := b / pw fr % pw sz

/-- The sign, the exponent's bits, the fraction's bits. -/
def sgB (e f b : Nat) : Bool := decide (takeN b (f + e) 1 ≠ 0)

/-- What stays through Split's last statement: the layout, the result's cells. -/
structure SplitK (e f h p : Nat) (w w' : World) : Prop where
  a0 : w'.cell? ⟨p, 0, none⟩ = some (.int .i64 0)
  a1 : w'.cell? ⟨p, 1, none⟩ = some (.int .i64 f)
  a2 : w'.cell? ⟨p, 2, none⟩ = some (.int .i64 f)
  a3 : w'.cell? ⟨p, 3, none⟩ = some (.int .i64 e)
  a4 : w'.cell? ⟨p, 4, none⟩ = some (.int .i64 (↑f + ↑e))
  a5 : w'.cell? ⟨p, 5, none⟩ = some (.int .i64 1)
  bel : Below w.heap.size w w'
  res : Res3 w' (h + 1)
  lt : h + 1 < p
  le : w.heap.size ≤ h

theorem SplitK.stay {e f h p : Nat} {w wp w' : World} (k : SplitK e f h p w wp) (hb : Below wp.heap.size wp w') : SplitK e f h p w w' :=
  ⟨cellStay k.a0 hb, cellStay k.a1 hb, cellStay k.a2 hb, cellStay k.a3 hb, cellStay k.a4 hb, cellStay k.a5 hb, next k.bel hb, k.res.stay hb, k.lt, k.le⟩

theorem SplitK.drew {e f h p : Nat} {w wp : World} (k : SplitK e f h p w wp) : SplitK e f h p w wp.drew := k.stay ((Below.refl _ _).drew)

theorem SplitK.set {e f h p : Nat} {w wp : World} (k : SplitK e f h p w wp) (u v x : Value) : SplitK e f h p w (((wp.setCell ⟨h + 1, 0, none⟩ u).setCell ⟨h + 1, 1, none⟩ v).setCell ⟨h + 1, 2, none⟩ x) := by
  have hne : p ≠ h + 1 := by have := k.lt; omega
  have hle := k.le
  exact ⟨(cell_set3 hne u v x).trans k.a0, (cell_set3 hne u v x).trans k.a1, (cell_set3 hne u v x).trans k.a2, (cell_set3 hne u v x).trans k.a3, (cell_set3 hne u v x).trans k.a4, (cell_set3 hne u v x).trans k.a5,
    ((k.bel.setCell (by simp; omega) _).setCell (by simp; omega) _).setCell (by simp; omega) _, k.res.set u v x, k.lt, k.le⟩

theorem SplitK.conj {e f h p : Nat} {w w' : World} (k : SplitK e f h p w w') :
    w'.cell? ⟨p, 0, none⟩ = some (.int .i64 0) ∧ w'.cell? ⟨p, 1, none⟩ = some (.int .i64 f) ∧ w'.cell? ⟨p, 2, none⟩ = some (.int .i64 f) ∧ w'.cell? ⟨p, 3, none⟩ = some (.int .i64 e) ∧ w'.cell? ⟨p, 4, none⟩ = some (.int .i64 (↑f + ↑e)) ∧ w'.cell? ⟨p, 5, none⟩ = some (.int .i64 1) ∧
    w'.cell? ⟨h + 1, 0, none⟩ = some (cellOf w' (h + 1) 0) ∧ w'.cell? ⟨h + 1, 1, none⟩ = some (cellOf w' (h + 1) 1) ∧ w'.cell? ⟨h + 1, 2, none⟩ = some (cellOf w' (h + 1) 2) ∧
    w'.frozen? ⟨h + 1, 0, none⟩ = false ∧ w'.frozen? ⟨h + 1, 1, none⟩ = false ∧ w'.frozen? ⟨h + 1, 2, none⟩ = false ∧ SplitK e f h p w w' :=
  ⟨k.a0, k.a1, k.a2, k.a3, k.a4, k.a5, k.res.c0, k.res.c1, k.res.c2, k.res.z0, k.res.z1, k.res.z2, k⟩

end Go.Proofs.YtgdhleiokfaeoaaGreatDoor

namespace Go.Proofs.YtgdhleiokfaeoaaGreatDoor

open Go.RowKit Go.Lb

end Go.Proofs.YtgdhleiokfaeoaaGreatDoor

namespace Go.Proofs.YtgdhleiokfaeoaaGreatDoor

open Go.RowKit Go.Lb

end Go.Proofs.YtgdhleiokfaeoaaGreatDoor

namespace Go.Proofs.YtgdhleiokfaeoaaGreatDoor

open Go.RowKit Go.Lb

theorem val_two {n : Nat} (h : n < 18446744073709551616) : val [n % 4294967296, n / 4294967296 % 4294967296] = n := by
  simp only [val]
  omega

theorem ok_two (n : Nat) : Ok [n % 4294967296, n / 4294967296 % 4294967296] := fun x hx => by
  simp at hx
  omega

theorem lits_two (n : Nat) : [Value.int .u32 ((n : Int) % 4294967296), Value.int .u32 ((n : Int) / 4294967296 % 4294967296)] = lvs [n % 4294967296, n / 4294967296 % 4294967296] := by
  unfold lvs lv
  simp

theorem own_two (w : World) (n : Nat) {x y : Int} (hx : x = (n : Int) % 4294967296) (hy : y = (n : Int) / 4294967296 % 4294967296) : (w.alloc (.cells #[.int .u32 x, .int .u32 y] 43)).ownsRow w.heap.size 43 1 (.slice (some ⟨w.heap.size, 0, none⟩) 2 2) 2 (lvs [n % 4294967296, n / 4294967296 % 4294967296]) := by
  subst hx
  subst hy
  rw [← lits_two n]
  exact World.ownsRow_lit w #[.int .u32 ((n : Int) % 4294967296), .int .u32 ((n : Int) / 4294967296 % 4294967296)] 2 (Nat.le_refl _) (by decide) rfl

end Go.Proofs.YtgdhleiokfaeoaaGreatDoor

