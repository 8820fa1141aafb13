/-
  A word for a block of two cells. No program in sight.
-/
import Derived.Test.YtnokabglkmiidaaDoorBox
namespace Go.Lb
open Go.RowKit

structure Box2 (w : World) (b : Nat) (u v : Value) : Prop where
  c0 : w.cell? ⟨b, 0, none⟩ = some u
  c1 : w.cell? ⟨b, 1, none⟩ = some v

theorem Box2.stay {wp w' : World} {b : Nat} {u v : Value} (h : Box2 wp b u v) (k : Below wp.heap.size wp w') : Box2 w' b u v := ⟨cellStay h.c0 k, cellStay h.c1 k⟩
theorem Box2.alloc {w : World} {b : Nat} {u v : Value} (h : Box2 w b u v) (o : Obj) : Box2 (w.alloc o) b u v := h.stay ((Below.refl _ _).alloc (Nat.le_refl _) o)
theorem Box2.lt {w : World} {b : Nat} {u v : Value} (h : Box2 w b u v) : b < w.heap.size := World.block_lt_of_cell? w ⟨b, 0, none⟩ h.c0
theorem box2_new (w : World) (u v : Value) (t : TypeId) : Box2 (w.alloc (.cells #[u, v] t)) w.heap.size u v := ⟨by simp, by simp⟩

/-- What a cell holds. (No simp rule looks into it.) -/
def cellOf (w : World) (b j : Nat) : Value := (w.cell? ⟨b, j, none⟩).getD undef

theorem cellOf_of {w : World} {b j : Nat} {u : Value} (h : w.cell? ⟨b, j, none⟩ = some u) : w.cell? ⟨b, j, none⟩ = some (cellOf w b j) := by
  unfold cellOf
  rw [h]
  rfl

/-- A block of three cells that may be written, whatever they hold: said so that it holds on behind a store, and the walk can use it. -/
structure Res3 (w : World) (b : Nat) : Prop where
  c0 : w.cell? ⟨b, 0, none⟩ = some (cellOf w b 0)
  c1 : w.cell? ⟨b, 1, none⟩ = some (cellOf w b 1)
  c2 : w.cell? ⟨b, 2, none⟩ = some (cellOf w b 2)
  z0 : w.frozen? ⟨b, 0, none⟩ = false
  z1 : w.frozen? ⟨b, 1, none⟩ = false
  z2 : w.frozen? ⟨b, 2, none⟩ = false

theorem Box3.res {w : World} {b : Nat} {u v x : Value} (h : Box3 w b u v x) : Res3 w b := ⟨cellOf_of h.c0, cellOf_of h.c1, cellOf_of h.c2, h.z0, h.z1, h.z2⟩
theorem Res3.box {w : World} {b : Nat} (h : Res3 w b) : Box3 w b (cellOf w b 0) (cellOf w b 1) (cellOf w b 2) := ⟨h.c0, h.c1, h.c2, h.z0, h.z1, h.z2⟩
theorem Res3.stay {wp w' : World} {b : Nat} (h : Res3 wp b) (k : Below wp.heap.size wp w') : Res3 w' b := (h.box.stay k).res
theorem Res3.drew {w : World} {b : Nat} (h : Res3 w b) : Res3 w.drew b := h.stay ((Below.refl _ _).drew)
theorem Res3.set {w : World} {b : Nat} (h : Res3 w b) (p q r : Value) : Res3 (((w.setCell ⟨b, 0, none⟩ p).setCell ⟨b, 1, none⟩ q).setCell ⟨b, 2, none⟩ r) b := by
  obtain ⟨t0, t1, t2⟩ := h.box.set p q r
  exact ⟨cellOf_of t0, cellOf_of t1, cellOf_of t2, by simp [h.z0], by simp [h.z1], by simp [h.z2]⟩

/-- Three stores into another block. -/
theorem cell_set3 {w : World} {b p j : Nat} (hne : p ≠ b) (u v x : Value) : (((w.setCell ⟨b, 0, none⟩ u).setCell ⟨b, 1, none⟩ v).setCell ⟨b, 2, none⟩ x).cell? ⟨p, j, none⟩ = w.cell? ⟨p, j, none⟩ := by
  have hn : ∀ i : Nat, (⟨b, i, none⟩ : Addr) ≠ ⟨p, j, none⟩ := fun i e => hne (congrArg Addr.block e).symm
  rw [World.cell?_setCell_other _ _ _ _ (hn 2), World.cell?_setCell_other _ _ _ _ (hn 1), World.cell?_setCell_other _ _ _ _ (hn 0)]

end Go.Lb
