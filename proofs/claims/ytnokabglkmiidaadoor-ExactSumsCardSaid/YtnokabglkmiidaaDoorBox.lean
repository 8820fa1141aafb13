/-
  Words for a block of one or three cells that a call may write (Box1, Box3). No program in sight.
-/
import Derived.Test.YtnokabglkmiidaaDoorFresh
namespace Go.Lb
open Go.RowKit

structure Box1 (w : World) (b : Nat) (u : Value) : Prop where
  c0 : w.cell? ⟨b, 0, none⟩ = some u
  z0 : w.frozen? ⟨b, 0, none⟩ = false

structure Box3 (w : World) (b : Nat) (u v x : Value) : Prop where
  c0 : w.cell? ⟨b, 0, none⟩ = some u
  c1 : w.cell? ⟨b, 1, none⟩ = some v
  c2 : w.cell? ⟨b, 2, none⟩ = some x
  z0 : w.frozen? ⟨b, 0, none⟩ = false
  z1 : w.frozen? ⟨b, 1, none⟩ = false
  z2 : w.frozen? ⟨b, 2, none⟩ = false

theorem Box1.stay {wp w' : World} {b : Nat} {u : Value} (h : Box1 wp b u) (k : Below wp.heap.size wp w') : Box1 w' b u := ⟨(cfStay ⟨h.c0, h.z0⟩ k).1, (cfStay ⟨h.c0, h.z0⟩ k).2⟩
theorem Box1.alloc {w : World} {b : Nat} {u : Value} (h : Box1 w b u) (o : Obj) : Box1 (w.alloc o) b u := h.stay ((Below.refl _ _).alloc (Nat.le_refl _) o)
theorem Box1.lt {w : World} {b : Nat} {u : Value} (h : Box1 w b u) : b < w.heap.size := World.block_lt_of_cell? w ⟨b, 0, none⟩ h.c0
theorem box1_new (w : World) (u : Value) (t : TypeId) : Box1 (w.alloc (.cells #[u] t)) w.heap.size u := ⟨by simp, by simp [go_sem]⟩
theorem Box1.set {w : World} {b : Nat} {u : Value} (h : Box1 w b u) (v : Value) : (w.setCell ⟨b, 0, none⟩ v).cell? ⟨b, 0, none⟩ = some v := World.cell?_setCell_same _ _ _ h.c0

theorem Box3.stay {wp w' : World} {b : Nat} {u v x : Value} (h : Box3 wp b u v x) (k : Below wp.heap.size wp w') : Box3 w' b u v x :=
  ⟨(cfStay ⟨h.c0, h.z0⟩ k).1, (cfStay ⟨h.c1, h.z1⟩ k).1, (cfStay ⟨h.c2, h.z2⟩ k).1, (cfStay ⟨h.c0, h.z0⟩ k).2, (cfStay ⟨h.c1, h.z1⟩ k).2, (cfStay ⟨h.c2, h.z2⟩ k).2⟩
theorem Box3.alloc {w : World} {b : Nat} {u v x : Value} (h : Box3 w b u v x) (o : Obj) : Box3 (w.alloc o) b u v x := h.stay ((Below.refl _ _).alloc (Nat.le_refl _) o)
theorem Box3.lt {w : World} {b : Nat} {u v x : Value} (h : Box3 w b u v x) : b < w.heap.size := World.block_lt_of_cell? w ⟨b, 0, none⟩ h.c0
theorem box3_new (w : World) (u v x : Value) (t : TypeId) : Box3 (w.alloc (.cells #[u, v, x] t)) w.heap.size u v x := ⟨by simp, by simp, by simp, by simp [go_sem], by simp [go_sem], by simp [go_sem]⟩

theorem Box3.set {w : World} {b : Nat} {u v x : Value} (h : Box3 w b u v x) (p q r : Value) :
    (((w.setCell ⟨b, 0, none⟩ p).setCell ⟨b, 1, none⟩ q).setCell ⟨b, 2, none⟩ r).cell? ⟨b, 0, none⟩ = some p ∧
    (((w.setCell ⟨b, 0, none⟩ p).setCell ⟨b, 1, none⟩ q).setCell ⟨b, 2, none⟩ r).cell? ⟨b, 1, none⟩ = some q ∧
    (((w.setCell ⟨b, 0, none⟩ p).setCell ⟨b, 1, none⟩ q).setCell ⟨b, 2, none⟩ r).cell? ⟨b, 2, none⟩ = some r := set3 p q r h.c0 h.c1 h.c2

end Go.Lb
