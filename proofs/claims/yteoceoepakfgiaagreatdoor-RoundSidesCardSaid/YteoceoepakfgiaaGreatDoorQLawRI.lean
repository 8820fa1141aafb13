/-
  The walk of the law RoundInteger: it answers true, whatever it is asked; nothing that was there has turned.
-/
import Derived.Deep.CutRange
import Derived.Test.YteoceoepakfgiaaGreatDoorRtK
import Derived.Test.YteoceoepakfgiaaGreatDoorSmQ
import Derived.Test.YteoceoepakfgiaaGreatDoorIngL
import Derived.Test.YteoceoepakfgiaaGreatDoorQMirM
import Derived.Test.YteoceoepakfgiaaGreatDoorAliv5
namespace Go.Proofs.YteoceoepakfgiaaGreatDoor

open Go.RowKit Go.Lb

attribute [local go_sem] Go.World.cell?_alloc_some

/-- A fraction whose lower number is 1, kept in three cells of a row. -/
structure EntI (w : World) (L o : Nat) (t : Bool) (R : Nat) (a1 : Option Addr) (n1 c1 : Nat) (a2 : Option Addr) (n2 c2 : Nat) : Prop where
  e0 : w.cell? ⟨L, o, none⟩ = some (.bool t)
  e1 : w.cell? ⟨L, o + 1, none⟩ = some (.slice a1 n1 c1)
  e2 : w.cell? ⟨L, o + 2, none⟩ = some (.slice a2 n2 c2)
  s1 : Fr 37 w (L + 1) a1 n1 c1 (limbs R)
  s2 : Fr 37 w (L + 1) a2 n2 c2 (limbs 1)

def EntE (w : World) (L o : Nat) (t : Bool) (R : Nat) : Prop := ∃ a1 n1 c1 a2 n2 c2, EntI w L o t R a1 n1 c1 a2 n2 c2

/-- A row's cells may be written, whatever they hold. -/
def RowF (w : World) (L n : Nat) : Prop := ∀ j, j < n → (∃ v, w.cell? ⟨L, j, none⟩ = some v) ∧ w.frozen? ⟨L, j, none⟩ = false

theorem EntI.stay {wp w' : World} {L o : Nat} {t : Bool} {R : Nat} {a1 : Option Addr} {n1 c1 : Nat} {a2 : Option Addr} {n2 c2 : Nat} (h : EntI wp L o t R a1 n1 c1 a2 n2 c2) (k : Below wp.heap.size wp w') : EntI w' L o t R a1 n1 c1 a2 n2 c2 :=
  ⟨cellStay h.e0 k, cellStay h.e1 k, cellStay h.e2 k, h.s1.below k, h.s2.below k⟩

theorem EntE.stay {wp w' : World} {L o : Nat} {t : Bool} {R : Nat} (h : EntE wp L o t R) (k : Below wp.heap.size wp w') : EntE w' L o t R := by
  obtain ⟨a1, n1, c1, a2, n2, c2, h⟩ := h
  exact ⟨a1, n1, c1, a2, n2, c2, h.stay k⟩

theorem RowF.stay {wp w' : World} {L n : Nat} (h : RowF wp L n) (k : Below wp.heap.size wp w') : RowF w' L n := fun j hj => by
  obtain ⟨⟨v, hv⟩, hz⟩ := h j hj
  exact ⟨⟨v, cellStay hv k⟩, (cfStay ⟨hv, hz⟩ k).2⟩

theorem put_other {w : World} {L o q : Nat} (hq : q < o ∨ o + 2 < q) (x y z : Value) : (((w.setCell ⟨L, o, none⟩ x).setCell ⟨L, o + 1, none⟩ y).setCell ⟨L, o + 2, none⟩ z).cell? ⟨L, q, none⟩ = w.cell? ⟨L, q, none⟩ := by
  have hn : ∀ i : Nat, i ≠ q → (⟨L, i, none⟩ : Addr) ≠ ⟨L, q, none⟩ := fun i hi e => hi (congrArg Addr.off e)
  rw [World.cell?_setCell_other _ _ _ _ (hn (o + 2) (by omega)), World.cell?_setCell_other _ _ _ _ (hn (o + 1) (by omega)), World.cell?_setCell_other _ _ _ _ (hn o (by omega))]

theorem EntI.put {w : World} {L o q : Nat} {t : Bool} {R : Nat} {a1 : Option Addr} {n1 c1 : Nat} {a2 : Option Addr} {n2 c2 : Nat} (h : EntI w L q t R a1 n1 c1 a2 n2 c2) (hq : q + 2 < o ∨ o + 2 < q) (x y z : Value) :
    EntI (((w.setCell ⟨L, o, none⟩ x).setCell ⟨L, o + 1, none⟩ y).setCell ⟨L, o + 2, none⟩ z) L q t R a1 n1 c1 a2 n2 c2 :=
  ⟨(put_other (by omega) x y z).trans h.e0, (put_other (by omega) x y z).trans h.e1, (put_other (by omega) x y z).trans h.e2,
    ((h.s1.setCell (Nat.lt_succ_self L) _).setCell (Nat.lt_succ_self L) _).setCell (Nat.lt_succ_self L) _, ((h.s2.setCell (Nat.lt_succ_self L) _).setCell (Nat.lt_succ_self L) _).setCell (Nat.lt_succ_self L) _⟩

theorem RowF.put {w : World} {L n : Nat} (h : RowF w L n) (p : Nat) (x : Value) : RowF (w.setCell ⟨L, p, none⟩ x) L n := fun j hj => by
  obtain ⟨⟨v, hv⟩, hz⟩ := h j hj
  refine ⟨?_, by simp [hz]⟩
  by_cases e : p = j
  · subst e
    exact ⟨x, World.cell?_setCell_same _ _ _ hv⟩
  · refine ⟨v, ?_⟩
    rw [World.cell?_setCell_other _ _ _ _ (fun h => e (congrArg Addr.off h))]
    exact hv

theorem box3_off {w : World} {b L : Nat} {u v x : Value} (h : Box3 w b u v x) (hne : b ≠ L) (p : Nat) (y : Value) : Box3 (w.setCell ⟨L, p, none⟩ y) b u v x := by
  have hn : ∀ i : Nat, (⟨L, p, none⟩ : Addr) ≠ ⟨b, i, none⟩ := fun i e => hne (congrArg Addr.block e).symm
  exact ⟨(World.cell?_setCell_other _ _ _ _ (hn 0)).trans h.c0, (World.cell?_setCell_other _ _ _ _ (hn 1)).trans h.c1, (World.cell?_setCell_other _ _ _ _ (hn 2)).trans h.c2, by simp [h.z0], by simp [h.z1], by simp [h.z2]⟩

/-- A new box that holds a fraction whose lower number is 1. -/
structure PickB (wP wx : World) (b : Nat) (t : Bool) (r : Nat) : Prop where
  box : ∃ ea ek ec eb el ed, Box3 wx b (.bool t) (.slice ea ek ec) (.slice eb el ed) ∧ Sl wP ea ek ec (limbs r) ∧ Sl wP eb el ed (limbs 1)
  lb : wP.heap.size ≤ b
  below : Below wP.heap.size wP wx

theorem PickB.put {wP wx : World} {b c : Nat} {t : Bool} {r : Nat} (h : PickB wP wx b t r) (hc : wP.heap.size ≤ c) (hne : b ≠ c) (x y z : Value) : PickB wP (((wx.setCell ⟨c, 0, none⟩ x).setCell ⟨c, 1, none⟩ y).setCell ⟨c, 2, none⟩ z) b t r := by
  obtain ⟨⟨ea, ek, ec, eb, el, ed, h1, h2, h3⟩, h4, h5⟩ := h
  exact ⟨⟨ea, ek, ec, eb, el, ed, box3_off (box3_off (box3_off h1 hne _ _) hne _ _) hne _ _, h2, h3⟩, h4, ((h5.setCell hc _).setCell hc _).setCell hc _⟩

/-- What holds on from step to step: the argument's cells, the five fractions kept. -/
structure KeepI (w0 w : World) (L : Nat) (s : Bool) (a1 : Option Addr) (n1 c1 : Nat) (a2 : Option Addr) (n2 c2 : Nat) (R : Nat → Nat) : Prop where
  v : Below w0.heap.size w0 w
  x : Box3 w w0.heap.size (.bool s) (.slice a1 n1 c1) (.slice a2 n2 c2)
  l : L < w.heap.size
  e : ∀ m, m < 5 → EntE w L (m * 3) (nzB s (R m)) (R m)

theorem KeepI.stay {w0 wp w' : World} {L : Nat} {s : Bool} {a1 : Option Addr} {n1 c1 : Nat} {a2 : Option Addr} {n2 c2 : Nat} {R : Nat → Nat} (h : KeepI w0 wp L s a1 n1 c1 a2 n2 c2 R) (k : Below wp.heap.size wp w') : KeepI w0 w' L s a1 n1 c1 a2 n2 c2 R :=
  ⟨next h.v k, h.x.stay k, Nat.lt_of_lt_of_le h.l k.size, fun m hm => (h.e m hm).stay k⟩

end Go.Proofs.YteoceoepakfgiaaGreatDoor

