/-
  The walks of the reference's nans, less, pick, Min, Max. The walks of the reference's pick, Min, Max.
-/
import Derived.Test.YtfjgmpfpadfknaaGreatDoorQbNMN28
namespace Go.Proofs.YtfjgmpfpadfknaaGreatDoor
open Go.RowKit Go.Lb
theorem take_snoc {L : List (Bool × Bool)} {k : Nat} (h : k < L.length) : L.take (k + 1) = L.take k ++ [L[k]] := by
 rw [List.take_add_one, List.getElem?_eq_getElem h]; rfl
structure FrT (e : TypeId) (w : World) (base top : Nat) (ao : Option Addr) (n c : Nat) (xs : List Nat) : Prop where
 fr : Fr e w base ao n c xs
 le : top ≤ w.heap.size
 lt : ∀ g, blkOf ao = some g → g < top
theorem frT {e : TypeId} {w : World} {base : Nat} {ao : Option Addr} {n c : Nat} {xs : List Nat} (h : Fr e w base ao n c xs) : FrT e w base w.heap.size ao n c xs := ⟨h, Nat.le_refl _, fun _ hg => (fr_lt h hg).2⟩
theorem FrT.slo {e : TypeId} {w w' : World} {base top : Nat} {ao : Option Addr} {n c : Nat} {xs : List Nat} (_ : FrT e w base top ao n c xs) (h : FrT e w' base top ao n c xs) : Sl w' ao n c xs := h.fr.sl
theorem FrT.below {e : TypeId} {w w' : World} {base top : Nat} {ao : Option Addr} {n c : Nat} {xs : List Nat} (h : FrT e w base top ao n c xs) (hb : Below w.heap.size w w') : FrT e w' base top ao n c xs := ⟨h.fr.below hb, Nat.le_trans h.le hb.size, h.lt⟩
theorem FrT.alloc {e : TypeId} {w : World} {base top : Nat} {ao : Option Addr} {n c : Nat} {xs : List Nat} (h : FrT e w base top ao n c xs) (o : Obj) : FrT e (w.alloc o) base top ao n c xs := h.below ((Below.refl _ _).alloc (Nat.le_refl _) o)
theorem FrT.drew {e : TypeId} {w : World} {base top : Nat} {ao : Option Addr} {n c : Nat} {xs : List Nat} (h : FrT e w base top ao n c xs) : FrT e w.drew base top ao n c xs := h.below (Below.refl _ _).drew
theorem FrT.setCell {e : TypeId} {w : World} {base top : Nat} {ao : Option Addr} {n c : Nat} {xs : List Nat} (h : FrT e w base top ao n c xs) {p : Addr} (hp : p.block < base ∨ top ≤ p.block) (v : Value) : FrT e (w.setCell p v) base top ao n c xs :=
 ⟨fr_at h.fr (by simp) fun g hg _ => Below.heap_setCell w p v g (by have := (fr_lt h.fr hg).1; have := h.lt g hg; omega), by simpa using h.le, h.lt⟩
end Go.Proofs.YtfjgmpfpadfknaaGreatDoor
