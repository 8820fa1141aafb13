/-
  The walks of exact.both, sign, twin, and of the reference's two, sign, Twin. The walks of exact.Neg and exact.Mul. The walk of exact.Add, way by way. (Printed by wip/gen/add.py.) The walk of exact.Add, its last way, and all of it. (Printed by wip/gen/add.py.) The walk of exact.Cmp. (Printed by wip/gen/cmp.py.)
-/
import Derived.Test.YthemcdnlcgmimaaGreatDoorSumNs
import Derived.Test.YthemcdnlcgmimaaGreatDoorNats
import Derived.Test.YthemcdnlcgmimaaGreatDoorMakes
import Derived.Test.YthemcdnlcgmimaaGreatDoorNatOps
import Derived.Deep.RegionHeld3
namespace Go.Proofs.YthemcdnlcgmimaaGreatDoor
open Go.RowKit Go.Lb

/-- A dyadic in memory of its own. -/
def Twn (s : Bool) (x : Int) (w : World) (n : Nat) (xs : List Nat) (e : Ending) (w' : World) : Prop :=
  ∃ ao c, e = .returned (.agg #[.bool s, .slice ao n c, .int .i64 x]) ∧ Fr 46 w' w.heap.size ao n c xs ∧ Below w.heap.size w w'

end Go.Proofs.YthemcdnlcgmimaaGreatDoor

namespace Go.Proofs.YthemcdnlcgmimaaGreatDoor
open Go.RowKit Go.Lb

theorem limbs_of_chk {ys : List Nat} (hok : Ok ys) (hc : chk ys = 0) : limbs (val ys) = ys := limbs_val (fine_of_chk hok hc)

theorem val_zero_n {w : World} {ao : Option Addr} {n c : Nat} {ys : List Nat} (h : Sl w ao n c ys) (hc : chk ys = 0) : val ys = 0 ↔ n = 0 := by
  rw [val_zero_iff h.ok hc, h.len]

theorem bigE_four {N : Nat} (h : bigE N ≠ 0) : bigE N = 4 := by
  unfold bigE at *
  split at h <;> simp_all

theorem bigN_of {N : Nat} (h : bigE N = 0) : bigN N = N := by
  unfold bigE at h
  unfold bigN
  split at h
  · rename_i hh; exact if_pos hh
  · cases h

theorem cmpF_ok {s t : Bool} {x y : Int} {xs ys : List Nat} (h : cmpF s xs x t ys y = 0) : dchk s xs x = 0 ∧ dchk t ys y = 0 := by
  unfold cmpF at h
  by_cases h0 : dchk s xs x = 0
  · rw [if_neg (by simp [h0])] at h
    exact ⟨h0, h⟩
  · rw [if_pos h0] at h
    exact absurd h h0

theorem mulA_bad {s t : Bool} {x y : Int} {xs ys : List Nat} (h : cmpF s xs x t ys y ≠ 0) : mulA s xs x t ys y = noA (cmpF s xs x t ys y) := by
  unfold mulA cmpF at *
  by_cases h0 : dchk s xs x = 0
  · rw [if_neg (by simp [h0])] at h ⊢
    rw [if_pos h, if_neg (by simp [h0])]
  · rw [if_pos h0, if_pos h0]

theorem addA_bad {s t : Bool} {x y : Int} {xs ys : List Nat} (h : cmpF s xs x t ys y ≠ 0) : addA s xs x t ys y = noA (cmpF s xs x t ys y) := by
  unfold addA cmpF at *
  by_cases h0 : dchk s xs x = 0
  · rw [if_neg (by simp [h0])] at h ⊢
    rw [if_pos h, if_neg (by simp [h0])]
  · rw [if_pos h0, if_pos h0]

end Go.Proofs.YthemcdnlcgmimaaGreatDoor

namespace Go.Proofs.YthemcdnlcgmimaaGreatDoor
open Go.RowKit Go.Lb

theorem chk_big {N : Nat} (h : bigE N = 0) : chk (limbs N) = 0 := by
  refine chk_limbs ?_
  unfold bigE at h
  split at h
  · assumption
  · cases h

end Go.Proofs.YthemcdnlcgmimaaGreatDoor

namespace Go.Proofs.YthemcdnlcgmimaaGreatDoor
open Go.RowKit Go.Lb

theorem box3_other {w : World} {b : Nat} {u v x : Value} (h : Box3 w b u v x) {p : Addr} (hp : p.block ≠ b) (r : Value) : Box3 (w.setCell p r) b u v x := by
  have hn : ∀ i : Nat, p ≠ (⟨b, i, none⟩ : Addr) := fun i e => hp (congrArg Addr.block e)
  exact ⟨(World.cell?_setCell_other _ _ _ _ (hn 0)).trans h.c0, (World.cell?_setCell_other _ _ _ _ (hn 1)).trans h.c1, (World.cell?_setCell_other _ _ _ _ (hn 2)).trans h.c2, (World.frozen?_setCell ..).trans h.z0, (World.frozen?_setCell ..).trans h.z1, (World.frozen?_setCell ..).trans h.z2⟩

end Go.Proofs.YthemcdnlcgmimaaGreatDoor

namespace Go.Proofs.YthemcdnlcgmimaaGreatDoor
open Go.RowKit Go.Lb

/-- What a block of three cells holds. -/
structure Cell3 (w : World) (b : Nat) (u v x : Value) : Prop where
  c0 : w.cell? ⟨b, 0, none⟩ = some u
  c1 : w.cell? ⟨b, 1, none⟩ = some v
  c2 : w.cell? ⟨b, 2, none⟩ = some x

theorem cmpN_bounds (m n : Nat) : -1 ≤ cmpN m n ∧ cmpN m n ≤ 1 := by
  rcases Nat.lt_trichotomy m n with h | h | h
  · rw [cmpN_lt h]; decide
  · rw [cmpN_eq h]; decide
  · rw [cmpN_gt h]; decide

theorem Cell3.stay {wp w' : World} {b : Nat} {u v x : Value} (h : Cell3 wp b u v x) (k : Below wp.heap.size wp w') : Cell3 w' b u v x := ⟨cellStay h.c0 k, cellStay h.c1 k, cellStay h.c2 k⟩

theorem sg_bounds (s : Bool) (n : Nat) : -1 ≤ sgA s n ∧ sgA s n ≤ 1 := by
  unfold sgA
  split
  · decide
  · split <;> decide

theorem sg_zero {s : Bool} {n : Nat} : sgA s n = 0 ↔ n = 0 := by
  unfold sgA
  constructor
  · intro h
    split at h
    · assumption
    · split at h <;> cases h
  · intro h
    exact if_pos h

theorem cmpA_bad {s t : Bool} {x y : Int} {xs ys : List Nat} (h : cmpF s xs x t ys y ≠ 0) : cmpA s xs x t ys y = 0 := by
  unfold cmpF at h
  unfold cmpA
  by_cases h0 : dchk s xs x = 0
  · rw [if_neg (by simp [h0])] at h
    exact if_pos (.inr h)
  · exact if_pos (.inl h0)

theorem cmpA_differ {s t : Bool} {x y : Int} {xs ys : List Nat} {n1 n2 : Nat} (e1 : xs.length = n1) (e2 : ys.length = n2) (h : cmpF s xs x t ys y = 0) (hd : sgA s n1 ≠ sgA t n2 ∨ sgA s n1 = 0) :
    cmpA s xs x t ys y = max (-1) (min 1 (sgA s n1 - sgA t n2)) := by
  obtain ⟨d1, d2⟩ := cmpF_ok h
  have b1 := sg_bounds s n1
  have b2 := sg_bounds t n2
  unfold cmpA
  rw [if_neg (by simp [d1, d2]), e1, e2]
  generalize sgA s n1 = S at *
  generalize sgA t n2 = Z at *
  split
  · omega
  · split
    · omega
    · split <;> omega

theorem cmpA_same {s t : Bool} {x y : Int} {xs ys : List Nat} {n1 n2 : Nat} (e1 : xs.length = n1) (e2 : ys.length = n2) (h : cmpF s xs x t ys y = 0) (hd : sgA t n2 = sgA s n1) (h0 : sgA s n1 ≠ 0) :
    cmpA s xs x t ys y = sgA s n1 * bgA xs x ys y := by
  obtain ⟨d1, d2⟩ := cmpF_ok h
  unfold cmpA
  rw [if_neg (by simp [d1, d2]), e1, e2, hd, if_neg (by omega), if_neg (by omega), if_neg h0]

end Go.Proofs.YthemcdnlcgmimaaGreatDoor
