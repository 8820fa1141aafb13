/-
  The walk of nat.Add: a sum in a block of its own. The walks of nat.Sub and nat.Cmp. The walks of the reference's plus, less, fits, two, Add, Sub, Cmp. The walks of nat.Mul and of the reference's times and Mul: a product in a block of its own. The walks of the reference's less, times, fits, two, Add, Sub, Mul, Cmp. The walks of the reference's Add, Sub, Mul, Cmp of numbers.
-/
import Derived.Test.YthemcdnlcgmimaaGreatDoorUps
import Derived.Test.YthemcdnlcgmimaaGreatDoorBoxes
import Derived.Test.YthemcdnlcgmimaaGreatDoorMakes
namespace Go.Proofs.YthemcdnlcgmimaaGreatDoor
open Go.RowKit Go.Lb

end Go.Proofs.YthemcdnlcgmimaaGreatDoor

namespace Go.Proofs.YthemcdnlcgmimaaGreatDoor
open Go.RowKit Go.Lb

/-- A difference's answer. -/
def Subs (w : World) (N : Nat) (b : Bool) (e : Ending) (w' : World) : Prop :=
  ∃ ao n c, e = .returned (.tuple #[.agg #[.slice ao n c], .bool b, .int .i64 0]) ∧ Fr 46 w' w.heap.size ao n c (limbs N) ∧ Below w.heap.size w w'

end Go.Proofs.YthemcdnlcgmimaaGreatDoor

namespace Go.Proofs.YthemcdnlcgmimaaGreatDoor
open Go.RowKit Go.Lb

end Go.Proofs.YthemcdnlcgmimaaGreatDoor

namespace Go.Proofs.YthemcdnlcgmimaaGreatDoor
open Go.RowKit Go.Lb

theorem lvs_set (zs : List Nat) (p d : Nat) : (lvs zs).set p (lv d) = lvs (zs.set p d) := by
  unfold lvs
  rw [List.map_set]

theorem fine_ge {xs : List Nat} (h : Fine xs) (h0 : xs ≠ []) : 4294967296 ^ (xs.length - 1) ≤ val xs := by
  rcases Nat.lt_or_ge (val xs) (4294967296 ^ (xs.length - 1)) with hh | hh
  · have h1 := limbs_length_le hh
    rw [limbs_val h] at h1
    have h2 : xs.length ≠ 0 := fun e => h0 (List.eq_nil_of_length_eq_zero e)
    omega
  · exact hh

/-- Too long a product. -/
theorem prod_many {xs ys : List Nat} (hx : Fine xs) (hy : Fine ys) (h1 : xs.length ≤ 16384) (h2 : ys.length ≤ 16384) (h : 16385 < xs.length + ys.length) : ¬ (limbs (val xs * val ys)).length ≤ 16384 := by
  intro hc
  obtain ⟨M, hM⟩ : ∃ M : Nat, M = 16384 := ⟨_, rfl⟩
  rw [← hM] at hc
  have h3 := lt_of_limbs_length hc
  have g1 := fine_ge hx (fun e => by rw [e] at h; simp at h; omega)
  have g2 := fine_ge hy (fun e => by rw [e] at h; simp at h; omega)
  have g3 := Nat.mul_le_mul g1 g2
  rw [← Nat.pow_add] at g3
  have g4 : 4294967296 ^ M ≤ 4294967296 ^ (xs.length - 1 + (ys.length - 1)) := Nat.pow_le_pow_right (by decide) (by omega)
  omega

theorem mul_facts {x y z c : Nat} (hx : x < 4294967296) (hy : y < 4294967296) (hz : z < 4294967296) (hc : c < 4294967296) : x * y < 18446744073709551616 ∧ x * y + z < 18446744073709551616 ∧ c + (x * y + z) < 18446744073709551616 ∧ x * y + z + c < 18446744073709551616 := by
  have : x * y ≤ 4294967295 * 4294967295 := Nat.mul_le_mul (by omega) (by omega)
  omega

theorem mul_wraps {x y z c : Nat} (hx : x < 4294967296) (hy : y < 4294967296) (hz : z < 4294967296) (hc : c < 4294967296) :
    IntKind.u64.wrap ((x : Int) * (y : Int)) = (x : Int) * (y : Int) ∧ IntKind.u64.wrap ((x : Int) * (y : Int) + (z : Int)) = (x : Int) * (y : Int) + (z : Int) ∧ IntKind.u64.wrap ((c : Int) + ((x : Int) * (y : Int) + (z : Int))) = (c : Int) + ((x : Int) * (y : Int) + (z : Int)) ∧ IntKind.u64.wrap ((x : Int) * (y : Int) + (z : Int) + (c : Int)) = (x : Int) * (y : Int) + (z : Int) + (c : Int) := by
  have h := mul_facts hx hy hz hc
  have e : (x : Int) * (y : Int) = ((x * y : Nat) : Int) := (Int.natCast_mul x y).symm
  rw [e]
  generalize x * y = p at h
  refine ⟨?_, ?_, ?_, ?_⟩ <;> (rw [IntKind.wrap_u64]; omega)

theorem wrap_limb {x : Nat} (hx : x < 4294967296) : IntKind.u64.wrap (x : Int) = (x : Int) := by
  rw [IntKind.wrap_u64]
  omega

end Go.Proofs.YthemcdnlcgmimaaGreatDoor

namespace Go.Proofs.YthemcdnlcgmimaaGreatDoor
open Go.RowKit Go.Lb

/-- A part of a row that lay there before lay there before. -/
theorem Fr.cut {e : TypeId} {w w' : World} {base : Nat} {ao : Option Addr} {n k c : Nat} {xs ys : List Nat} (h : Fr e w base ao n c xs) (h' : Fr e w' base ao k c ys) (hb : Below w.heap.size w w') : Fr e w base ao k c ys := by
  obtain ⟨s1, s2⟩ := h'
  rcases h.blk with ⟨rfl, h2, h3⟩ | ⟨g, cur, rfl, hg, hh, hc⟩
  · rcases s2 with ⟨_, t2, t3⟩ | ⟨g', _, e1, _⟩
    · exact ⟨⟨s1.len, s1.le, s1.cap, s1.ok, fun hn => absurd hn (by omega)⟩, .inl ⟨rfl, t2, t3⟩⟩
    · cases e1
  · have hl := (Array.getElem?_eq_some_iff.1 hh).1
    have hq := hb.block g hl
    refine ⟨⟨s1.len, s1.le, s1.cap, s1.ok, fun hn => ?_⟩, .inr ⟨g, cur, rfl, hg, hh, hc⟩⟩
    obtain ⟨b, o, e1, _, hcell⟩ := s1.at_ hn
    cases e1
    exact ⟨g, 0, rfl, hl, fun j hj => (World.cell?_of_block hq.symm).trans (hcell j hj)⟩

end Go.Proofs.YthemcdnlcgmimaaGreatDoor

namespace Go.Proofs.YthemcdnlcgmimaaGreatDoor
open Go.RowKit Go.Lb

end Go.Proofs.YthemcdnlcgmimaaGreatDoor
