/-
  The walks of the reference's up and Up. The walks of the reference's Neg and Mul of dyadics. (Printed by wip/gen/rf.py out of XExMul.) The walk of the reference's Add of dyadics, its first ways. (Printed by wip/gen/radd.py.) The walk of the reference's Add of dyadics, its last ways, and all of it. (Printed by wip/gen/radd.py.) The walks of the reference's top, bigger and Cmp of dyadics. (Printed by wip/gen/rcmp.py.)
-/
import Derived.Test.YteoceoepakfgiaaDoorMakes
import Derived.Test.YteoceoepakfgiaaDoorSumNs
import Derived.Test.YteoceoepakfgiaaDoorExs
import Derived.Test.YteoceoepakfgiaaDoorNatOps
import Derived.Test.YteoceoepakfgiaaDoorNats
namespace Go.Proofs.YteoceoepakfgiaaDoor
open Go.RowKit Go.Lb

theorem u64_or_low (x c s : Nat) (hc : c < 2 ^ s) (hb : x * 2 ^ s + c < 18446744073709551616) : bits .or .u64 ((x : Int) * 2 ^ s) (c : Int) = ((x * 2 ^ s + c : Nat) : Int) := by
  have e : (x : Int) * 2 ^ s = ((x * 2 ^ s : Nat) : Int) := by rw [Int.natCast_mul, Int.natCast_pow]; rfl
  have h1 : (BitVec.ofInt 64 (c : Int)).toNat = c := by
    rw [BitVec.ofInt_natCast, BitVec.toNat_ofNat]; exact Nat.mod_eq_of_lt (by omega)
  have h2 : (BitVec.ofInt 64 ((x : Int) * 2 ^ s)).toNat = 2 ^ s * x := by
    rw [e, BitVec.ofInt_natCast, BitVec.toNat_ofNat, Nat.mod_eq_of_lt (by omega), Nat.mul_comm]
  show IntKind.u64.wrap ((BitVec.ofInt 64 ((x : Int) * 2 ^ s) ||| BitVec.ofInt 64 (c : Int)).toNat : Int) = _
  rw [BitVec.toNat_or, h1, h2, ← Nat.two_pow_add_eq_or_of_lt hc, Nat.mul_comm, IntKind.wrap_u64]
  omega

end Go.Proofs.YteoceoepakfgiaaDoor

namespace Go.Proofs.YteoceoepakfgiaaDoor
open Go.RowKit Go.Lb

end Go.Proofs.YteoceoepakfgiaaDoor

namespace Go.Proofs.YteoceoepakfgiaaDoor
open Go.RowKit Go.Lb

end Go.Proofs.YteoceoepakfgiaaDoor

namespace Go.Proofs.YteoceoepakfgiaaDoor
open Go.RowKit Go.Lb

end Go.Proofs.YteoceoepakfgiaaDoor

namespace Go.Proofs.YteoceoepakfgiaaDoor
open Go.RowKit Go.Lb

theorem cell3_alloc {w : World} {b : Nat} {u v x : Value} (h : Cell3 w b u v x) (o : Obj) : Cell3 (w.alloc o) b u v x := h.stay ((Below.refl _ _).alloc (Nat.le_refl _) o)

theorem bgA_bounds (xs : List Nat) (x : Int) (ys : List Nat) (y : Int) : -1 ≤ bgA xs x ys y ∧ bgA xs x ys y ≤ 1 := by
  unfold bgA
  split
  · decide
  · split
    · decide
    · exact cmpN_bounds _ _

end Go.Proofs.YteoceoepakfgiaaDoor
