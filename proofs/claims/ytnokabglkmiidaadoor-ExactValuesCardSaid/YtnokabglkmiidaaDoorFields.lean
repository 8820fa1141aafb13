/-
  The walk of the reference's Fields: bits taken apart.
-/
import Derived.Test.YtnokabglkmiidaaDoorSplit
namespace Go.Proofs.YtnokabglkmiidaaDoor
open Go.RowKit Go.Lb

theorem pw_u64 {f : Nat} (hf : f ≤ 52) : IntKind.u64.wrap (2 ^ f) = ((pw f : Nat) : Int) := by
  have hp : pw f ≤ 4503599627370496 := by have := pw_le hf; rw [show pw 52 = 4503599627370496 by unfold pw; rfl] at this; exact this
  rw [show (2 : Int) ^ f = ((pw f : Nat) : Int) by unfold pw; rw [Int.natCast_pow]; rfl]
  exact IntWalk.u64_in _ (by omega)

set_option maxRecDepth 100000 in
set_option maxHeartbeats 1600000 in
theorem refFields_any (e f b : Nat) (w : World) (he : e ≤ 11) (hf : f ≤ 52) (hb : b < 18446744073709551616) (hp : b < pw (1 + e + f)) :
    Calls Tryd.prog 44 #[.agg #[.int .i64 e, .int .i64 f], .int .u64 b] w fun en w' => en = .returned (.tuple #[.bool (sgB e f b), .int .i64 (exN e f b), .int .u64 (frN f b)]) ∧ Below w.heap.size w w' := by
  have ht : ((e : Int) + (f : Int)).toNat = e + f := by omega
  have wf := pw_u64 hf
  have we := pw_u64 (show e ≤ 52 by omega)
  have hpf := pw_pos f
  have hpe := pw_pos e
  have n1 : ¬ IntKind.u64.wrap (2 ^ f) = 0 := by rw [wf]; omega
  have n2 : ¬ IntKind.u64.wrap (2 ^ e) = 0 := by rw [we]; omega
  have e1 : ((b : Int) / 2 ^ (e + f) == 1) = sgB e f b := by
    rw [int_div_pow]
    unfold sgB takeN
    have h1 : b / pw (f + e) < 2 := by
      refine Nat.div_lt_of_lt_mul ?_
      rw [Nat.add_comm f e, Nat.mul_comm, ← pw_succ, show e + f + 1 = 1 + e + f by omega]
      exact hp
    have h2 : b / 2 ^ (e + f) = b / pw (f + e) := by unfold pw; rw [Nat.add_comm]
    rw [h2, show pw 1 = 2 by unfold pw; rfl, Nat.mod_eq_of_lt h1]
    generalize b / pw (f + e) = q at h1 ⊢
    rcases (by omega : q = 0 ∨ q = 1) with rfl | rfl <;> rfl
  have e2 : wrap64 (((b : Int) / 2 ^ f).tmod (IntKind.u64.wrap (2 ^ e))) = (exN e f b : Int) := by
    rw [we, int_div_pow, Int.tmod_eq_emod_of_nonneg (Int.natCast_nonneg _), ← Int.natCast_emod, show b / 2 ^ f % pw e = takeN b f e by unfold takeN pw; rfl]
    have := takeN_lt b f e
    have hle := pw_le he
    rw [show pw 11 = 2048 by unfold pw; rfl] at hle
    exact wrap64_nat (takeN b f e) (by omega)
  have e3 : (b : Int) % IntKind.u64.wrap (2 ^ f) = (frN f b : Int) := by
    rw [wf, ← Int.natCast_emod]
    unfold frN takeN
    rw [pw_zero, Nat.div_one]
  have E1 := Lib.hid e1
  have E2 := Lib.hid e2
  have E3 := Lib.hid e3
  clear wf we hpf hpe e1 e2 e3 hp
  go_enter Tryd.func44, Tryd.ntmps44
  go_wp2
  go_ret3
  refine ⟨?_, more (Below.refl _ _) _⟩
  show Ending.returned (.tuple #[.bool ((b : Int) / 2 ^ (e + f) == 1), .int .i64 (wrap64 (((b : Int) / 2 ^ f).tmod (IntKind.u64.wrap (2 ^ e)))), .int .u64 ((b : Int) % IntKind.u64.wrap (2 ^ f))]) = _
  rw [E1.out, E2.out, E3.out]

end Go.Proofs.YtnokabglkmiidaaDoor
