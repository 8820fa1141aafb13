/-
  The walks of the reference's cmp and Same, asked of two numbers that read alike.
-/
import Derived.Test.YtnokabglkmiidaaDoorNatB
import Derived.Test.YtnokabglkmiidaaDoorMk
namespace Go.Proofs.YtnokabglkmiidaaDoor
open Go.RowKit Go.Lb

set_option maxHeartbeats 1600000 in
theorem refCmpL_eq (a1 a2 : Option Addr) (n c1 c2 : Nat) (xs : List Nat) (w : World) (h1 : Sl w a1 n c1 xs) (h2 : Sl w a2 n c2 xs) :
    Calls Tryd.prog 70 #[.slice a1 n c1, .slice a2 n c2] w fun e w' => e = .returned (.int .i64 0) ∧ Below w.heap.size w w' := by
  have hle := h1.le
  have hcap := h1.cap
  go_enter Tryd.func70, Tryd.ntmps70
  go_wp2
  go_loopw [5] (fun i wr => ∃ k m : Nat, k ≤ n ∧ i = .int .i64 ((k : Int) - 1) ∧ wr = w.drewN m) (fun i _ => (intOf i + 1).toNat)
  case atStart => exact ⟨n, 0, by omega, rfl, rfl⟩
  case round =>
    obtain ⟨k, m, hk, rfl, rfl⟩ := hrel
    by_cases h0 : k = 0
    · subst h0
      go_wp2
      go_ret
      exact ⟨rfl, drewn (Below.refl _ _) _⟩
    · obtain ⟨j, rfl⟩ : ∃ j, k = j + 1 := ⟨k - 1, by omega⟩
      obtain ⟨b1, o1, rfl, hb1, hc1⟩ := h1.at_ (by omega)
      obtain ⟨b2, o2, rfl, hb2, hc2⟩ := h2.at_ (by omega)
      have k1 := hc1 j (by omega)
      have k2 := hc2 j (by omega)
      have hj0 : (0 : Int) ≤ (j : Int) := by omega
      have hjn : (j : Int) < (n : Int) := by omega
      clear hc1 hc2
      go_wp2
      go_quiet (fail)
      go_wp2
      go_quiet (fail)
      go_wp2
      go_roundw
      case rel => exact ⟨j, _, by omega, by go_num, rfl⟩
      case measure => simp [intOf]

theorem refSame_eq (a1 a2 : Option Addr) (n c1 c2 : Nat) (xs : List Nat) (w : World) (h1 : Sl w a1 n c1 xs) (h2 : Sl w a2 n c2 xs) :
    Calls Tryd.prog 42 #[.agg #[.slice a1 n c1], .agg #[.slice a2 n c2]] w fun e w' => e = .returned (.bool true) ∧ Below w.heap.size w w' := by
  go_enter Tryd.func42, Tryd.ntmps42
  go_wp2_with (go_at_call 70; refine (refCmpL_eq a1 a2 n c1 c2 xs _ ((h1.alloc _).alloc _) ((h2.alloc _).alloc _)).mono ?_; rintro e w1 ⟨rfl, hb1⟩)
  go_ret
  exact ⟨rfl, next (more (more (Below.refl _ _) _) _) hb1⟩

theorem refDySame_eq (neg : Bool) (x : Int) (a1 a2 : Option Addr) (n c1 c2 : Nat) (xs : List Nat) (w : World) (h1 : Sl w a1 n c1 xs) (h2 : Sl w a2 n c2 xs) :
    Calls Tryd.prog 40 #[.agg #[.bool neg, .slice a1 n c1, .int .i64 x], .agg #[.bool neg, .slice a2 n c2, .int .i64 x]] w fun e w' => e = .returned (.bool true) ∧ Below w.heap.size w w' := by
  go_enter Tryd.func40, Tryd.ntmps40
  go_wp2_with (go_at_call 42; refine (refSame_eq a1 a2 n c1 c2 xs _ ((h1.alloc _).alloc _) ((h2.alloc _).alloc _)).mono ?_; rintro e w1 ⟨rfl, hb1⟩)
  go_ret
  exact ⟨rfl, next (more (more (Below.refl _ _) _) _) hb1⟩

end Go.Proofs.YtnokabglkmiidaaDoor
