/-
  The walks of nat's small functions: Check, Bits, Low (they only read).
-/
import Derived.Test.YtnokabglkmiidaaDoorRows
import Derived.Test.YtnokabglkmiidaaDoorMem
import Derived.Deep.QuietTactic
import Derived.BigQuiet
import Derived.Lib.BitFns
import Derived.Handy
namespace Go.Proofs.YtnokabglkmiidaaDoor
open Go.RowKit Go.Lb

/-- The error of a number. -/
def chk (xs : List Nat) : Int := if 16384 < xs.length then 4 else if 0 < xs.length ∧ nth xs (xs.length - 1) = 0 then 10 else 0

set_option maxHeartbeats 400000 in
theorem natCheck_any (ao : Option Addr) (n c : Nat) (xs : List Nat) (w : World) (h : Sl w ao n c xs) :
    Calls Tryd.prog 35 #[.agg #[.slice ao n c]] w fun e w' => e = .returned (.int .i64 (chk xs)) ∧ Below w.heap.size w w' := by
  have hl := h.len
  have hle := h.le
  have hcap := h.cap
  by_cases h1 : 16384 < n
  · have hk : chk xs = 4 := by unfold chk; rw [if_pos (by omega)]
    have Hk := Lib.hid hk
    clear h hl hk
    go_enter Tryd.func35, Tryd.ntmps35
    go_wp2
    go_ret
    exact ⟨by rw [Hk.out]; rfl, (Below.refl _ _).alloc (Nat.le_refl _) _⟩
  · by_cases h0 : n = 0
    · have hk : chk xs = 0 := by unfold chk; rw [if_neg (by omega), if_neg (by omega)]
      have Hk := Lib.hid hk
      clear h hl hk
      subst h0
      go_enter Tryd.func35, Tryd.ntmps35
      go_wp2
      go_ret
      exact ⟨by rw [Hk.out]; rfl, (Below.refl _ _).alloc (Nat.le_refl _) _⟩
    · obtain ⟨b, o, rfl, hb, hc⟩ := h.at_ (by omega)
      have hcell := hc (n - 1) (by omega)
      by_cases h2 : nth xs (n - 1) = 0
      · have hk : chk xs = 10 := by unfold chk; rw [if_neg (by omega), if_pos ⟨by omega, by rw [hl]; exact h2⟩]
        have Hk := Lib.hid hk
        rw [h2] at hcell
        clear h hl hk hc h2
        go_enter Tryd.func35, Tryd.ntmps35
        go_wp2
        go_ret
        exact ⟨by rw [Hk.out]; rfl, (Below.refl _ _).alloc (Nat.le_refl _) _⟩
      · have hk : chk xs = 0 := by unfold chk; rw [if_neg (by omega), if_neg (by rw [hl]; exact fun x => h2 x.2)]
        have Hk := Lib.hid hk
        clear h hl hk hc
        go_enter Tryd.func35, Tryd.ntmps35
        go_wp2
        go_ret
        exact ⟨by rw [Hk.out]; rfl, (Below.refl _ _).alloc (Nat.le_refl _) _⟩
end Go.Proofs.YtnokabglkmiidaaDoor
