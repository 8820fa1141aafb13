/-
  The walks of the small functions of forms.
-/
import Derived.Test.YtnokabglkmiidaaDoorNatD
import Derived.Test.YtnokabglkmiidaaDoorWords
namespace Go.Proofs.YtnokabglkmiidaaDoor
open Go.RowKit Go.Lb

/-- May a form be? -/
def formB (e f : Int) : Bool := decide (2 ≤ e ∧ e ≤ 11 ∧ 1 ≤ f ∧ f ≤ 52)
def formE (e f : Int) : Int := if formB e f = true then 0 else 5

theorem formE_ok {e f : Int} (h : formE e f = 0) : 2 ≤ e ∧ e ≤ 11 ∧ 1 ≤ f ∧ f ≤ 52 := by
  unfold formE at h
  split at h
  · rename_i hb; simpa [formB] using hb
  · cases h

theorem formE_yes {e f : Int} (h : 2 ≤ e ∧ e ≤ 11 ∧ 1 ≤ f ∧ f ≤ 52) : formE e f = 0 := by
  unfold formE formB; rw [if_pos (by simpa using h)]
theorem formE_no {e f : Int} (h : ¬(2 ≤ e ∧ e ≤ 11 ∧ 1 ≤ f ∧ f ≤ 52)) : formE e f = 5 := by
  unfold formE formB; rw [if_neg (by simpa using h)]

set_option maxHeartbeats 400000 in
theorem formCheck_any (e f : Int) (w : World) :
    Calls Tryd.prog 101 #[.agg #[.int .i64 e, .int .i64 f]] w fun en w' => en = .returned (.int .i64 (formE e f)) ∧ Below w.heap.size w w' := by
  by_cases h1 : e < 2
  · have H := Lib.hid (formE_no (e := e) (f := f) (by omega))
    go_enter Tryd.func101, Tryd.ntmps101
    go_wp2
    go_ret
    exact ⟨by rw [H.out]; rfl, more (Below.refl _ _) _⟩
  · by_cases h2 : 11 < e
    · have H := Lib.hid (formE_no (e := e) (f := f) (by omega))
      go_enter Tryd.func101, Tryd.ntmps101
      go_wp2
      go_ret
      exact ⟨by rw [H.out]; rfl, more (Below.refl _ _) _⟩
    · by_cases h3 : f < 1
      · have H := Lib.hid (formE_no (e := e) (f := f) (by omega))
        go_enter Tryd.func101, Tryd.ntmps101
        go_wp2
        go_ret
        exact ⟨by rw [H.out]; rfl, more (Below.refl _ _) _⟩
      · by_cases h4 : 52 < f
        · have H := Lib.hid (formE_no (e := e) (f := f) (by omega))
          go_enter Tryd.func101, Tryd.ntmps101
          go_wp2
          go_ret
          exact ⟨by rw [H.out]; rfl, more (Below.refl _ _) _⟩
        · have H := Lib.hid (formE_yes (e := e) (f := f) (by omega))
          go_enter Tryd.func101, Tryd.ntmps101
          go_wp2
          go_ret
          exact ⟨by rw [H.out]; rfl, more (Below.refl _ _) _⟩

theorem bias_fin : ∀ e : Fin 12, wrap64 (wrap64 (2 ^ (e.val - 1)) - 1) = ((2 ^ (e.val - 1) - 1 : Nat) : Int) := by decide +kernel
theorem bias_wrap {e : Nat} (h : e ≤ 11) : wrap64 (wrap64 (2 ^ (e - 1)) - 1) = (biasN e : Int) := by unfold biasN; exact bias_fin ⟨e, by omega⟩

theorem bias_any (e f : Nat) (w : World) (h1 : 2 ≤ e) (h2 : e ≤ 11) :
    Calls Tryd.prog 46 #[.agg #[.int .i64 e, .int .i64 f]] w fun en w' => en = .returned (.int .i64 (biasN e : Int)) ∧ Below w.heap.size w w' := by
  have H := Lib.hid (bias_wrap h2)
  go_enter Tryd.func46, Tryd.ntmps46
  go_wp2
  go_ret
  exact ⟨by rw [← H.out]; simp, more (Below.refl _ _) _⟩

theorem mask_any (k : Nat) (w : World) (h2 : k ≤ 64) :
    Calls Tryd.prog 75 #[.int .i64 k] w fun en w' => en = .returned (.int .u64 (maskN k : Int)) ∧ w = w' := by
  have H := Lib.hid (mask_bits h2)
  go_enter Tryd.func75, Tryd.ntmps75
  go_wp2
  go_ret
  exact ⟨by rw [← H.out]; simp, rfl⟩

/-- A field put in. (No simp rule looks into it.) -/
def putN (b fld fr : Nat) : Nat := b + fld * pw fr

set_option maxHeartbeats 400000 in
theorem put_any (fr sz b fld : Nat) (w : World) (hb : b < pw fr) (hs : fr + sz ≤ 64) (hf : fld < pw sz) :
    Calls Tryd.prog 126 #[.agg #[.int .i64 fr, .int .i64 sz], .int .u64 b, .int .u64 fld] w fun en w' => en = .returned (.int .u64 (putN b fld fr : Int)) ∧ Below w.heap.size w w' := by
  obtain ⟨e1, e2, _⟩ := put_bits hb hs hf
  have H2 := Lib.hid e2
  clear e2 hb hf
  go_enter Tryd.func126, Tryd.ntmps126
  go_wp2
  go_quiet ((go_at_call 75; exact quiet_l (fun W e => mask_any sz W (by omega)) _))
  go_wp2
  go_ret
  exact ⟨by rw [show (putN b fld fr : Int) = ((b + fld * pw fr : Nat) : Int) from rfl, ← H2.out]; rfl, drewn (more (Below.refl _ _) _) _⟩

end Go.Proofs.YtnokabglkmiidaaDoor
