/-
  The walk of forms.Nought.
-/
import Derived.Test.YtmiheaoojmgalaaDoorForms
import Derived.Test.YtmiheaoojmgalaaDoorBoxes
namespace Go.Proofs.YtmiheaoojmgalaaDoor
open Go.RowKit Go.Lb

theorem noughtLit_any (w : World) :
    Calls Tryd.prog 64 #[] w fun en w' => en = .returned (.tuple #[.int .u64 0, .int .u64 0]) ∧ w = w' := by
  go_enter Tryd.func64, Tryd.ntmps64
  go_wp2
  go_ret2
  exact ⟨rfl, rfl⟩

set_option maxRecDepth 100000 in
set_option maxHeartbeats 1600000 in
theorem knownNought_any (e f : Nat) (neg : Bool) (w : World) (h : formE (e : Int) (f : Int) = 0) :
    Calls Tryd.prog 63 #[.agg #[.int .i64 e, .int .i64 f], .bool neg, .func (.func 64) #[] #[]] w fun en w' => en = .returned (.tuple #[.int .u64 (joinN e f neg 0 0 : Int), .int .i64 0]) ∧ Below w.heap.size w w' := by
  obtain ⟨h1, h2, h3, h4⟩ := formE_ok h
  have g1 : 2 ≤ e := by omega
  have g2 : e ≤ 11 := by omega
  have g3 : f ≤ 52 := by omega
  have pe := pw_pos e
  have pf := pw_pos f
  go_enter Tryd.func63, Tryd.ntmps63
  go_wp2_with fail
  refine (formCheck_any e f _).mono ?_
  rintro en w1 ⟨rfl, hb1⟩
  rw [h]
  have ⟨a0, a1⟩ := (box2_new w (.int .i64 (e : Int)) (.int .i64 (f : Int)) 23).stay hb1
  go_wp2_with (go_at_call 64; refine (noughtLit_any _).mono ?_; rintro en w2 ⟨rfl, rfl⟩)
  refine (join_any e f neg 0 0 _ g1 g2 g3 pe pf).mono ?_
  rintro en w2 ⟨rfl, hb2⟩
  go_wp2
  go_ret2
  exact ⟨rfl, next (next (more (Below.refl _ _) _) hb1) hb2⟩

set_option maxRecDepth 100000 in
set_option maxHeartbeats 1600000 in
theorem formsNought_any (e f : Nat) (neg : Bool) (w : World) (h : formE (e : Int) (f : Int) = 0) :
    Calls Tryd.prog 31 #[.agg #[.int .i64 e, .int .i64 f], .bool neg] w fun en w' => en = .returned (.tuple #[.int .u64 (joinN e f neg 0 0 : Int), .int .i64 0]) ∧ Below w.heap.size w w' := by
  go_enter Tryd.func31, Tryd.ntmps31
  go_wp2_with fail
  refine (knownNought_any e f neg _ h).mono ?_
  rintro en w1 ⟨rfl, hb1⟩
  go_wp2
  go_ret2
  exact ⟨rfl, next (more (Below.refl _ _) _) hb1⟩

end Go.Proofs.YtmiheaoojmgalaaDoor
