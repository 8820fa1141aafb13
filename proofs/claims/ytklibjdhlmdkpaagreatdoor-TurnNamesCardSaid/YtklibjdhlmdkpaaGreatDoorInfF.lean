/-
  The walks of forms.Inf, soft's kit.inf.
-/
import Derived.Test.YtklibjdhlmdkpaaGreatDoorSplits
import Derived.Test.YtklibjdhlmdkpaaGreatDoorBoxes
namespace Go.Proofs.YtklibjdhlmdkpaaGreatDoor
open Go.RowKit Go.Lb

set_option maxRecDepth 100000 in
theorem infLit_any (q e f : Nat) (w : World) (he : e ≤ 64) (hB : Box2 w q (.int .i64 e) (.int .i64 f)) :
    Calls Tryz.prog 183 #[.pointer (some ⟨q, 0, none⟩)] w fun en w' => en = .returned (.tuple #[.int .u64 (maskN e : Int), .int .u64 0]) ∧ w = w' := by
  have ⟨a0, a1⟩ := hB
  have cM := mask_any e w he
  generalize maskN e = M at *
  go_enter Tryz.func183, Tryz.ntmps183
  go_wp2_with fail
  refine cM.mono ?_
  rintro en w1 ⟨rfl, rfl⟩
  go_wp2
  go_ret2
  exact ⟨rfl, rfl⟩

set_option maxRecDepth 100000 in
set_option maxHeartbeats 1600000 in
theorem knownInf_any (q e f : Nat) (neg : Bool) (w : World) (h : formE (e : Int) (f : Int) = 0) (hB : Box2 w q (.int .i64 e) (.int .i64 f)) :
    Calls Tryz.prog 182 #[.agg #[.int .i64 e, .int .i64 f], .bool neg, .func (.func 183) #[] #[.pointer (some ⟨q, 0, none⟩)]] w fun en w' => en = .returned (.tuple #[.int .u64 (joinN e f neg (maskN e) 0 : Int), .int .i64 0]) ∧ Below w.heap.size w w' := by
  obtain ⟨h1, h2, h3, h4⟩ := formE_ok h
  have g1 : 2 ≤ e := by omega
  have g2 : e ≤ 11 := by omega
  have g3 : f ≤ 52 := by omega
  have pe : maskN e < pw e := by rw [maskN_eq]; have := pw_pos e; omega
  have pf := pw_pos f
  have cJ := fun W => join_any e f neg (maskN e) 0 W g1 g2 g3 pe pf
  have cL := fun W hB => infLit_any q e f W (by omega) hB
  generalize maskN e = M at *
  go_enter Tryz.func182, Tryz.ntmps182
  go_wp2_with fail
  refine (formCheck_any e f _).mono ?_
  rintro en w1 ⟨rfl, hb1⟩
  rw [h]
  have ⟨a0, a1⟩ := (box2_new w (.int .i64 (e : Int)) (.int .i64 (f : Int)) 24).stay hb1
  have B1 := (hB.alloc (.cells #[.int .i64 (e : Int), .int .i64 (f : Int)] 24)).stay hb1
  go_wp2_with (go_at_call 183; refine (cL _ B1).mono ?_; rintro en w2 ⟨rfl, rfl⟩)
  refine (cJ _).mono ?_
  rintro en w2 ⟨rfl, hb2⟩
  go_wp2
  go_ret2
  exact ⟨rfl, next (next (more (Below.refl _ _) _) hb1) hb2⟩

set_option maxRecDepth 100000 in
set_option maxHeartbeats 1600000 in
theorem formsInf_any (e f : Nat) (neg : Bool) (w : World) (h : formE (e : Int) (f : Int) = 0) :
    Calls Tryz.prog 87 #[.agg #[.int .i64 e, .int .i64 f], .bool neg] w fun en w' => en = .returned (.tuple #[.int .u64 (joinN e f neg (maskN e) 0 : Int), .int .i64 0]) ∧ Below w.heap.size w w' := by
  have B := box2_new w (.int .i64 (e : Int)) (.int .i64 (f : Int)) 24
  have hW := more (Below.refl w.heap.size w) (.cells #[.int .i64 (e : Int), .int .i64 (f : Int)] 24)
  have cK := fun W hB => knownInf_any w.heap.size e f neg W h hB
  generalize joinN e f neg (maskN e) 0 = J at *
  go_enter Tryz.func87, Tryz.ntmps87
  go_wp2_with fail
  refine (cK _ B).mono ?_
  rintro en w1 ⟨rfl, hb1⟩
  go_wp2
  go_ret2
  exact ⟨rfl, next hW hb1⟩

end Go.Proofs.YtklibjdhlmdkpaaGreatDoor
