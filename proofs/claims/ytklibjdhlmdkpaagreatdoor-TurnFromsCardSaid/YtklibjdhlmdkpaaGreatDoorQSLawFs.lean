/-
  The walk of the law TurnFroms: it answers true, whatever it is asked; nothing that was there has turned.
-/
import Derived.Test.YtklibjdhlmdkpaaGreatDoorQTurBase
import Derived.Test.YtklibjdhlmdkpaaGreatDoorQSTurE
namespace Go.Proofs.YtklibjdhlmdkpaaGreatDoor

open Go.RowKit Go.Lb

attribute [local go_sem] Go.World.cell?_alloc_some

set_option maxRecDepth 100000 in
set_option maxHeartbeats 4000000 in
theorem turnFroms_any (e f n : Int) (m : Nat) (w : World) (h1 : -9223372036854775808 ≤ n) (h2 : n ≤ 9223372036854775807) (hT : Tab w) :
    Calls Tryz.prog 6 #[.agg #[.int .i64 e, .int .i64 f], .int .i64 n, .int .u8 (m : Int)] w fun en w' => en = .returned (.bool true) ∧ Below w.heap.size w w' := by
  have hW := more (Below.refl w.heap.size w) (.cells #[.int .i64 e, .int .i64 f] 24)
  have A := box2_new w (.int .i64 e) (.int .i64 f) 24
  have ⟨a0, a1⟩ := A
  have cA : ∀ W, Below w.heap.size w W → Calls Tryz.prog 14 #[] W _ := fun W hW => alive8_any W (hT.below hW)
  have cP : ∀ W, Below w.heap.size w W → Calls Tryz.prog 17 #[.agg #[.int .i64 e, .int .i64 f], .int .i64 n, .int .u8 (m : Int)] W _ := fun W hW => turnFromInt_any e f n m W h1 h2 (hT.below hW)
  have cR : ∀ W, Below w.heap.size w W → Calls Tryz.prog 21 #[.agg #[.int .i64 e, .int .i64 f], .int .i64 n, .int .u8 (m : Int)] W _ := fun W hW => refFromInt_any e f n m W h1 h2 (hT.below hW)
  generalize fiB e f n m = oB at *
  generalize fiG e f n m = oG at *
  generalize fiE e f m = oE at *
  clear hT
  go_enter Tryz.func6, Tryz.ntmps6
  go_wp2_with (first
    | (go_at_call 14; (with_reducible refine (cA _ hW).mono ?_); rintro en w1 ⟨rfl, hb1⟩; replace hW := next hW hb1; replace A := A.stay hb1; have ⟨a0, a1⟩ := A)
    | (go_at_call 17; (with_reducible refine (cP _ hW).mono ?_); rintro en w1 ⟨rfl, hb1⟩; replace hW := next hW hb1; replace A := A.stay hb1; have ⟨a0, a1⟩ := A)
    | (go_at_call 21; (with_reducible refine (cR _ hW).mono ?_); rintro en w1 ⟨rfl, hb1⟩; replace hW := next hW hb1; replace A := A.stay hb1; have ⟨a0, a1⟩ := A))
  go_ret
  exact ⟨rfl, hW⟩

end Go.Proofs.YtklibjdhlmdkpaaGreatDoor

