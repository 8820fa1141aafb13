/-
  The walk of the law TurnTos: it answers true, whatever it is asked; nothing that was there has turned.
-/
import Derived.Test.YtklibjdhlmdkpaaGreatDoorQTurBase
import Derived.Test.YtklibjdhlmdkpaaGreatDoorQTTurE
namespace Go.Proofs.YtklibjdhlmdkpaaGreatDoor

open Go.RowKit Go.Lb

attribute [local go_sem] Go.World.cell?_alloc_some

set_option maxRecDepth 100000 in
set_option maxHeartbeats 4000000 in
theorem turnTos_any (e f g h : Int) (b m : Nat) (w : World) (hb : b < 18446744073709551616) (hT : Tab w) :
    Calls Tryz.prog 4 #[.agg #[.int .i64 e, .int .i64 f], .agg #[.int .i64 g, .int .i64 h], .int .u64 (b : Int), .int .u8 (m : Int)] w fun en w' => en = .returned (.bool true) ∧ Below w.heap.size w w' := by
  have hW := more (more (Below.refl w.heap.size w) (.cells #[.int .i64 e, .int .i64 f] 24)) (.cells #[.int .i64 g, .int .i64 h] 24)
  have A := (box2_new w (.int .i64 e) (.int .i64 f) 24).alloc (.cells #[.int .i64 g, .int .i64 h] 24)
  have B := box2_new (w.alloc (.cells #[.int .i64 e, .int .i64 f] 24)) (.int .i64 g) (.int .i64 h) 24
  rw [World.size_alloc] at B
  have ⟨a0, a1⟩ := A
  have ⟨b0, b1⟩ := B
  have cA : ∀ W, Below w.heap.size w W → Calls Tryz.prog 14 #[] W _ := fun W hW => alive8_any W (hT.below hW)
  have cP : ∀ W, Below w.heap.size w W → Calls Tryz.prog 15 #[.agg #[.int .i64 e, .int .i64 f], .agg #[.int .i64 g, .int .i64 h], .int .u64 (b : Int), .int .u8 (m : Int)] W _ := fun W hW => turnTo_any e f g h b m W hb (hT.below hW)
  have cR : ∀ W, Below w.heap.size w W → Calls Tryz.prog 19 #[.agg #[.int .i64 e, .int .i64 f], .agg #[.int .i64 g, .int .i64 h], .int .u64 (b : Int), .int .u8 (m : Int)] W _ := fun W hW => refTo_any e f g h b m W hb (hT.below hW)
  generalize toBi e f g h b m = oB at *
  generalize toGi e f g h b m = oG at *
  generalize toE e f g h b m = oE at *
  clear hT
  go_enter Tryz.func4, Tryz.ntmps4
  go_wp2_with (first
    | (go_at_call 14; (with_reducible refine (cA _ hW).mono ?_); rintro en w1 ⟨rfl, hb1⟩; replace hW := next hW hb1; replace A := A.stay hb1; replace B := B.stay hb1; have ⟨a0, a1⟩ := A; have ⟨b0, b1⟩ := B)
    | (go_at_call 15; (with_reducible refine (cP _ hW).mono ?_); rintro en w1 ⟨rfl, hb1⟩; replace hW := next hW hb1; replace A := A.stay hb1; replace B := B.stay hb1; have ⟨a0, a1⟩ := A; have ⟨b0, b1⟩ := B)
    | (go_at_call 19; (with_reducible refine (cR _ hW).mono ?_); rintro en w1 ⟨rfl, hb1⟩; replace hW := next hW hb1; replace A := A.stay hb1; replace B := B.stay hb1; have ⟨a0, a1⟩ := A; have ⟨b0, b1⟩ := B))
  go_ret
  exact ⟨rfl, hW⟩

end Go.Proofs.YtklibjdhlmdkpaaGreatDoor

