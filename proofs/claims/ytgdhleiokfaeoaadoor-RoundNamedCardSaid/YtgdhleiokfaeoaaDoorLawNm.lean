/-
  The walk of the law RoundNamed: it answers true, whatever it is asked.
-/
import Derived.Test.YtgdhleiokfaeoaaDoorAliv5
namespace Go.Proofs.YtgdhleiokfaeoaaDoor
open Go.RowKit Go.Lb

set_option maxRecDepth 100000 in
theorem roundNamed_any (m : Nat) (s : ByteArray) (w : World) (hT : Tab w) :
    Calls Tryd.prog 4 #[.int .u8 (m : Int), .string s] w fun en w' => en = .returned (.bool true) ∧ Below w.heap.size w w' := by
  have hA := alive5_any w hT
  have c1 := fun W => rdName_any m W
  have c2 := fun W => nbName_any m W
  have c3 := fun W => rdNamed_any s W
  have c4 := fun W => nbNamed_any s W
  generalize (if m < 5 then nmS m else ⟨#[]⟩) = nm at *
  generalize (if m < 5 then (0 : Int) else 7) = er at *
  generalize nmK s = k at *
  generalize nmB s = b at *
  clear hT
  go_enter Tryd.func4, Tryd.ntmps4
  go_wp2_with fail
  refine hA.mono ?_
  rintro en w1 ⟨rfl, hb1⟩
  go_wp2_with fail
  refine (c1 w1).mono ?_
  rintro en w2 ⟨rfl, hb2⟩
  go_wp2_with fail
  refine (c2 w2).mono ?_
  rintro en w3 ⟨rfl, hb3⟩
  go_wp2_with fail
  refine (c3 w3).mono ?_
  rintro en w4 ⟨rfl, hb4⟩
  go_wp2_with fail
  refine (c4 w4).mono ?_
  rintro en w5 ⟨rfl, hb5⟩
  go_wp2
  go_ret
  exact ⟨by simp, next (next (next (next hb1 hb2) hb3) hb4) hb5⟩

end Go.Proofs.YtgdhleiokfaeoaaDoor
