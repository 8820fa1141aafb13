/-
  The walk of the law RoundMirror: it answers true, whatever it is asked; nothing that was there has turned.
-/
import Derived.Test.YtgdhleiokfaeoaaGreatDoorQRtK
import Derived.Test.YtgdhleiokfaeoaaGreatDoorQRtN
import Derived.Test.YtgdhleiokfaeoaaGreatDoorQMirM
import Derived.Test.YtgdhleiokfaeoaaGreatDoorQOrdW
import Derived.Test.YtgdhleiokfaeoaaGreatDoorQAliv5
namespace Go.Proofs.YtgdhleiokfaeoaaGreatDoor

open Go.RowKit Go.Lb

attribute [local go_sem] Go.World.cell?_alloc_some

/-- An answer of round's Ratio and Scaled of a fraction by its worth. -/
theorem rd_rat {E F m : Nat} {a1 a2 : Option Addr} {n1 n2 c1 c2 : Nat} (q : Rat) (n : Int) (neg : Bool) (W : World) (h1 : Sl W a1 n1 c1 (limbs q.num.natAbs)) (h2 : Sl W a2 n2 c2 (limbs q.den)) (hT : Tab W) (l1 : ln q.num.natAbs ≤ 400) (l2 : ln q.den ≤ 400) (hf : formE (E : Int) (F : Int) = 0) (hm : m < 5) :
    (Calls Tryz.prog 17 #[.agg #[.int .i64 (E : Int), .int .i64 (F : Int)], .agg #[.bool (decide (q.num < 0)), .slice a1 n1 c1, .slice a2 n2 c2], .int .i64 n, .bool neg, .int .u8 (m : Int)] W fun en w' => en = .returned (.tuple #[.int .u64 (sgBits E F (scnN q.num.natAbs q.den n) (scnD q.num.natAbs q.den n) (decide (q.num < 0)) neg m : Int), .int .u8 (sgFlags E F (scnN q.num.natAbs q.den n) (scnD q.num.natAbs q.den n) (decide (q.num < 0)) m : Int), .int .i64 0]) ∧ Below W.heap.size W w') ∧
    (Calls Tryz.prog 14 #[.agg #[.int .i64 (E : Int), .int .i64 (F : Int)], .agg #[.bool (decide (q.num < 0)), .slice a1 n1 c1, .slice a2 n2 c2], .bool neg, .int .u8 (m : Int)] W fun en w' => en = .returned (.tuple #[.int .u64 (sgBits E F q.num.natAbs q.den (decide (q.num < 0)) neg m : Int), .int .u8 (sgFlags E F q.num.natAbs q.den (decide (q.num < 0)) m : Int), .int .i64 0]) ∧ Below W.heap.size W w') := by
  have hr := rat_limbs q (by omega) (by omega)
  have e1 : n1 ≤ 400 := by rw [← h1.len]; exact l1
  have e2 : n2 ≤ 400 := by rw [← h2.len]; exact l2
  have A := rdScaled_any a1 a2 n1 n2 c1 c2 m (E : Int) (F : Int) n (decide (q.num < 0)) neg _ _ W h1 h2 hT e1 e2
  have B := rdRatio_any a1 a2 n1 n2 c1 c2 m (E : Int) (F : Int) (decide (q.num < 0)) neg _ _ W h1 h2 hT e1 e2
  obtain ⟨p1, p2, p3⟩ := sc_rat hf hr hm n neg
  obtain ⟨_, q2, q3⟩ := sc_rat hf hr hm 0 neg
  obtain ⟨_, _, _, _, z1, z2⟩ := scn_one q.num.natAbs q.den
  rw [p1, p2, p3, val_limbs', val_limbs'] at A
  rw [p1, q2, q3, val_limbs', val_limbs', z1, z2] at B
  exact ⟨A, B⟩

end Go.Proofs.YtgdhleiokfaeoaaGreatDoor

