/-
  The walk of the law RoundWorth: it answers true, whatever it is asked; nothing that was there has turned.
-/
import Derived.Test.YteoceoepakfgiaaGreatDoorRtK
import Derived.Test.YteoceoepakfgiaaGreatDoorQMirM
import Derived.Test.YteoceoepakfgiaaGreatDoorOrdW
import Derived.Test.YteoceoepakfgiaaGreatDoorAliv5
import Derived.Test.YteoceoepakfgiaaGreatDoorQWthM
import Derived.Test.YteoceoepakfgiaaGreatDoorBigL
import Derived.Test.YteoceoepakfgiaaGreatDoorIntL
import Derived.Deep.RegionWith
import Derived.Deep.CutBlock
import Derived.Deep.Cut
import Derived.Deep.RegionHeld3
import Derived.Deep.CutRange
import Derived.StillTailTactics
import Derived.Deep.DrawnRows
import Derived.Test.YteoceoepakfgiaaGreatDoorRatM
import Derived.Test.YteoceoepakfgiaaGreatDoorRndN
import Derived.Test.YteoceoepakfgiaaGreatDoorRdA
import Derived.Test.YteoceoepakfgiaaGreatDoorRdD
import Derived.Test.YteoceoepakfgiaaGreatDoorRtE
import Derived.Test.YteoceoepakfgiaaGreatDoorRdE
import Derived.Test.YteoceoepakfgiaaGreatDoorRndQ
namespace Go.Proofs.YteoceoepakfgiaaGreatDoor

open Go.RowKit Go.Lb

attribute [local go_sem] Go.World.cell?_alloc_some

theorem ra_up (n : Nat) (X : Int) : raN (limbs n) X = upN n X ∧ raD X = upD X := by
  unfold raN raD upN upD
  rw [val_limbs', show (max 0 X).toNat = X.toNat by omega, show (max 0 (-X)).toNat = (-X).toNat by omega]
  exact ⟨rfl, rfl⟩

theorem ratA_up {n : Nat} {X : Int} {s : Bool} (hd : dchk s (limbs n) X = 0) (l1 : ln (upN n X) ≤ 34) (l2 : ln (upD X) ≤ 34) (w : World) : RatA s (limbs n) X w = Rtn s (upN n X) (upD X) 0 w := by
  obtain ⟨e1, e2⟩ := ra_up n X
  unfold ln at l1 l2
  have hB : raB s (limbs n) X = true := by
    unfold raB
    rw [e1, e2]
    exact decide_eq_true ⟨hd, (bigE_ok (by omega)).1, (bigE_ok (by omega)).1⟩
  unfold RatA raE
  rw [hB, if_pos rfl, if_pos rfl, if_pos rfl, e1, e2, if_neg (by simp [hd])]
  rfl

end Go.Proofs.YteoceoepakfgiaaGreatDoor

