/-
  The walks of math/bits.Len32 and LeadingZeros32, over the library's own text.
-/
import Derived.Test.YtnokabglkmiidaaDoorRows
import Derived.Test.YtnokabglkmiidaaDoorMem
import Derived.Lib.BitFns
import Derived.Lib.Strings
import Derived.Lib.Slices
import Derived.Lib.Small
import Derived.Lib.Walk
namespace Go.Proofs.YtnokabglkmiidaaDoor
open Go.RowKit Go.Lb

theorem len8fin : ∀ n : Fin 256, (Lib.len8tab[n.val]'(by rw [Lib.len8tab_size]; exact n.isLt)).toNat = Lib.bitLen n.val := by decide +kernel
theorem len8at (i : Nat) (h : i < 256) {h' : i < Lib.len8tab.size} : (Lib.len8tab[i]'h').toNat = Lib.bitLen i := len8fin ⟨i, h⟩

set_option maxHeartbeats 4000000 in
set_option maxRecDepth 100000 in
theorem len32_any (x : Int) (w : World) (h0 : 0 ≤ x) (h1 : x ≤ 4294967295) :
    Calls Tryd.prog 123 #[.int .u32 x] w fun e w' => e = .returned (.int .i64 (Lib.bitLen x.toNat)) ∧ w = w' := by
  have hs : Lib.len8tab.size = 256 := by decide +kernel
  go_enter Tryd.func123, Tryd.ntmps123
  go_wp2
  all_goals (go_ret; refine ⟨congrArg Ending.returned (congrArg (Value.int IntKind.i64) ?_), rfl⟩)
  · have e : (x / 65536 / 256).toNat = x.toNat / 16777216 := by omega
    have l := Lib.bitLen_le8' (x / 65536 / 256) (by omega) (by omega)
    have s := Lib.bitLen_shift24 x.toNat (by omega) (by omega)
    rw [len8at _ (by omega)]
    rw [e] at l ⊢
    rw [wrap64_nat (Lib.bitLen _) (by omega)]
    first | rw [wrap64_nat (Lib.bitLen _) (by omega)] | (rw [IntWalk.wrap64_in _ ⟨by omega, by omega⟩]; omega)
  · have e : (x / 65536).toNat = x.toNat / 65536 := by omega
    have l := Lib.bitLen_le8' (x / 65536) (by omega) (by omega)
    have s := Lib.bitLen_shift16 x.toNat (by omega) (by omega)
    rw [len8at _ (by omega)]
    rw [e] at l ⊢
    rw [wrap64_nat (Lib.bitLen _) (by omega)]
    first | rw [wrap64_nat (Lib.bitLen _) (by omega)] | (rw [IntWalk.wrap64_in _ ⟨by omega, by omega⟩]; omega)
  · have e : (x / 256).toNat = x.toNat / 256 := by omega
    have l := Lib.bitLen_le8' (x / 256) (by omega) (by omega)
    have s := Lib.bitLen_shift8 x.toNat (by omega) (by omega)
    rw [len8at _ (by omega)]
    rw [e] at l ⊢
    rw [wrap64_nat (Lib.bitLen _) (by omega)]
    first | rw [wrap64_nat (Lib.bitLen _) (by omega)] | (rw [IntWalk.wrap64_in _ ⟨by omega, by omega⟩]; omega)
  · have l := Lib.bitLen_le8' x (by omega) (by omega)
    rw [len8at _ (by omega)]
    rw [wrap64_nat (Lib.bitLen _) (by omega)]
    first | rw [wrap64_nat (Lib.bitLen _) (by omega)] | (rw [IntWalk.wrap64_in _ ⟨by omega, by omega⟩]; omega)

theorem bitLen_le32 (x : Nat) (h : x < 4294967296) : Lib.bitLen x ≤ 32 := Lib.bitLen_le x 32 (by decide) h

theorem lz32_any (x : Int) (w : World) (h0 : 0 ≤ x) (h1 : x ≤ 4294967295) :
    Calls Tryd.prog 106 #[.int .u32 x] w fun e w' => e = .returned (.int .i64 (32 - (Lib.bitLen x.toNat : Int))) ∧ w = w' := by
  have l := bitLen_le32 x.toNat (by omega)
  go_enter Tryd.func106, Tryd.ntmps106
  go_wp2_with (go_at_call 123; refine (len32_any x _ h0 h1).mono ?_; rintro e w' ⟨rfl, rfl⟩)
  go_ret
  exact ⟨rfl, rfl⟩
end Go.Proofs.YtnokabglkmiidaaDoor
