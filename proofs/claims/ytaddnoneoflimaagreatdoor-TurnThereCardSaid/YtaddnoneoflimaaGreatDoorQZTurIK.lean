/-
  The walk of numeral/turn.Int at each width. (Printed by wip/gen/turint3.py.)
-/
import Derived.Test.YtaddnoneoflimaaGreatDoorQTwBase
import Derived.Test.YtaddnoneoflimaaGreatDoorQZTurIB
import Derived.Test.YtaddnoneoflimaaGreatDoorQZTurIC
namespace Go.Proofs.YtaddnoneoflimaaGreatDoor

open Go.RowKit Go.Lb

attribute [local go_sem] Go.World.cell?_alloc_some

set_option maxRecDepth 100000 in
set_option maxHeartbeats 4000000 in
theorem turnIntB_any (wd L : Int) (k E F b m : Nat) (w : World) (hw : wd = 8 ∧ k = 7 ∧ L = 128 ∨ wd = 16 ∧ k = 15 ∧ L = 32768 ∨ wd = 32 ∧ k = 31 ∧ L = 2147483648 ∨ wd = 64 ∧ k = 63 ∧ L = 9223372036854775808) (h1 : formE (E : Int) (F : Int) = 0) (hp : b < pw (1 + E + F)) (hm : m < 5) (hT : Tab w) :
    Calls Tryz.prog 24 #[.agg #[.int .i64 (E : Int), .int .i64 (F : Int)], .int .u64 (b : Int), .int .i64 wd, .int .u8 (m : Int)] w fun en w' => en = .returned (.tuple #[.int .i64 (inV E F b k m), .int .u8 (inG E F b k m : Int), .int .i64 0]) ∧ Below w.heap.size w w' := by
  unfold inV inG
  by_cases hxm : exN E F b = maskN E
  · by_cases hf0 : frN F b = 0
    · have q1 : naB E F b = false := decide_eq_false fun hh => hh.2 hf0
      have q2 : enB E F b = true := decide_eq_true ⟨hxm, hf0⟩
      rw [q1, q2]
      exact turnIntB_inf wd L k E F b m w hw h1 hp hm hxm hf0
    · have q1 : naB E F b = true := decide_eq_true ⟨hxm, hf0⟩
      rw [q1]
      exact turnIntB_nan wd L k E F b m w hw h1 hp hm hxm hf0
  · have q1 : naB E F b = false := decide_eq_false fun hh => hxm hh.1
    have q2 : enB E F b = false := decide_eq_false fun hh => hxm hh.1
    rw [q1, q2]
    cases hok : inOk k (decide ((wrQ E F b).num < 0)) (inR E F b m)
    · exact turnIntB_over wd L k E F b m w hw h1 hp hm hxm hT hok
    · exact turnIntB_ok wd L k E F b m w hw h1 hp hm hxm hT hok

end Go.Proofs.YtaddnoneoflimaaGreatDoor

