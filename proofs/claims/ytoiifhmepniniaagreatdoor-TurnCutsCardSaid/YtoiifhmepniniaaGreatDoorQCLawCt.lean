/-
  The walk of the law TurnCuts: it answers true, whatever it is asked; nothing that was there has turned.
-/
import Derived.Test.YtoiifhmepniniaaGreatDoorQCTurCt1
import Derived.Test.YtoiifhmepniniaaGreatDoorQCTurCt2
import Derived.Test.YtoiifhmepniniaaGreatDoorQCTurCt3
import Derived.Test.YtoiifhmepniniaaGreatDoorQCTurCt4
set_option maxHeartbeats 4000000
set_option maxRecDepth 100000
namespace Go.Proofs.YtoiifhmepniniaaGreatDoor
open Go.RowKit Go.Lb
attribute [local go_sem] Go.World.cell?_alloc_some
theorem turnCuts_any (a b : Nat) (w : World) (ha : a < 18446744073709551616) (hb : b < 4294967296) (hT : Tab w) :
 Calls Tryz.prog 3 #[.int .u64 (a : Int), .int .u32 (b : Int)] w fun en w' => en = .returned (.bool true) ∧ Below w.heap.size w w' := by
 have hW := Below.refl w.heap.size w
 have p1 : a < pw (1 + 11 + 52) := by rw [show pw (1 + 11 + 52) = 18446744073709551616 by unfold pw; rfl]; exact ha
 have p2 : b < pw (1 + 8 + 23) := by rw [show pw (1 + 8 + 23) = 4294967296 by unfold pw; rfl]; exact hb
 have cA : ∀ W, Below w.heap.size w W → Calls Tryz.prog 4 #[] W _ := fun W hW => alive8_any W (hT.below hW)
 have hfa : ∀ (z : Nat) (W : World), (callFunc 5 #[.int .u64 z]).run Tryz.prog W = .ok (.value (.float .f64 z)) W := fun z W =>
  (run_callFunc_extern Tryz.func5 (by kernel_rfl) (by kernel_rfl) (by kernel_rfl) (e := Extern.MathFloatBits.float64frombits) (by kernel_rfl) _ W).trans rfl
 have hfb : ∀ (z : Nat) (W : World), (callFunc 6 #[.int .u32 z]).run Tryz.prog W = .ok (.value (.float .f32 z)) W := fun z W =>
  (run_callFunc_extern Tryz.func6 (by kernel_rfl) (by kernel_rfl) (by kernel_rfl) (e := Extern.MathFloatBits.float32frombits) (by kernel_rfl) _ W).trans rfl
 have cD := fun W => numeralref08_Double_t W
 have cS := fun W => numeralref08_Single_t W
 have k1 : ∀ W, Below w.heap.size w W → Calls Tryz.prog 7 #[.float .f64 a, .agg #[.int .i64 11, .int .i64 52], .int .u64 (a : Int)] W _ := fun W hW => cuts_F64 a W p1 (hT.below hW)
 have k2 : ∀ W, Below w.heap.size w W → Calls Tryz.prog 9 #[.float .f64 a, .agg #[.int .i64 11, .int .i64 52], .int .u64 (a : Int)] W _ := fun W hW => cuts_W64 a W p1 (hT.below hW)
 have k3 : ∀ W, Below w.heap.size w W → Calls Tryz.prog 10 #[.float .f32 b, .agg #[.int .i64 8, .int .i64 23], .int .u64 (b : Int)] W _ := fun W hW => cuts_F32 b W p2 (hT.below hW)
 have k4 : ∀ W, Below w.heap.size w W → Calls Tryz.prog 12 #[.float .f32 b, .agg #[.int .i64 8, .int .i64 23], .int .u64 (b : Int)] W _ := fun W hW => cuts_W32 b W p2 (hT.below hW)
 have hwb : IntKind.u64.wrap (b : Int) = (b : Int) := by rw [IntKind.wrap_u64]; omega
 clear hT ha hb p1 p2
 go_enter Tryz.func3, Tryz.ntmps3
 go_wp2_with (first
  | (go_at_call 4; (with_reducible refine (cA _ hW).mono ?_); rintro en w1 ⟨rfl, hb1⟩; replace hW := next hW hb1)
  | (go_at_call 8; (with_reducible refine (cD _).mono ?_); rintro en w1 ⟨rfl, hb1⟩; replace hW := next hW hb1)
  | (go_at_call 11; (with_reducible refine (cS _).mono ?_); rintro en w1 ⟨rfl, hb1⟩; replace hW := next hW hb1)
  | (go_at_call 7; (with_reducible refine (k1 _ hW).mono ?_); rintro en w1 ⟨rfl, hb1⟩; replace hW := next hW hb1)
  | (go_at_call 9; (with_reducible refine (k2 _ hW).mono ?_); rintro en w1 ⟨rfl, hb1⟩; replace hW := next hW hb1)
  | (go_at_call 10; (with_reducible refine (k3 _ hW).mono ?_); rintro en w1 ⟨rfl, hb1⟩; replace hW := next hW hb1)
  | (go_at_call 12; (with_reducible refine (k4 _ hW).mono ?_); rintro en w1 ⟨rfl, hb1⟩; replace hW := next hW hb1))
 go_ret
 exact ⟨rfl, hW⟩
end Go.Proofs.YtoiifhmepniniaaGreatDoor
