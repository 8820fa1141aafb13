/-
  The walk of the law TurnFrom: it answers true, whatever it is asked; nothing that was there has turned.
-/
import Derived.Test.YtklibjdhlmdkpaaGreatDoorQTurBase
import Derived.Test.YtklibjdhlmdkpaaGreatDoorQRTurE
namespace Go.Proofs.YtklibjdhlmdkpaaGreatDoor
open Go.RowKit Go.Lb
set_option maxRecDepth 100000
set_option maxHeartbeats 4000000
attribute [local go_sem] Go.World.cell?_alloc_some
theorem turnFrom_any (e f : Int) (b : Nat) (w : World) (hb : b < 18446744073709551616) (hT : Tab w) :
  Calls Tryz.prog 9 #[.agg #[.int .i64 e, .int .i64 f], .int .u64 b] w fun en w' => en = .returned (.bool true) ∧ Below w.heap.size w w' := by
 have hW := more (Below.refl w.heap.size w) (.cells #[.int .i64 e, .int .i64 f] 24)
 have A := box2_new w (.int .i64 e) (.int .i64 f) 24
 have ⟨a0, a1⟩ := A
 have cA : ∀ W, Below w.heap.size w W → Calls Tryz.prog 14 #[] W _ := fun W hW => alive8_any W (hT.below hW)
 have c1 : ∀ W, Below w.heap.size w W → Calls Tryz.prog 35 #[.agg #[.int .i64 e, .int .i64 f], .int .u64 b] W _ := fun W hW => turFrom_F64 e f b W hb (hT.below hW)
 have c2 : ∀ W, Below w.heap.size w W → Calls Tryz.prog 18 #[.agg #[.int .i64 e, .int .i64 f], .int .u64 b] W _ := fun W hW => turFrom_F32 e f b W hb (hT.below hW)
 have c3 : ∀ W, Below w.heap.size w W → Calls Tryz.prog 36 #[.agg #[.int .i64 e, .int .i64 f], .int .u64 b] W _ := fun W hW => turFrom_W64 e f b W hb (hT.below hW)
 have c4 : ∀ W, Below w.heap.size w W → Calls Tryz.prog 37 #[.agg #[.int .i64 e, .int .i64 f], .int .u64 b] W _ := fun W hW => turFrom_W32 e f b W hb (hT.below hW)
 have r1 : ∀ W, Below w.heap.size w W → Calls Tryz.prog 19 #[.agg #[.int .i64 e, .int .i64 f], .agg #[.int .i64 11, .int .i64 52], .int .u64 b, .int .u8 0] W (fun en w' => en = .returned (.tuple #[.int .u64 (toBi e f 11 52 b 0 : Int), .int .u8 (toGi e f 11 52 b 0 : Int), .int .i64 (toE e f 11 52 b 0)]) ∧ Below W.heap.size W w') := fun W hW => refTo_any e f 11 52 b 0 W hb (hT.below hW)
 have r2 : ∀ W, Below w.heap.size w W → Calls Tryz.prog 19 #[.agg #[.int .i64 e, .int .i64 f], .agg #[.int .i64 8, .int .i64 23], .int .u64 b, .int .u8 0] W (fun en w' => en = .returned (.tuple #[.int .u64 (toBi e f 8 23 b 0 : Int), .int .u8 (toGi e f 8 23 b 0 : Int), .int .i64 (toE e f 8 23 b 0)]) ∧ Below W.heap.size W w') := fun W hW => refTo_any e f 8 23 b 0 W hb (hT.below hW)
 have f1 := toBi_fits (e := e) (f := f) (G := 11) (H := 52) (b := b) (m := 0) (by decide)
 have f2 := toBi_fits (e := e) (f := f) (G := 8) (H := 23) (b := b) (m := 0) (by decide)
 rw [show pw (1 + 11 + 52) = 18446744073709551616 by unfold pw; rfl] at f1
 rw [show pw (1 + 8 + 23) = 4294967296 by unfold pw; rfl] at f2
 have b1 := fun W => wideBits_t (toBi e f 11 52 b 0) W f1.1
 have b2 := fun W => narrowBits_t (toBi e f 8 23 b 0) W f2.1
 rw [show toldN 11 52 (toBi e f 11 52 b 0) = toBi e f 11 52 b 0 from f1.2] at b1
 rw [show toldN 8 23 (toBi e f 8 23 b 0) = toBi e f 8 23 b 0 from f2.2] at b2
 clear f1 f2 hT
 have v1 : ∀ (x : Nat) (W : World), (convert 45 39 (.float .f64 x)).run Tryz.prog W = .ok (.float .f64 x) W := fun x W => run_convert_float_float W _ _ .f64 .f64 x x (by kernel_rfl) (by kernel_rfl) (if_pos rfl)
 have v2 : ∀ (x : Nat) (W : World), (convert 48 32 (.float .f32 x)).run Tryz.prog W = .ok (.float .f32 x) W := fun x W => run_convert_float_float W _ _ .f32 .f32 x x (by kernel_rfl) (by kernel_rfl) (if_pos rfl)
 generalize toBi e f 11 52 b 0 = oB at *
 generalize toGi e f 11 52 b 0 = oG at *
 generalize toE e f 11 52 b 0 = oE at *
 generalize toBi e f 8 23 b 0 = pB at *
 generalize toGi e f 8 23 b 0 = pG at *
 generalize toE e f 8 23 b 0 = pE at *
 go_enter Tryz.func9, Tryz.ntmps9
 go_upto_region 6 with (first
  | (go_at_call 14; (with_reducible refine (cA _ hW).mono ?_); rintro en w1 ⟨rfl, hb1⟩; replace hW := next hW hb1; replace A := A.stay hb1; have ⟨a0, a1⟩ := A)
  | (go_at_call 35; (with_reducible refine (c1 _ hW).mono ?_); rintro en w1 ⟨rfl, hb1⟩; replace hW := next hW hb1; replace A := A.stay hb1; have ⟨a0, a1⟩ := A)
  | (go_at_call 18; (with_reducible refine (c2 _ hW).mono ?_); rintro en w1 ⟨rfl, hb1⟩; replace hW := next hW hb1; replace A := A.stay hb1; have ⟨a0, a1⟩ := A)
  | (go_at_call 36; (with_reducible refine (c3 _ hW).mono ?_); rintro en w1 ⟨rfl, hb1⟩; replace hW := next hW hb1; replace A := A.stay hb1; have ⟨a0, a1⟩ := A)
  | (go_at_call 37; (with_reducible refine (c4 _ hW).mono ?_); rintro en w1 ⟨rfl, hb1⟩; replace hW := next hW hb1; replace A := A.stay hb1; have ⟨a0, a1⟩ := A))
 have kS : ∀ w' : World, Below w1.heap.size w1 w' → (w'.cell? ⟨w.heap.size, 0, none⟩ = some (.int .i64 e) ∧ w'.cell? ⟨w.heap.size, 1, none⟩ = some (.int .i64 f) ∧ Below w1.heap.size w1 w') := fun w' hb => ⟨cellStay a0 hb, cellStay a1 hb, hb⟩
 go_region_held3 (fun w' => w'.cell? ⟨w.heap.size, 0, none⟩ = some (.int .i64 e) ∧ w'.cell? ⟨w.heap.size, 1, none⟩ = some (.int .i64 f) ∧ Below w1.heap.size w1 w')
  ((refine kS _ ?_; (repeat (with_reducible (first | exact VB | exact VA | exact Below.refl _ _ | refine Below.drew ?_))); done))
  (first
   | (go_at_call 25; (with_reducible refine (numeralref08_Double_t _).mono ?_); rintro en wA ⟨rfl, hbA⟩; have VA : Below w1.heap.size w1 wA := (by first | exact hbA | exact undrew hbA))
   | (go_at_call 19; (with_reducible refine (r1 _ (next hW VA)).mono ?_); rintro en wB ⟨rfl, hbB⟩; have VB := next VA hbB))
 replace hW := next hW VB
 replace A := A.stay VB
 have ⟨a0, a1⟩ := A
 clear kS VA VB hbA hbB
 generalize wB = w1 at *
 go_upto_region 7 with fail
 have kS : ∀ w' : World, Below w1.heap.size w1 w' → (w'.cell? ⟨w.heap.size, 0, none⟩ = some (.int .i64 e) ∧ w'.cell? ⟨w.heap.size, 1, none⟩ = some (.int .i64 f) ∧ Below w1.heap.size w1 w') := fun w' hb => ⟨cellStay a0 hb, cellStay a1 hb, hb⟩
 go_region_held3 (fun w' => w'.cell? ⟨w.heap.size, 0, none⟩ = some (.int .i64 e) ∧ w'.cell? ⟨w.heap.size, 1, none⟩ = some (.int .i64 f) ∧ Below w1.heap.size w1 w')
  ((refine kS _ ?_; (repeat (with_reducible (first | exact VB | exact VA | exact Below.refl _ _ | refine Below.drew ?_))); done))
  (first
   | (go_at_call 28; (with_reducible refine (numeralref08_Single_t _).mono ?_); rintro en wA ⟨rfl, hbA⟩; have VA : Below w1.heap.size w1 wA := (by first | exact hbA | exact undrew hbA))
   | (go_at_call 19; (with_reducible refine (r2 _ (next hW VA)).mono ?_); rintro en wB ⟨rfl, hbB⟩; have VB := next VA hbB))
 replace hW := next hW VB
 replace A := A.stay VB
 have ⟨a0, a1⟩ := A
 clear kS VA VB hbA hbB
 go_wp2_with (first
  | (go_at_call 38; (with_reducible refine (b1 _).mono ?_); rintro en w1 ⟨rfl, hb1⟩; replace hW := next hW hb1; replace A := A.stay hb1; have ⟨a0, a1⟩ := A)
  | (go_at_call 39; (with_reducible refine (b2 _).mono ?_); rintro en w1 ⟨rfl, hb1⟩; replace hW := next hW hb1; replace A := A.stay hb1; have ⟨a0, a1⟩ := A))
 go_ret
 exact ⟨rfl, hW⟩
end Go.Proofs.YtklibjdhlmdkpaaGreatDoor
