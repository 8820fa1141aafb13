/-
  The walks of numeral/turn's native floats: narrow, Form, native, From, of float64, float32 and types of one's own; of the law's wideBits, narrowBits. (Printed by wip/gen/turnat.py.)
-/
import Derived.Laws.Externs
import Derived.WalkLawsBesides
import Derived.Deep.RegionHeld3
import Derived.Test.YtklibjdhlmdkpaaGreatDoorQTurBase
import Derived.Test.YtklibjdhlmdkpaaGreatDoorQSTurC
namespace Go.Proofs.YtklibjdhlmdkpaaGreatDoor

open Go.RowKit Go.Lb

attribute [local go_sem] Go.World.cell?_alloc_some

/-- A block of two cells that may be written. -/
structure Ow2 (w : World) (b : Nat) (u v : Value) : Prop where
  c0 : w.cell? ⟨b, 0, none⟩ = some u
  c1 : w.cell? ⟨b, 1, none⟩ = some v
  z0 : w.frozen? ⟨b, 0, none⟩ = false
  z1 : w.frozen? ⟨b, 1, none⟩ = false

theorem Ow2.stay {wp w' : World} {b : Nat} {u v : Value} (h : Ow2 wp b u v) (k : Below wp.heap.size wp w') : Ow2 w' b u v :=
  ⟨(cfStay ⟨h.c0, h.z0⟩ k).1, (cfStay ⟨h.c1, h.z1⟩ k).1, (cfStay ⟨h.c0, h.z0⟩ k).2, (cfStay ⟨h.c1, h.z1⟩ k).2⟩

theorem ow2_new (w : World) (u v : Value) (t : TypeId) : Ow2 (w.alloc (.cells #[u, v] t)) w.heap.size u v := ⟨by simp, by simp, by simp [go_sem], by simp [go_sem]⟩

theorem Ow2.set {w : World} {b : Nat} {u v : Value} (h : Ow2 w b u v) (p q : Value) :
    ((w.setCell ⟨b, 0, none⟩ p).setCell ⟨b, 1, none⟩ q).cell? ⟨b, 0, none⟩ = some p ∧ ((w.setCell ⟨b, 0, none⟩ p).setCell ⟨b, 1, none⟩ q).cell? ⟨b, 1, none⟩ = some q :=
  ⟨(World.cell?_setCell_other _ _ _ _ (by simp)).trans (World.cell?_setCell_same _ _ _ h.c0), World.cell?_setCell_same _ _ _ ((World.cell?_setCell_other _ _ _ _ (by simp)).trans h.c1)⟩

theorem cut_wide : (FloatKind.f64.format.order (floatOfInt .f64 16777217) (floatOfInt .f64 16777216) == some .eq) = false := by decide +kernel

theorem cut_narrow : (FloatKind.f32.format.order (floatOfInt .f32 16777217) (floatOfInt .f32 16777216) == some .eq) = true := by decide +kernel

theorem forms_Single_t (w : World) :
    Calls Tryz.prog 165 #[] w fun e w' => e = .returned (.agg #[.int .i64 8, .int .i64 23]) ∧ Below w.heap.size w w' := by
  go_enter Tryz.func165, Tryz.ntmps165
  go_wp2
  refine bodyPost_ret (v := .agg #[.int .i64 8, .int .i64 23]) (by simp [results, Tryz.results165, go_sem]) rfl ⟨rfl, more (Below.refl _ _) _⟩

theorem forms_Double_t (w : World) :
    Calls Tryz.prog 166 #[] w fun e w' => e = .returned (.agg #[.int .i64 11, .int .i64 52]) ∧ Below w.heap.size w w' := by
  go_enter Tryz.func166, Tryz.ntmps166
  go_wp2
  refine bodyPost_ret (v := .agg #[.int .i64 11, .int .i64 52]) (by simp [results, Tryz.results166, go_sem]) rfl ⟨rfl, more (Below.refl _ _) _⟩

theorem turNarrow_F64 (w : World) :
    Calls Tryz.prog 164 #[] w fun e w' => e = .returned (.bool false) ∧ w = w' := by
  have h := cut_wide
  go_enter Tryz.func164, Tryz.ntmps164
  go_wp2
  go_ret
  exact ⟨rfl, rfl⟩

theorem turForm_F64 (x : Nat) (w : World) :
    Calls Tryz.prog 66 #[.float .f64 x] w fun e w' => e = .returned (.agg #[.int .i64 11, .int .i64 52]) ∧ Below w.heap.size w w' := by
  have hW := more (Below.refl w.heap.size w) (.cells #[.int .i64 0, .int .i64 0] 24)
  go_enter Tryz.func66, Tryz.ntmps66
  go_wp2_with fail
  refine (turNarrow_F64 _).mono ?_
  rintro en w1 ⟨rfl, rfl⟩
  go_wp2_with fail
  refine (forms_Double_t _).mono ?_
  rintro en w2 ⟨rfl, hb2⟩
  have R := (ow2_new w (.int .i64 0) (.int .i64 0) 24).stay hb2
  have ⟨r0, r1, rz0, rz1⟩ := R
  have V := next hW hb2
  clear hb2 hW
  go_wp2
  obtain ⟨t0, t1⟩ := R.set (.int .i64 11) (.int .i64 52)
  refine bodyPost_ret (v := .agg #[.int .i64 11, .int .i64 52]) (by simp [results, Tryz.results66, go_sem, t0, t1]) rfl ⟨rfl, (V.setCell (by simp) _).setCell (by simp) _⟩

theorem turNative_F64 (x : Nat) (w : World) :
    Calls Tryz.prog 156 #[.int .u64 (x : Int)] w fun e w' => e = .returned (.float .f64 x) ∧ w = w' := by
  have hfb : ∀ (z : Nat) (W : World), (callFunc 22 #[.int .u64 z]).run Tryz.prog W = .ok (.value (.float .f64 z)) W := fun z W =>
    (run_callFunc_extern Tryz.func22 (by kernel_rfl) (by kernel_rfl) (by kernel_rfl) (e := Extern.MathFloatBits.float64frombits) (by kernel_rfl) _ W).trans rfl
  go_enter Tryz.func156, Tryz.ntmps156
  go_wp2_with fail
  refine (turNarrow_F64 _).mono ?_
  rintro en w1 ⟨rfl, rfl⟩
  go_wp2
  go_ret
  exact ⟨rfl, rfl⟩

theorem turNarrow_F32 (w : World) :
    Calls Tryz.prog 163 #[] w fun e w' => e = .returned (.bool true) ∧ w = w' := by
  have h := cut_narrow
  go_enter Tryz.func163, Tryz.ntmps163
  go_wp2
  go_ret
  exact ⟨rfl, rfl⟩

theorem turForm_F32 (x : Nat) (w : World) :
    Calls Tryz.prog 68 #[.float .f32 x] w fun e w' => e = .returned (.agg #[.int .i64 8, .int .i64 23]) ∧ Below w.heap.size w w' := by
  have hW := more (Below.refl w.heap.size w) (.cells #[.int .i64 0, .int .i64 0] 24)
  go_enter Tryz.func68, Tryz.ntmps68
  go_wp2_with fail
  refine (turNarrow_F32 _).mono ?_
  rintro en w1 ⟨rfl, rfl⟩
  go_wp2_with fail
  refine (forms_Single_t _).mono ?_
  rintro en w2 ⟨rfl, hb2⟩
  have R := (ow2_new w (.int .i64 0) (.int .i64 0) 24).stay hb2
  have ⟨r0, r1, rz0, rz1⟩ := R
  have V := next hW hb2
  clear hb2 hW
  go_wp2
  obtain ⟨t0, t1⟩ := R.set (.int .i64 8) (.int .i64 23)
  refine bodyPost_ret (v := .agg #[.int .i64 8, .int .i64 23]) (by simp [results, Tryz.results68, go_sem, t0, t1]) rfl ⟨rfl, (V.setCell (by simp) _).setCell (by simp) _⟩

theorem turNative_F32 (x : Nat) (w : World) (hx : x < 4294967296) :
    Calls Tryz.prog 93 #[.int .u64 (x : Int)] w fun e w' => e = .returned (.float .f32 x) ∧ w = w' := by
  have hfb : ∀ (z : Nat) (W : World), (callFunc 23 #[.int .u32 z]).run Tryz.prog W = .ok (.value (.float .f32 z)) W := fun z W =>
    (run_callFunc_extern Tryz.func23 (by kernel_rfl) (by kernel_rfl) (by kernel_rfl) (e := Extern.MathFloatBits.float32frombits) (by kernel_rfl) _ W).trans rfl
  have hw : IntKind.u32.wrap (x : Int) = (x : Int) := by rw [IntKind.wrap_u32]; omega
  go_enter Tryz.func93, Tryz.ntmps93
  go_wp2_with fail
  refine (turNarrow_F32 _).mono ?_
  rintro en w1 ⟨rfl, rfl⟩
  go_wp2
  go_ret
  exact ⟨rfl, rfl⟩

set_option maxRecDepth 100000 in
set_option maxHeartbeats 2000000 in
theorem turFrom_F64 (e f : Int) (b : Nat) (w : World) (hb : b < 18446744073709551616) (hT : Tab w) :
    Calls Tryz.prog 35 #[.agg #[.int .i64 e, .int .i64 f], .int .u64 (b : Int)] w fun en w' => en = .returned (.tuple #[.float .f64 (toBi e f 11 52 b 0), .int .i64 (toE e f 11 52 b 0)]) ∧ Below w.heap.size w w' := by
  have B := box2_new w (.int .i64 e) (.int .i64 f) 24
  have hW := more (Below.refl w.heap.size w) (.cells #[.int .i64 e, .int .i64 f] 24)
  have cT : ∀ W, Below w.heap.size w W → Calls Tryz.prog 15 #[.agg #[.int .i64 e, .int .i64 f], .agg #[.int .i64 11, .int .i64 52], .int .u64 (b : Int), .int .u8 0] W fun en w' => en = .returned (.tuple #[.int .u64 (toBi e f 11 52 b 0 : Int), .int .u8 (toGi e f 11 52 b 0 : Int), .int .i64 (toE e f 11 52 b 0)]) ∧ Below W.heap.size W w' := fun W hW => turnTo_any e f 11 52 b 0 W hb (hT.below hW)
  have hz0 : toE e f 11 52 b 0 ≠ 0 → toBi e f 11 52 b 0 = 0 := fun h => if_neg h
  generalize toBi e f 11 52 b 0 = oB at *
  generalize toGi e f 11 52 b 0 = oG at *
  generalize toE e f 11 52 b 0 = oE at *
  clear hT
  go_enter Tryz.func35, Tryz.ntmps35
  go_upto_region 2 with fail
  generalize w.alloc (.cells #[.int .i64 e, .int .i64 f] 24) = w1 at *
  have ⟨b0, b1⟩ := B
  have kS : ∀ w' : World, Below w1.heap.size w1 w' → (w'.cell? ⟨w.heap.size, 0, none⟩ = some (.int .i64 e) ∧ w'.cell? ⟨w.heap.size, 1, none⟩ = some (.int .i64 f) ∧ Below w1.heap.size w1 w') := fun w' hb => ⟨cellStay b0 hb, cellStay b1 hb, hb⟩
  go_region_held3 (fun w' => w'.cell? ⟨w.heap.size, 0, none⟩ = some (.int .i64 e) ∧ w'.cell? ⟨w.heap.size, 1, none⟩ = some (.int .i64 f) ∧ Below w1.heap.size w1 w')
    ((refine kS _ ?_; (repeat (with_reducible (first | exact VB | exact VA | exact Below.refl _ _ | refine Below.drew ?_))); done))
    (first
      | (go_at_call 66; (with_reducible refine (turForm_F64 _ _).mono ?_); rintro en wA ⟨rfl, hbA⟩; have VA : Below w1.heap.size w1 wA := (by first | exact hbA | exact undrew hbA))
      | (go_at_call 15; (with_reducible refine (cT _ (next hW VA)).mono ?_); rintro en wB ⟨rfl, hbB⟩; have VB := next VA hbB))
  all_goals
    by_cases hz : oE = 0
    · subst hz
      clear hz0
      go_wp2_with fail
      refine (turNative_F64 _ _).mono ?_
      rintro en wC ⟨rfl, rfl⟩
      go_wp2
      go_ret2
      exact ⟨rfl, next hW VB⟩
    · have h0 := hz0 hz
      have hz1 : (oE != 0) = true := bne_iff_ne.2 hz
      subst h0
      clear hz0
      go_wp2
      go_ret2
      exact ⟨rfl, next hW VB⟩

end Go.Proofs.YtklibjdhlmdkpaaGreatDoor

