/-
  The walks of numeral/turn's native floats: narrow, Form, native, From, of float64, float32 and types of one's own; of the law's wideBits, narrowBits. (Printed by wip/gen/turnat.py.)
-/
import Derived.Laws.Externs
import Derived.WalkLawsBesides
import Derived.Test.YtklibjdhlmdkpaaGreatDoorQTurBase
import Derived.Test.YtklibjdhlmdkpaaGreatDoorQRTurC
namespace Go.Proofs.YtklibjdhlmdkpaaGreatDoor
open Go.RowKit Go.Lb
set_option maxRecDepth 100000
set_option maxHeartbeats 4000000
attribute [local go_sem] Go.World.cell?_alloc_some
structure Ow2 (w : World) (b : Nat) (u v : Value) : Prop where
 c0 : w.cell? ⟨b, 0, none⟩ = some u
 c1 : w.cell? ⟨b, 1, none⟩ = some v
 z0 : w.frozen? ⟨b, 0, none⟩ = false
 z1 : w.frozen? ⟨b, 1, none⟩ = false
theorem Ow2.stay {wp w' : World} {b : Nat} {u v : Value} (h : Ow2 wp b u v) (k : Below wp.heap.size wp w') : Ow2 w' b u v :=
 ⟨(cfStay ⟨h.c0, h.z0⟩ k).1, (cfStay ⟨h.c1, h.z1⟩ k).1, (cfStay ⟨h.c0, h.z0⟩ k).2, (cfStay ⟨h.c1, h.z1⟩ k).2⟩
theorem ow2_new (w : World) (u v : Value) (t : TypeId) : Ow2 (w.alloc (.cells #[u, v] t)) w.heap.size u v := ⟨by simp, by simp, by simp [go_sem], by simp [go_sem]⟩
theorem Ow2.set {w : World} {b : Nat} {u v : Value} (h : Ow2 w b u v) (p q : Value) :
  ((w.setCell ⟨b, 0, none⟩ p).setCell ⟨b, 1, none⟩ q).cell? ⟨b, 0, none⟩ = some p ∧ ((w.setCell ⟨b, 0, none⟩ p).setCell ⟨b, 1, none⟩ q).cell? ⟨b, 1, none⟩ = some q :=
 ⟨(World.cell?_setCell_other _ _ _ _ (by simp)).trans (World.cell?_setCell_same _ _ _ h.c0), World.cell?_setCell_same _ _ _ ((World.cell?_setCell_other _ _ _ _ (by simp)).trans h.c1)⟩
theorem cut_wide : (FloatKind.f64.format.order (floatOfInt .f64 16777217) (floatOfInt .f64 16777216) == some .eq) = false := by decide +kernel
theorem cut_narrow : (FloatKind.f32.format.order (floatOfInt .f32 16777217) (floatOfInt .f32 16777216) == some .eq) = true := by decide +kernel
theorem forms_Single_t (w : World) :
  Calls Tryz.prog 165 #[] w fun e w' => e = .returned (.agg #[.int .i64 8, .int .i64 23]) ∧ Below w.heap.size w w' := by
 go_enter Tryz.func165, Tryz.ntmps165
 go_wp2
 refine bodyPost_ret (v := .agg #[.int .i64 8, .int .i64 23]) (by simp [results, Tryz.results165, go_sem]) rfl ⟨rfl, more (Below.refl _ _) _⟩
theorem forms_Double_t (w : World) :
  Calls Tryz.prog 166 #[] w fun e w' => e = .returned (.agg #[.int .i64 11, .int .i64 52]) ∧ Below w.heap.size w w' := by
 go_enter Tryz.func166, Tryz.ntmps166
 go_wp2
 refine bodyPost_ret (v := .agg #[.int .i64 11, .int .i64 52]) (by simp [results, Tryz.results166, go_sem]) rfl ⟨rfl, more (Below.refl _ _) _⟩
theorem numeralref08_Single_t (w : World) :
  Calls Tryz.prog 28 #[] w fun e w' => e = .returned (.agg #[.int .i64 8, .int .i64 23]) ∧ Below w.heap.size w w' := by
 go_enter Tryz.func28, Tryz.ntmps28
 go_wp2
 refine bodyPost_ret (v := .agg #[.int .i64 8, .int .i64 23]) (by simp [results, Tryz.results28, go_sem]) rfl ⟨rfl, more (Below.refl _ _) _⟩
theorem numeralref08_Double_t (w : World) :
  Calls Tryz.prog 25 #[] w fun e w' => e = .returned (.agg #[.int .i64 11, .int .i64 52]) ∧ Below w.heap.size w w' := by
 go_enter Tryz.func25, Tryz.ntmps25
 go_wp2
 refine bodyPost_ret (v := .agg #[.int .i64 11, .int .i64 52]) (by simp [results, Tryz.results25, go_sem]) rfl ⟨rfl, more (Below.refl _ _) _⟩
theorem turNarrow_F64 (w : World) :
  Calls Tryz.prog 164 #[] w fun e w' => e = .returned (.bool false) ∧ w = w' := by
 have h := cut_wide
 go_enter Tryz.func164, Tryz.ntmps164
 go_wp2
 go_ret
 exact ⟨rfl, rfl⟩
theorem turForm_F64 (x : Nat) (w : World) :
  Calls Tryz.prog 66 #[.float .f64 x] w fun e w' => e = .returned (.agg #[.int .i64 11, .int .i64 52]) ∧ Below w.heap.size w w' := by
 have hW := more (Below.refl w.heap.size w) (.cells #[.int .i64 0, .int .i64 0] 24)
 go_enter Tryz.func66, Tryz.ntmps66
 go_wp2_with fail
 refine (turNarrow_F64 _).mono ?_
 rintro en w1 ⟨rfl, rfl⟩
 go_wp2_with fail
 refine (forms_Double_t _).mono ?_
 rintro en w2 ⟨rfl, hb2⟩
 have R := (ow2_new w (.int .i64 0) (.int .i64 0) 24).stay hb2
 have ⟨r0, r1, rz0, rz1⟩ := R
 have V := next hW hb2
 clear hb2 hW
 go_wp2
 obtain ⟨t0, t1⟩ := R.set (.int .i64 11) (.int .i64 52)
 refine bodyPost_ret (v := .agg #[.int .i64 11, .int .i64 52]) (by simp [results, Tryz.results66, go_sem, t0, t1]) rfl ⟨rfl, (V.setCell (by simp) _).setCell (by simp) _⟩
theorem turNative_F64 (x : Nat) (w : World) :
  Calls Tryz.prog 156 #[.int .u64 x] w fun e w' => e = .returned (.float .f64 x) ∧ w = w' := by
 have hfb : ∀ (z : Nat) (W : World), (callFunc 22 #[.int .u64 z]).run Tryz.prog W = .ok (.value (.float .f64 z)) W := fun z W =>
  (run_callFunc_extern Tryz.func22 (by kernel_rfl) (by kernel_rfl) (by kernel_rfl) (e := Extern.MathFloatBits.float64frombits) (by kernel_rfl) _ W).trans rfl
 go_enter Tryz.func156, Tryz.ntmps156
 go_wp2_with fail
 refine (turNarrow_F64 _).mono ?_
 rintro en w1 ⟨rfl, rfl⟩
 go_wp2
 go_ret
 exact ⟨rfl, rfl⟩
theorem turNarrow_W64 (w : World) :
  Calls Tryz.prog 167 #[] w fun e w' => e = .returned (.bool false) ∧ w = w' := by
 have h := cut_wide
 go_enter Tryz.func167, Tryz.ntmps167
 go_wp2
 go_ret
 exact ⟨rfl, rfl⟩
theorem turForm_W64 (x : Nat) (w : World) :
  Calls Tryz.prog 67 #[.float .f64 x] w fun e w' => e = .returned (.agg #[.int .i64 11, .int .i64 52]) ∧ Below w.heap.size w w' := by
 have hW := more (Below.refl w.heap.size w) (.cells #[.int .i64 0, .int .i64 0] 24)
 go_enter Tryz.func67, Tryz.ntmps67
 go_wp2_with fail
 refine (turNarrow_W64 _).mono ?_
 rintro en w1 ⟨rfl, rfl⟩
 go_wp2_with fail
 refine (forms_Double_t _).mono ?_
 rintro en w2 ⟨rfl, hb2⟩
 have R := (ow2_new w (.int .i64 0) (.int .i64 0) 24).stay hb2
 have ⟨r0, r1, rz0, rz1⟩ := R
 have V := next hW hb2
 clear hb2 hW
 go_wp2
 obtain ⟨t0, t1⟩ := R.set (.int .i64 11) (.int .i64 52)
 refine bodyPost_ret (v := .agg #[.int .i64 11, .int .i64 52]) (by simp [results, Tryz.results67, go_sem, t0, t1]) rfl ⟨rfl, (V.setCell (by simp) _).setCell (by simp) _⟩
theorem turNative_W64 (x : Nat) (w : World) :
  Calls Tryz.prog 159 #[.int .u64 x] w fun e w' => e = .returned (.float .f64 x) ∧ w = w' := by
 have hfb : ∀ (z : Nat) (W : World), (callFunc 22 #[.int .u64 z]).run Tryz.prog W = .ok (.value (.float .f64 z)) W := fun z W =>
  (run_callFunc_extern Tryz.func22 (by kernel_rfl) (by kernel_rfl) (by kernel_rfl) (e := Extern.MathFloatBits.float64frombits) (by kernel_rfl) _ W).trans rfl
 go_enter Tryz.func159, Tryz.ntmps159
 go_wp2_with fail
 refine (turNarrow_W64 _).mono ?_
 rintro en w1 ⟨rfl, rfl⟩
 go_wp2
 go_ret
 exact ⟨rfl, rfl⟩
theorem turNarrow_F32 (w : World) :
  Calls Tryz.prog 163 #[] w fun e w' => e = .returned (.bool true) ∧ w = w' := by
 have h := cut_narrow
 go_enter Tryz.func163, Tryz.ntmps163
 go_wp2
 go_ret
 exact ⟨rfl, rfl⟩
theorem turForm_F32 (x : Nat) (w : World) :
  Calls Tryz.prog 68 #[.float .f32 x] w fun e w' => e = .returned (.agg #[.int .i64 8, .int .i64 23]) ∧ Below w.heap.size w w' := by
 have hW := more (Below.refl w.heap.size w) (.cells #[.int .i64 0, .int .i64 0] 24)
 go_enter Tryz.func68, Tryz.ntmps68
 go_wp2_with fail
 refine (turNarrow_F32 _).mono ?_
 rintro en w1 ⟨rfl, rfl⟩
 go_wp2_with fail
 refine (forms_Single_t _).mono ?_
 rintro en w2 ⟨rfl, hb2⟩
 have R := (ow2_new w (.int .i64 0) (.int .i64 0) 24).stay hb2
 have ⟨r0, r1, rz0, rz1⟩ := R
 have V := next hW hb2
 clear hb2 hW
 go_wp2
 obtain ⟨t0, t1⟩ := R.set (.int .i64 8) (.int .i64 23)
 refine bodyPost_ret (v := .agg #[.int .i64 8, .int .i64 23]) (by simp [results, Tryz.results68, go_sem, t0, t1]) rfl ⟨rfl, (V.setCell (by simp) _).setCell (by simp) _⟩
theorem turNative_F32 (x : Nat) (w : World) (hx : x < 4294967296) :
  Calls Tryz.prog 93 #[.int .u64 x] w fun e w' => e = .returned (.float .f32 x) ∧ w = w' := by
 have hfb : ∀ (z : Nat) (W : World), (callFunc 23 #[.int .u32 z]).run Tryz.prog W = .ok (.value (.float .f32 z)) W := fun z W =>
  (run_callFunc_extern Tryz.func23 (by kernel_rfl) (by kernel_rfl) (by kernel_rfl) (e := Extern.MathFloatBits.float32frombits) (by kernel_rfl) _ W).trans rfl
 have hw : IntKind.u32.wrap (x : Int) = (x : Int) := by rw [IntKind.wrap_u32]; omega
 go_enter Tryz.func93, Tryz.ntmps93
 go_wp2_with fail
 refine (turNarrow_F32 _).mono ?_
 rintro en w1 ⟨rfl, rfl⟩
 go_wp2
 go_ret
 exact ⟨rfl, rfl⟩
theorem turNarrow_W32 (w : World) :
  Calls Tryz.prog 168 #[] w fun e w' => e = .returned (.bool true) ∧ w = w' := by
 have h := cut_narrow
 go_enter Tryz.func168, Tryz.ntmps168
 go_wp2
 go_ret
 exact ⟨rfl, rfl⟩
theorem turForm_W32 (x : Nat) (w : World) :
  Calls Tryz.prog 69 #[.float .f32 x] w fun e w' => e = .returned (.agg #[.int .i64 8, .int .i64 23]) ∧ Below w.heap.size w w' := by
 have hW := more (Below.refl w.heap.size w) (.cells #[.int .i64 0, .int .i64 0] 24)
 go_enter Tryz.func69, Tryz.ntmps69
 go_wp2_with fail
 refine (turNarrow_W32 _).mono ?_
 rintro en w1 ⟨rfl, rfl⟩
 go_wp2_with fail
 refine (forms_Single_t _).mono ?_
 rintro en w2 ⟨rfl, hb2⟩
 have R := (ow2_new w (.int .i64 0) (.int .i64 0) 24).stay hb2
 have ⟨r0, r1, rz0, rz1⟩ := R
 have V := next hW hb2
 clear hb2 hW
 go_wp2
 obtain ⟨t0, t1⟩ := R.set (.int .i64 8) (.int .i64 23)
 refine bodyPost_ret (v := .agg #[.int .i64 8, .int .i64 23]) (by simp [results, Tryz.results69, go_sem, t0, t1]) rfl ⟨rfl, (V.setCell (by simp) _).setCell (by simp) _⟩
theorem turNative_W32 (x : Nat) (w : World) (hx : x < 4294967296) :
  Calls Tryz.prog 160 #[.int .u64 x] w fun e w' => e = .returned (.float .f32 x) ∧ w = w' := by
 have hfb : ∀ (z : Nat) (W : World), (callFunc 23 #[.int .u32 z]).run Tryz.prog W = .ok (.value (.float .f32 z)) W := fun z W =>
  (run_callFunc_extern Tryz.func23 (by kernel_rfl) (by kernel_rfl) (by kernel_rfl) (e := Extern.MathFloatBits.float32frombits) (by kernel_rfl) _ W).trans rfl
 have hw : IntKind.u32.wrap (x : Int) = (x : Int) := by rw [IntKind.wrap_u32]; omega
 go_enter Tryz.func160, Tryz.ntmps160
 go_wp2_with fail
 refine (turNarrow_W32 _).mono ?_
 rintro en w1 ⟨rfl, rfl⟩
 go_wp2
 go_ret
 exact ⟨rfl, rfl⟩
theorem sgBits_low {G H N D : Nat} {s neg : Bool} {m : Nat} (hG : 2 ≤ G) : sgBits G H N D s neg m < pw (1 + G + H) ∧ sgBits G H N D s neg m % 2 ^ (G + H) ≤ infN G H := by
 have hp := Nat.two_pow_pos (G + H)
 have h2 : 2 ^ H < 2 ^ (G + H) := Nat.pow_lt_pow_right (by decide) (by omega)
 have h3 := Nat.two_pow_pos H
 have e : pw (1 + G + H) = 2 * 2 ^ (G + H) := by rw [Nat.add_assoc, Nat.add_comm 1, pw_succ, pw_is]
 have hf := flB_le G H N D s m
 have hi : infN G H < 2 ^ (G + H) := by unfold infN; omega
 rw [e]
 unfold sgBits
 split
 ·split
  ·exact ⟨by omega, by rw [Nat.mod_self]; omega⟩
  ·exact ⟨by omega, by rw [Nat.zero_mod]; omega⟩
 ·split
  ·exact ⟨by omega, by rw [Nat.add_mod_right, Nat.mod_eq_of_lt (by omega)]; exact hf⟩
  ·exact ⟨by omega, by rw [Nat.mod_eq_of_lt (by omega)]; exact hf⟩
def toldN (G H b : Nat) : Nat := if naB G H b = true then nanN G H else b
theorem told_of_low {G H b : Nat} (h : b % 2 ^ (G + H) ≤ infN G H) : toldN G H b = b := by
 unfold toldN
 rw [← nan_test, decide_eq_false (by omega)]
 rfl
theorem toB_fits {E F G H b m : Nat} (hf : formE E F = 0) (hg : formE G H = 0) (hb : b < pw (1 + E + F)) (hm : m < 5) : toB E F G H b m < pw (1 + G + H) ∧ toldN G H (toB E F G H b m) = toB E F G H b m := by
 obtain ⟨e1, e2, e3, e4⟩ := formE_ok hf
 obtain ⟨g1, g2, g3, g4⟩ := formE_ok hg
 have hG : 2 ≤ G := by omega
 have hH : 1 ≤ H := by omega
 have hp := Nat.two_pow_pos (G + H)
 have h2 : 2 ^ H < 2 ^ (G + H) := Nat.pow_lt_pow_right (by decide) (by omega)
 have h3 : 2 ^ (H - 1) < 2 ^ H := Nat.pow_lt_pow_right (by decide) (by omega)
 have h4 := Nat.two_pow_pos (H - 1)
 have h5 := Nat.two_pow_pos H
 have e : pw (1 + G + H) = 2 * 2 ^ (G + H) := by rw [Nat.add_assoc, Nat.add_comm 1, pw_succ, pw_is]
 have hi : infN G H + 2 ^ H = 2 ^ (G + H) := by unfold infN; omega
 obtain ⟨j1, j2, _⟩ := join_inf (G := G) (H := H) hG (by omega) (by omega)
 have en : nanN G H = infN G H + 2 ^ (H - 1) := by rw [nanN_eq, inf_mask_mul, pw_is, pw_is]
 unfold toB
 by_cases q1 : naB E F b = true
 ·rw [if_pos q1]
  refine ⟨by omega, ?_⟩
  unfold toldN
  split <;> rfl
 ·rw [if_neg q1]
  by_cases q2 : enB E F b = true
  ·rw [if_pos q2]
   cases sgB E F b
   ·rw [j1]
    exact ⟨by omega, told_of_low (by rw [Nat.mod_eq_of_lt (by omega)]; omega)⟩
   ·rw [j2]
    exact ⟨by omega, told_of_low (by rw [Nat.add_mod_left, Nat.mod_eq_of_lt (by omega)]; omega)⟩
  ·rw [if_neg q2]
   have hx : exN E F b ≠ maskN E := fun h => by
    by_cases h0 : frN F b = 0
    ·exact q2 (decide_eq_true ⟨h, h0⟩)
    ·exact q1 (decide_eq_true ⟨h, h0⟩)
   obtain ⟨_, d2, _⟩ := dy_worth (E := E) (F := F) (G := G) (H := H) (b := b) (m := m) (by omega) (by omega) (by omega) hg (fits_bits hf hb) hb hx hm (sgB E F b)
   rw [d2]
   exact ⟨(sgBits_low hG).1, told_of_low (sgBits_low hG).2⟩
theorem toBi_fits {e f : Int} {G H b m : Nat} (hg : formE G H = 0) : toBi e f (G : Int) (H : Int) b m < pw (1 + G + H) ∧ toldN G H (toBi e f (G : Int) (H : Int) b m) = toBi e f (G : Int) (H : Int) b m := by
 unfold toBi
 by_cases hz : toE e f (G : Int) (H : Int) b m = 0
 ·rw [if_pos hz, Int.toNat_natCast, Int.toNat_natCast]
  obtain ⟨h1, _, h3, h4⟩ := toE_zero hz
  obtain ⟨_, hp⟩ := fitsE_parts h3
  obtain ⟨e1, e2, e3, e4⟩ := formE_ok h1
  refine toB_fits ?_ hg hp h4
  rw [show ((e.toNat : Nat) : Int) = e by omega, show ((f.toNat : Nat) : Int) = f by omega]
  exact h1
 ·rw [if_neg hz]
  exact ⟨pw_pos _, told_of_low (by rw [Nat.zero_mod]; omega)⟩
theorem told8_any (E F b : Nat) (w : World) (hE : 2 ≤ E) (h11 : E ≤ 11) (hF1 : 1 ≤ F) (hF : F ≤ 52) (hb : b < 18446744073709551616) :
  Calls Tryz.prog 70 #[.agg #[.int .i64 E, .int .i64 F], .int .u64 b] w fun en w' => en = .returned (.int .u64 (toldN E F b : Int)) ∧ Below w.heap.size w w' := by
 have B := box2_new w (.int .i64 E) (.int .i64 F) 24
 have hW := more (Below.refl w.heap.size w) (.cells #[.int .i64 E, .int .i64 F] 24)
 have ⟨a0, a1⟩ := B
 have cN := fun W => nbIsNaN8_any E F b W hE h11 hF1 hF hb
 have cM := fun W => nbNaN8_any E F W hE h11 hF1 hF
 unfold toldN
 generalize nanN E F = nn at *
 cases hn : naB E F b
 ·rw [hn] at cN
  rw [if_neg (by decide)]
  clear hn
  go_enter Tryz.func70, Tryz.ntmps70
  go_wp2_with fail
  refine (cN _).mono ?_
  rintro en w1 ⟨rfl, hb1⟩
  go_wp2
  go_ret
  exact ⟨rfl, next hW hb1⟩
 ·rw [hn] at cN
  rw [if_pos rfl]
  clear hn
  go_enter Tryz.func70, Tryz.ntmps70
  go_wp2_with fail
  refine (cN _).mono ?_
  rintro en w1 ⟨rfl, hb1⟩
  have ⟨d0, d1⟩ := B.stay hb1
  go_wp2_with fail
  refine (cM _).mono ?_
  rintro en w2 ⟨rfl, hb2⟩
  go_wp2
  go_ret
  exact ⟨rfl, next (next hW hb1) hb2⟩
theorem wideBits_t (x : Nat) (w : World) (hx : x < 18446744073709551616) :
  Calls Tryz.prog 38 #[.float .f64 x] w fun e w' => e = .returned (.int .u64 (toldN 11 52 x : Int)) ∧ Below w.heap.size w w' := by
 have hfb : ∀ (z : Nat) (W : World), (callFunc 62 #[.float .f64 z]).run Tryz.prog W = .ok (.value (.int .u64 z)) W := fun z W =>
  (run_callFunc_extern Tryz.func62 (by kernel_rfl) (by kernel_rfl) (by kernel_rfl) (e := Extern.MathFloatBits.float64bits) (by kernel_rfl) _ W).trans rfl
 have cT : ∀ W, Calls Tryz.prog 70 #[.agg #[.int .i64 11, .int .i64 52], .int .u64 x] W fun en w' => en = .returned (.int .u64 (toldN 11 52 x : Int)) ∧ Below W.heap.size W w' := fun W => told8_any 11 52 x W (by decide) (by decide) (by decide) (by decide) (by omega)
 generalize toldN 11 52 x = r at *
 go_enter Tryz.func38, Tryz.ntmps38
 go_wp2_with fail
 refine (numeralref08_Double_t _).mono ?_
 rintro en w1 ⟨rfl, hb1⟩
 go_wp2_with fail
 refine (cT _).mono ?_
 rintro en w2 ⟨rfl, hb2⟩
 go_wp2
 go_ret
 exact ⟨rfl, next hb1 hb2⟩
theorem narrowBits_t (x : Nat) (w : World) (hx : x < 4294967296) :
  Calls Tryz.prog 39 #[.float .f32 x] w fun e w' => e = .returned (.int .u64 (toldN 8 23 x : Int)) ∧ Below w.heap.size w w' := by
 have hfb : ∀ (z : Nat) (W : World), (callFunc 61 #[.float .f32 z]).run Tryz.prog W = .ok (.value (.int .u32 z)) W := fun z W =>
  (run_callFunc_extern Tryz.func61 (by kernel_rfl) (by kernel_rfl) (by kernel_rfl) (e := Extern.MathFloatBits.float32bits) (by kernel_rfl) _ W).trans rfl
 have cT : ∀ W, Calls Tryz.prog 70 #[.agg #[.int .i64 8, .int .i64 23], .int .u64 x] W fun en w' => en = .returned (.int .u64 (toldN 8 23 x : Int)) ∧ Below W.heap.size W w' := fun W => told8_any 8 23 x W (by decide) (by decide) (by decide) (by decide) (by omega)
 have hw : IntKind.u64.wrap (x : Int) = (x : Int) := by rw [IntKind.wrap_u64]; omega
 generalize toldN 8 23 x = r at *
 go_enter Tryz.func39, Tryz.ntmps39
 go_wp2_with fail
 refine (numeralref08_Single_t _).mono ?_
 rintro en w1 ⟨rfl, hb1⟩
 go_wp2_with fail
 refine (cT _).mono ?_
 rintro en w2 ⟨rfl, hb2⟩
 go_wp2
 go_ret
 exact ⟨rfl, next hb1 hb2⟩
theorem turFrom_F64 (e f : Int) (b : Nat) (w : World) (hb : b < 18446744073709551616) (hT : Tab w) :
  Calls Tryz.prog 35 #[.agg #[.int .i64 e, .int .i64 f], .int .u64 b] w fun en w' => en = .returned (.tuple #[.float .f64 (toBi e f 11 52 b 0), .int .i64 (toE e f 11 52 b 0)]) ∧ Below w.heap.size w w' := by
 have B := box2_new w (.int .i64 e) (.int .i64 f) 24
 have hW := more (Below.refl w.heap.size w) (.cells #[.int .i64 e, .int .i64 f] 24)
 have cT : ∀ W, Below w.heap.size w W → Calls Tryz.prog 15 #[.agg #[.int .i64 e, .int .i64 f], .agg #[.int .i64 11, .int .i64 52], .int .u64 b, .int .u8 0] W fun en w' => en = .returned (.tuple #[.int .u64 (toBi e f 11 52 b 0 : Int), .int .u8 (toGi e f 11 52 b 0 : Int), .int .i64 (toE e f 11 52 b 0)]) ∧ Below W.heap.size W w' := fun W hW => turnTo_any e f 11 52 b 0 W hb (hT.below hW)
 have hz0 : toE e f 11 52 b 0 ≠ 0 → toBi e f 11 52 b 0 = 0 := fun h => if_neg h
 generalize toBi e f 11 52 b 0 = oB at *
 generalize toGi e f 11 52 b 0 = oG at *
 generalize toE e f 11 52 b 0 = oE at *
 clear hT
 go_enter Tryz.func35, Tryz.ntmps35
 go_upto_region 2 with fail
 generalize w.alloc (.cells #[.int .i64 e, .int .i64 f] 24) = w1 at *
 have ⟨b0, b1⟩ := B
 have kS : ∀ w' : World, Below w1.heap.size w1 w' → (w'.cell? ⟨w.heap.size, 0, none⟩ = some (.int .i64 e) ∧ w'.cell? ⟨w.heap.size, 1, none⟩ = some (.int .i64 f) ∧ Below w1.heap.size w1 w') := fun w' hb => ⟨cellStay b0 hb, cellStay b1 hb, hb⟩
 go_region_held3 (fun w' => w'.cell? ⟨w.heap.size, 0, none⟩ = some (.int .i64 e) ∧ w'.cell? ⟨w.heap.size, 1, none⟩ = some (.int .i64 f) ∧ Below w1.heap.size w1 w')
  ((refine kS _ ?_; (repeat (with_reducible (first | exact VB | exact VA | exact Below.refl _ _ | refine Below.drew ?_))); done))
  (first
   | (go_at_call 66; (with_reducible refine (turForm_F64 _ _).mono ?_); rintro en wA ⟨rfl, hbA⟩; have VA : Below w1.heap.size w1 wA := (by first | exact hbA | exact undrew hbA))
   | (go_at_call 15; (with_reducible refine (cT _ (next hW VA)).mono ?_); rintro en wB ⟨rfl, hbB⟩; have VB := next VA hbB))
 all_goals
  by_cases hz : oE = 0
  ·subst hz
   clear hz0
   go_wp2_with fail
   refine (turNative_F64 _ _).mono ?_
   rintro en wC ⟨rfl, rfl⟩
   go_wp2
   go_ret2
   exact ⟨rfl, next hW VB⟩
  ·have h0 := hz0 hz
   have hz1 : (oE != 0) = true := bne_iff_ne.2 hz
   subst h0
   clear hz0
   go_wp2
   go_ret2
   exact ⟨rfl, next hW VB⟩
theorem turFrom_W64 (e f : Int) (b : Nat) (w : World) (hb : b < 18446744073709551616) (hT : Tab w) :
  Calls Tryz.prog 36 #[.agg #[.int .i64 e, .int .i64 f], .int .u64 b] w fun en w' => en = .returned (.tuple #[.float .f64 (toBi e f 11 52 b 0), .int .i64 (toE e f 11 52 b 0)]) ∧ Below w.heap.size w w' := by
 have B := box2_new w (.int .i64 e) (.int .i64 f) 24
 have hW := more (Below.refl w.heap.size w) (.cells #[.int .i64 e, .int .i64 f] 24)
 have cT : ∀ W, Below w.heap.size w W → Calls Tryz.prog 15 #[.agg #[.int .i64 e, .int .i64 f], .agg #[.int .i64 11, .int .i64 52], .int .u64 b, .int .u8 0] W fun en w' => en = .returned (.tuple #[.int .u64 (toBi e f 11 52 b 0 : Int), .int .u8 (toGi e f 11 52 b 0 : Int), .int .i64 (toE e f 11 52 b 0)]) ∧ Below W.heap.size W w' := fun W hW => turnTo_any e f 11 52 b 0 W hb (hT.below hW)
 have hz0 : toE e f 11 52 b 0 ≠ 0 → toBi e f 11 52 b 0 = 0 := fun h => if_neg h
 generalize toBi e f 11 52 b 0 = oB at *
 generalize toGi e f 11 52 b 0 = oG at *
 generalize toE e f 11 52 b 0 = oE at *
 clear hT
 go_enter Tryz.func36, Tryz.ntmps36
 go_upto_region 2 with fail
 generalize w.alloc (.cells #[.int .i64 e, .int .i64 f] 24) = w1 at *
 have ⟨b0, b1⟩ := B
 have kS : ∀ w' : World, Below w1.heap.size w1 w' → (w'.cell? ⟨w.heap.size, 0, none⟩ = some (.int .i64 e) ∧ w'.cell? ⟨w.heap.size, 1, none⟩ = some (.int .i64 f) ∧ Below w1.heap.size w1 w') := fun w' hb => ⟨cellStay b0 hb, cellStay b1 hb, hb⟩
 go_region_held3 (fun w' => w'.cell? ⟨w.heap.size, 0, none⟩ = some (.int .i64 e) ∧ w'.cell? ⟨w.heap.size, 1, none⟩ = some (.int .i64 f) ∧ Below w1.heap.size w1 w')
  ((refine kS _ ?_; (repeat (with_reducible (first | exact VB | exact VA | exact Below.refl _ _ | refine Below.drew ?_))); done))
  (first
   | (go_at_call 67; (with_reducible refine (turForm_W64 _ _).mono ?_); rintro en wA ⟨rfl, hbA⟩; have VA : Below w1.heap.size w1 wA := (by first | exact hbA | exact undrew hbA))
   | (go_at_call 15; (with_reducible refine (cT _ (next hW VA)).mono ?_); rintro en wB ⟨rfl, hbB⟩; have VB := next VA hbB))
 all_goals
  by_cases hz : oE = 0
  ·subst hz
   clear hz0
   go_wp2_with fail
   refine (turNative_W64 _ _).mono ?_
   rintro en wC ⟨rfl, rfl⟩
   go_wp2
   go_ret2
   exact ⟨rfl, next hW VB⟩
  ·have h0 := hz0 hz
   have hz1 : (oE != 0) = true := bne_iff_ne.2 hz
   subst h0
   clear hz0
   go_wp2
   go_ret2
   exact ⟨rfl, next hW VB⟩
theorem turFrom_F32 (e f : Int) (b : Nat) (w : World) (hb : b < 18446744073709551616) (hT : Tab w) :
  Calls Tryz.prog 18 #[.agg #[.int .i64 e, .int .i64 f], .int .u64 b] w fun en w' => en = .returned (.tuple #[.float .f32 (toBi e f 8 23 b 0), .int .i64 (toE e f 8 23 b 0)]) ∧ Below w.heap.size w w' := by
 have B := box2_new w (.int .i64 e) (.int .i64 f) 24
 have hW := more (Below.refl w.heap.size w) (.cells #[.int .i64 e, .int .i64 f] 24)
 have cT : ∀ W, Below w.heap.size w W → Calls Tryz.prog 15 #[.agg #[.int .i64 e, .int .i64 f], .agg #[.int .i64 8, .int .i64 23], .int .u64 b, .int .u8 0] W fun en w' => en = .returned (.tuple #[.int .u64 (toBi e f 8 23 b 0 : Int), .int .u8 (toGi e f 8 23 b 0 : Int), .int .i64 (toE e f 8 23 b 0)]) ∧ Below W.heap.size W w' := fun W hW => turnTo_any e f 8 23 b 0 W hb (hT.below hW)
 have hlt : toBi e f 8 23 b 0 < 4294967296 := by
  have h := (toBi_fits (e := e) (f := f) (G := 8) (H := 23) (b := b) (m := 0) (by decide)).1
  rw [show pw (1 + 8 + 23) = 4294967296 by unfold pw; rfl] at h
  exact h
 have hz0 : toE e f 8 23 b 0 ≠ 0 → toBi e f 8 23 b 0 = 0 := fun h => if_neg h
 generalize toBi e f 8 23 b 0 = oB at *
 generalize toGi e f 8 23 b 0 = oG at *
 generalize toE e f 8 23 b 0 = oE at *
 clear hT
 go_enter Tryz.func18, Tryz.ntmps18
 go_upto_region 2 with fail
 generalize w.alloc (.cells #[.int .i64 e, .int .i64 f] 24) = w1 at *
 have ⟨b0, b1⟩ := B
 have kS : ∀ w' : World, Below w1.heap.size w1 w' → (w'.cell? ⟨w.heap.size, 0, none⟩ = some (.int .i64 e) ∧ w'.cell? ⟨w.heap.size, 1, none⟩ = some (.int .i64 f) ∧ Below w1.heap.size w1 w') := fun w' hb => ⟨cellStay b0 hb, cellStay b1 hb, hb⟩
 go_region_held3 (fun w' => w'.cell? ⟨w.heap.size, 0, none⟩ = some (.int .i64 e) ∧ w'.cell? ⟨w.heap.size, 1, none⟩ = some (.int .i64 f) ∧ Below w1.heap.size w1 w')
  ((refine kS _ ?_; (repeat (with_reducible (first | exact VB | exact VA | exact Below.refl _ _ | refine Below.drew ?_))); done))
  (first
   | (go_at_call 68; (with_reducible refine (turForm_F32 _ _).mono ?_); rintro en wA ⟨rfl, hbA⟩; have VA : Below w1.heap.size w1 wA := (by first | exact hbA | exact undrew hbA))
   | (go_at_call 15; (with_reducible refine (cT _ (next hW VA)).mono ?_); rintro en wB ⟨rfl, hbB⟩; have VB := next VA hbB))
 all_goals
  by_cases hz : oE = 0
  ·subst hz
   clear hz0
   go_wp2_with fail
   refine (turNative_F32 _ _ hlt).mono ?_
   rintro en wC ⟨rfl, rfl⟩
   go_wp2
   go_ret2
   exact ⟨rfl, next hW VB⟩
  ·have h0 := hz0 hz
   have hz1 : (oE != 0) = true := bne_iff_ne.2 hz
   subst h0
   clear hz0
   go_wp2
   go_ret2
   exact ⟨rfl, next hW VB⟩
theorem turFrom_W32 (e f : Int) (b : Nat) (w : World) (hb : b < 18446744073709551616) (hT : Tab w) :
  Calls Tryz.prog 37 #[.agg #[.int .i64 e, .int .i64 f], .int .u64 b] w fun en w' => en = .returned (.tuple #[.float .f32 (toBi e f 8 23 b 0), .int .i64 (toE e f 8 23 b 0)]) ∧ Below w.heap.size w w' := by
 have B := box2_new w (.int .i64 e) (.int .i64 f) 24
 have hW := more (Below.refl w.heap.size w) (.cells #[.int .i64 e, .int .i64 f] 24)
 have cT : ∀ W, Below w.heap.size w W → Calls Tryz.prog 15 #[.agg #[.int .i64 e, .int .i64 f], .agg #[.int .i64 8, .int .i64 23], .int .u64 b, .int .u8 0] W fun en w' => en = .returned (.tuple #[.int .u64 (toBi e f 8 23 b 0 : Int), .int .u8 (toGi e f 8 23 b 0 : Int), .int .i64 (toE e f 8 23 b 0)]) ∧ Below W.heap.size W w' := fun W hW => turnTo_any e f 8 23 b 0 W hb (hT.below hW)
 have hlt : toBi e f 8 23 b 0 < 4294967296 := by
  have h := (toBi_fits (e := e) (f := f) (G := 8) (H := 23) (b := b) (m := 0) (by decide)).1
  rw [show pw (1 + 8 + 23) = 4294967296 by unfold pw; rfl] at h
  exact h
 have hz0 : toE e f 8 23 b 0 ≠ 0 → toBi e f 8 23 b 0 = 0 := fun h => if_neg h
 generalize toBi e f 8 23 b 0 = oB at *
 generalize toGi e f 8 23 b 0 = oG at *
 generalize toE e f 8 23 b 0 = oE at *
 clear hT
 go_enter Tryz.func37, Tryz.ntmps37
 go_upto_region 2 with fail
 generalize w.alloc (.cells #[.int .i64 e, .int .i64 f] 24) = w1 at *
 have ⟨b0, b1⟩ := B
 have kS : ∀ w' : World, Below w1.heap.size w1 w' → (w'.cell? ⟨w.heap.size, 0, none⟩ = some (.int .i64 e) ∧ w'.cell? ⟨w.heap.size, 1, none⟩ = some (.int .i64 f) ∧ Below w1.heap.size w1 w') := fun w' hb => ⟨cellStay b0 hb, cellStay b1 hb, hb⟩
 go_region_held3 (fun w' => w'.cell? ⟨w.heap.size, 0, none⟩ = some (.int .i64 e) ∧ w'.cell? ⟨w.heap.size, 1, none⟩ = some (.int .i64 f) ∧ Below w1.heap.size w1 w')
  ((refine kS _ ?_; (repeat (with_reducible (first | exact VB | exact VA | exact Below.refl _ _ | refine Below.drew ?_))); done))
  (first
   | (go_at_call 69; (with_reducible refine (turForm_W32 _ _).mono ?_); rintro en wA ⟨rfl, hbA⟩; have VA : Below w1.heap.size w1 wA := (by first | exact hbA | exact undrew hbA))
   | (go_at_call 15; (with_reducible refine (cT _ (next hW VA)).mono ?_); rintro en wB ⟨rfl, hbB⟩; have VB := next VA hbB))
 all_goals
  by_cases hz : oE = 0
  ·subst hz
   clear hz0
   go_wp2_with fail
   refine (turNative_W32 _ _ hlt).mono ?_
   rintro en wC ⟨rfl, rfl⟩
   go_wp2
   go_ret2
   exact ⟨rfl, next hW VB⟩
  ·have h0 := hz0 hz
   have hz1 : (oE != 0) = true := bne_iff_ne.2 hz
   subst h0
   clear hz0
   go_wp2
   go_ret2
   exact ⟨rfl, next hW VB⟩
end Go.Proofs.YtklibjdhlmdkpaaGreatDoor
