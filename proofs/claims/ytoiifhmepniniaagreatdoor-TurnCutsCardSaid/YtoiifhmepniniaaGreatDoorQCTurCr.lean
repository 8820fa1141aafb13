/-
  The walk of numeralref08.Cut. (Printed by wip/gen/turcutref.py.)
-/
import Derived.Test.YtoiifhmepniniaaGreatDoorQCtBase
set_option maxHeartbeats 8000000
set_option maxRecDepth 100000
namespace Go.Proofs.YtoiifhmepniniaaGreatDoor
open Go.RowKit Go.Lb
attribute [local go_sem] Go.World.cell?_alloc_some
theorem rz_zero {E F b : Nat} (hf : formE (E : Int) (F : Int) = 0) (hp : b < pw (1 + E + F)) (hx : exN E F b ≠ maskN E) : rzQ (wrQ E F b) 2 = tzV E F b := by
 obtain ⟨e1, e2, e3, e4⟩ := formE_ok hf
 have hw : wrQ E F b = ((sgZ (sgB E F b) (vN E F b) : Int) : Rat) * p2 (vX E F b) := by
  have h := worth_rat (E := E) (F := F) (M := vN E F b) (b := b) (l := vX E F b + F) (s := sgB E F b) (by omega) (by omega) (by omega) (fits_bits hf hp) hx rfl (.inl ⟨rfl, by omega⟩)
  rw [h, show vX E F b + (F : Int) - F = vX E F b by omega]
 rw [hw]
 unfold rzQ tzV
 rw [below_of]
 have hc := cross_of (sgB E F b) (vN E F b) (vX E F b)
 generalize (((sgZ (sgB E F b) (vN E F b) : Int) : Rat) * p2 (vX E F b)) = q at *
 have hd := q.den_pos
 have hu := Nat.pos_of_ne_zero (upD_pos (vX E F b))
 have hq : q.num.natAbs / q.den = upN (vN E F b) (vX E F b) / upD (vX E F b) := by
  generalize q.num.natAbs = A at *
  generalize q.den = D at *
  generalize upN (vN E F b) (vX E F b) = B at *
  generalize upD (vX E F b) = C at *
  rw [← Nat.mul_div_mul_right A D hu, hc, Nat.mul_comm D C, Nat.mul_div_mul_right B C hd]
 have hr : rdN q.num.natAbs q.den (if vN E F b = 0 then false else sgB E F b) 2 = q.num.natAbs / q.den := by
  unfold rdN mdB
  simp
 rw [hr, hq]
 by_cases h0 : vN E F b = 0
 · rw [if_pos h0, h0]
   have : upN 0 (vX E F b) / upD (vX E F b) = 0 := by
    unfold upN
    rw [Nat.zero_mul, Nat.zero_div]
   rw [this]
   cases sgB E F b <;> rfl
 · rw [if_neg h0]
theorem refCut_non (wd : Int) (sg : Bool) (E F b : Nat) (w : World) (h1 : formE (E : Int) (F : Int) = 0) (hp : b < pw (1 + E + F)) (hxm : exN E F b = maskN E) :
 Calls Tryz.prog 30 #[.agg #[.int .i64 (E : Int), .int .i64 (F : Int)], .int .u64 (b : Int), .int .i64 wd, .bool sg] w fun en w' => en = .returned (.tuple #[.int .u64 0, .bool false]) ∧ Below w.heap.size w w' := by
 have A := box2_new w (.int .i64 (E : Int)) (.int .i64 (F : Int)) 31
 have hW := more (Below.refl w.heap.size w) (.cells #[.int .i64 (E : Int), .int .i64 (F : Int)] 31)
 have ⟨a0, a1⟩ := A
 obtain ⟨e1, e2, e3, e4⟩ := formE_ok h1
 have cE := fun W => nbFinite5_any E F b W (by omega) (by omega) (by omega) (by omega) hp
 rw [decide_eq_false (fun hh => hh hxm)] at cE
 clear hxm h1 hp
 go_enter Tryz.func30, Tryz.ntmps30
 go_wp2_with (go_at_call 97; (with_reducible refine (cE _).mono ?_); rintro en w1 ⟨rfl, hb1⟩; replace hW := next hW hb1; replace A := A.stay hb1; have ⟨a0, a1⟩ := A)
 go_ret2
 exact ⟨rfl, hW⟩
theorem refCutS_fin (wd lo hi : Int) (K : Nat) (E F b : Nat) (w : World) (hw : wd = 8 ∧ K = 8 ∧ lo = -128 ∧ hi = 128 ∨ wd = 16 ∧ K = 16 ∧ lo = -32768 ∧ hi = 32768 ∨ wd = 32 ∧ K = 32 ∧ lo = -2147483648 ∧ hi = 2147483648 ∨ wd = 64 ∧ K = 64 ∧ lo = -9223372036854775808 ∧ hi = 9223372036854775808) (h1 : formE (E : Int) (F : Int) = 0) (hp : b < pw (1 + E + F)) (hxm : exN E F b ≠ maskN E) (hT : Tab w) :
 Calls Tryz.prog 30 #[.agg #[.int .i64 (E : Int), .int .i64 (F : Int)], .int .u64 (b : Int), .int .i64 wd, .bool true] w fun en w' => en = .returned (.tuple #[.int .u64 (IntKind.u64.wrap (cuV lo hi true (tzV E F b))), .bool (cuB lo hi true (tzV E F b))]) ∧ Below w.heap.size w w' := by
 have A := box2_new w (.int .i64 (E : Int)) (.int .i64 (F : Int)) 31
 have hW := more (Below.refl w.heap.size w) (.cells #[.int .i64 (E : Int), .int .i64 (F : Int)] 31)
 have ⟨a0, a1⟩ := A
 obtain ⟨e1, e2, e3, e4⟩ := formE_ok h1
 have hf := fits_bits h1 hp
 have hrz := rz_zero h1 hp hxm
 have cE := fun W => nbFinite5_any E F b W (by omega) (by omega) (by omega) (by omega) hp
 rw [decide_eq_true hxm] at cE
 have cW : ∀ W, Below w.heap.size w W → Calls Tryz.prog 99 #[.agg #[.int .i64 (E : Int), .int .i64 (F : Int)], .int .u64 (b : Int)] W (MkQ 23 (wrQ E F b) W) := fun W hW => nbWorth5_any E F b W h1 hp hxm (hT.below hW)
 have dw := Lib.hid (dy_worth (E := E) (F := F) (G := E) (H := F) (b := b) (m := 2) (by omega) (by omega) (by omega) h1 hf hp hxm (by decide) false)
 have cH : ∀ W B t, Below w.heap.size w W → Rq 23 W B t (wrQ E F b) → Calls Tryz.prog 98 #[.pointer (some ⟨t, 0, none⟩), .int .u8 2] W (MkZ 23 (rzQ (wrQ E F b) 2) W) := fun W B t hW hQ => nbWhole8_any B t 2 _ W hQ (by decide) (by have := dw.out.2.2.2.1; omega) (by have := dw.out.2.2.2.2.1; omega) (hT.below hW)
 rw [hrz] at cH
 have l1 : ln (1 : Int).natAbs ≤ 4294967296 := by
  have := ln_one
  show ln 1 ≤ _
  omega
 have lK : ∀ k, k ≤ 64 → ln (2 ^ k) ≤ 3 := fun k hk => Nat.le_trans (ln_mono (Nat.pow_le_pow_right (by decide) hk)) (by decide +kernel)
 have c0 := fun W => nbNewZ_any 0 W (by decide)
 have co := fun W => nbNewZ_any 1 W (by decide)
 generalize tzV E F b = z at *
 generalize wrQ E F b = q at *
 clear dw hxm hf h1 hp hT hrz
 have hlo : lo = -(((2 ^ K : Nat) : Int) / 2) := by rcases hw with ⟨_, rfl, rfl, _⟩ | ⟨_, rfl, rfl, _⟩ | ⟨_, rfl, rfl, _⟩ | ⟨_, rfl, rfl, _⟩ <;> decide +kernel
 have hhi : hi = ((2 ^ K / 2 ^ 1 : Nat) : Int) := by rcases hw with ⟨_, rfl, _, rfl⟩ | ⟨_, rfl, _, rfl⟩ | ⟨_, rfl, _, rfl⟩ | ⟨_, rfl, _, rfl⟩ <;> decide +kernel
 have hbd : -9223372036854775808 ≤ lo ∧ hi ≤ 18446744073709551616 ∧ (lo < 0 → hi ≤ 9223372036854775808) := by rcases hw with ⟨rfl, rfl, rfl, rfl⟩ | ⟨rfl, rfl, rfl, rfl⟩ | ⟨rfl, rfl, rfl, rfl⟩ | ⟨rfl, rfl, rfl, rfl⟩ <;> omega
 have hK : K ≤ 64 := by omega
 have hwd : wd = (K : Int) := by omega
 go_enter Tryz.func30, Tryz.ntmps30
 go_wp2_with fail
 refine (cE _).mono ?_
 rintro en w1 ⟨rfl, hb1⟩
 replace hW := next hW hb1
 replace A := A.stay hb1
 have ⟨a0, a1⟩ := A
 go_wp2_with fail
 refine (cW _ hW).mono ?_
 rintro en w2 ⟨t1, rfl, Q1, hb2⟩
 replace hW := next hW hb2
 go_wp2_with fail
 refine (cH _ _ _ hW Q1).mono ?_
 rintro en w3 ⟨t2, rfl, I2, hb3⟩
 replace hW := next hW hb3
 clear cE cW cH Q1 hb1 hb2 hb3 A a0 a1
 go_wp2_with fail
 refine (c0 _).mono ?_
 rintro en w4 ⟨t3, rfl, I3, hb4⟩
 obtain ⟨W5, hW5⟩ : ∃ W5 : World, W5 = w4.alloc (.cells #[.bool false, .slice none 0 0] 154) := ⟨_, rfl⟩
 have hz5 : Zc W5 w4.heap.size := hW5 ▸ zc_new _ _ _ _
 have hb5 : Below w4.heap.size w4 W5 := hW5 ▸ more (Below.refl _ _) _
 go_wp2_with fail
 rw [← hW5]
 clear hW5
 refine (co _).mono ?_
 rintro en w6 ⟨t5, rfl, I5, hb6⟩
 have V6 := next hb5 hb6
 have hLs := nbLsh_any w4.heap.size w4.heap.size W5.heap.size t5 K 1 w6 (hz5.stay hb6) V6.size I5 l1 (by omega)
 subst hwd
 have hk1 : IntKind.u64.wrap (K : Int) = (K : Int) := by rw [IntKind.wrap_u64]; omega
 go_wp2_with fail
 refine hLs.mono ?_
 rintro en w7 hS7
 have V7 : Below w4.heap.size w4 w7 := hS7.below V6 V6.size (Nat.le_refl _)
 obtain ⟨rfl, H7, _⟩ := hS7.in_ (hz5.stay hb6) (Nat.le_refl _)
 have e7 : (1 : Int) * 2 ^ K = ((2 ^ K : Nat) : Int) := by push_cast; omega
 rw [e7] at H7
 clear hLs hS7 I5 hz5 hb5 hb6 V6 e7 hk1 c0 co l1
 have L2 := lK K hK
 have hRs := nbRsh_any w4.heap.size w4.heap.size w4.heap.size w4.heap.size 1 (2 ^ K) w7 H7.zc V7.size H7 (by omega) (by decide)
 go_wp2_with fail
 refine hRs.mono ?_
 rintro en w8 hS8
 have V8 : Below w4.heap.size w4 w8 := hS8.below V7 V7.size (Nat.le_refl _)
 obtain ⟨rfl, H8, _⟩ := hS8.in_ H7.zc (Nat.le_refl _)
 have L3 : ln (2 ^ K / 2 ^ 1) ≤ 3 := Nat.le_trans (ln_mono (Nat.div_le_self _ _)) L2
 have X3 := I3.stay V8
 have hNg := nbNegZ_any t3 w3.heap.size w4.heap.size w4.heap.size _ w8 X3.zc (Nat.le_trans hb4.size V8.size) H8 (by rw [Int.natAbs_natCast]; omega)
 rw [← hhi] at hNg H8
 have V38 := next hb4 V8
 clear hRs hS8 H7 V7 L2 L3
 go_wp2_with fail
 refine hNg.mono ?_
 rintro en w9 hS9
 have V9 : Below w3.heap.size w3 w9 := hS9.below V38 V38.size I3.le
 obtain ⟨rfl, H3, hg9⟩ := hS9.in_ X3.zc I3.le
 have H5 := H8.older hg9 I3.lt
 have hneg : -hi = lo := by omega
 rw [hneg] at H3
 clear hNg hS9 X3 H8 V8 V38 hg9 hneg lK
 have H2 := I2.stay V9
 have U9 := next hW V9
 clear I2 I3 hb4 V9 hW
 have cl := nbCmpI_any _ _ _ _ _ _ _ H2 H3
 by_cases z1 : z < lo
 · obtain ⟨p1, p2⟩ := cu_no (lo := lo) (hi := hi) (fin := true) (t := z) (fun h => by omega)
   have x1 : cmpI z lo < 0 := by unfold cmpI; (repeat' split) <;> omega
   generalize cmpI z lo = r1 at *
   clear hw hlo hhi z1 hbd
   go_wp2_with fail
   refine cl.mono ?_
   rintro en wA ⟨rfl, hbA⟩
   go_wp2
   go_ret2
   rw [p2, p1, show IntKind.u64.wrap 0 = 0 by decide]
   exact ⟨rfl, next U9 hbA⟩
 · have x1 : ¬ cmpI z lo < 0 := by unfold cmpI; (repeat' split) <;> omega
   generalize cmpI z lo = r1 at *
   go_wp2_with fail
   refine cl.mono ?_
   rintro en wA ⟨rfl, hbA⟩
   have UA := next U9 hbA
   have H2A := H2.stay hbA
   have ch := nbCmpI_any _ _ _ _ _ _ _ H2A (H5.stay hbA)
   clear cl H2 H3 H5 U9 hbA
   by_cases z2 : z < hi
   · obtain ⟨p1, p2⟩ := cu_yes (lo := lo) (hi := hi) (fin := true) (t := z) rfl (by omega) z2
     have x2 : ¬ cmpI z hi ≥ 0 := by unfold cmpI; (repeat' split) <;> omega
     generalize cmpI z hi = r2 at *
     have zb : -9223372036854775808 ≤ z ∧ z < 18446744073709551616 ∧ (z < 0 → z ≤ 9223372036854775807) := by omega
     clear hw hlo hhi z1 z2 hbd
     go_wp2_with fail
     refine ch.mono ?_
     rintro en wB ⟨rfl, hbB⟩
     have UB := next UA hbB
     have H2B := H2A.stay hbB
     have cS := nbSignZ_any _ _ _ _ H2B
     go_wp2_with fail
     refine cS.mono ?_
     rintro en wC ⟨rfl, rfl⟩
     by_cases z0 : z < 0
     · have x3 : z.sign < 0 := by rw [Int.sign_eq_neg_one_of_neg z0]; decide
       have cI := nbInt64_any _ _ _ _ H2B zb.1 (zb.2.2 z0)
       generalize z.sign = sz at *
       clear zb z0 cS x2 ch
       go_wp2_with fail
       refine cI.mono ?_
       rintro en wD ⟨rfl, rfl⟩
       go_wp2
       go_ret2
       rw [p2, p1]
       exact ⟨rfl, UB⟩
     · have x3 : ¬ z.sign < 0 := by
        rcases Int.lt_trichotomy z 0 with h | h | h
        · exact absurd h z0
        · rw [h]
          decide
        · rw [Int.sign_eq_one_of_pos h]
          decide
       obtain ⟨zn, rfl⟩ : ∃ zn : Nat, z = (zn : Int) := ⟨z.toNat, by omega⟩
       have cU := nbUint64_any _ _ _ _ H2B (by omega)
       have hwz : IntKind.u64.wrap (zn : Int) = (zn : Int) := by rw [IntKind.wrap_u64]; omega
       generalize (zn : Int).sign = sz at *
       clear zb z0 cS x2 ch
       go_wp2_with fail
       refine cU.mono ?_
       rintro en wD ⟨rfl, rfl⟩
       go_wp2
       go_ret2
       rw [p2, p1, hwz]
       exact ⟨rfl, UB⟩
   · obtain ⟨p1, p2⟩ := cu_no (lo := lo) (hi := hi) (fin := true) (t := z) (fun h => by omega)
     have x2 : cmpI z hi ≥ 0 := by unfold cmpI; (repeat' split) <;> omega
     generalize cmpI z hi = r2 at *
     clear hw hlo hhi z1 z2 hbd
     go_wp2_with fail
     refine ch.mono ?_
     rintro en wB ⟨rfl, hbB⟩
     go_wp2
     go_ret2
     rw [p2, p1, show IntKind.u64.wrap 0 = 0 by decide]
     exact ⟨rfl, next UA hbB⟩
theorem refCutS_any (wd lo hi : Int) (K : Nat) (E F b : Nat) (w : World) (hw : wd = 8 ∧ K = 8 ∧ lo = -128 ∧ hi = 128 ∨ wd = 16 ∧ K = 16 ∧ lo = -32768 ∧ hi = 32768 ∨ wd = 32 ∧ K = 32 ∧ lo = -2147483648 ∧ hi = 2147483648 ∨ wd = 64 ∧ K = 64 ∧ lo = -9223372036854775808 ∧ hi = 9223372036854775808) (h1 : formE (E : Int) (F : Int) = 0) (hp : b < pw (1 + E + F)) (hT : Tab w) :
 Calls Tryz.prog 30 #[.agg #[.int .i64 (E : Int), .int .i64 (F : Int)], .int .u64 (b : Int), .int .i64 wd, .bool true] w fun en w' => en = .returned (.tuple #[.int .u64 (IntKind.u64.wrap (cuV lo hi (finB E F b) (tzV E F b))), .bool (cuB lo hi (finB E F b) (tzV E F b))]) ∧ Below w.heap.size w w' := by
 by_cases hx : exN E F b = maskN E
 · have hf : finB E F b = false := decide_eq_false (fun h => h hx)
   rw [hf]
   obtain ⟨p1, p2⟩ := cu_no (lo := lo) (hi := hi) (fin := false) (t := tzV E F b) (fun h => Bool.noConfusion h.1)
   rw [p1, p2, show IntKind.u64.wrap 0 = 0 by decide]
   exact refCut_non wd true E F b w h1 hp hx
 · have hf : finB E F b = true := decide_eq_true hx
   rw [hf]
   exact refCutS_fin wd lo hi K E F b w hw h1 hp hx hT
theorem refCutU_fin (wd lo hi : Int) (K : Nat) (E F b : Nat) (w : World) (hw : wd = 8 ∧ K = 8 ∧ lo = 0 ∧ hi = 256 ∨ wd = 16 ∧ K = 16 ∧ lo = 0 ∧ hi = 65536 ∨ wd = 32 ∧ K = 32 ∧ lo = 0 ∧ hi = 4294967296 ∨ wd = 64 ∧ K = 64 ∧ lo = 0 ∧ hi = 18446744073709551616) (h1 : formE (E : Int) (F : Int) = 0) (hp : b < pw (1 + E + F)) (hxm : exN E F b ≠ maskN E) (hT : Tab w) :
 Calls Tryz.prog 30 #[.agg #[.int .i64 (E : Int), .int .i64 (F : Int)], .int .u64 (b : Int), .int .i64 wd, .bool false] w fun en w' => en = .returned (.tuple #[.int .u64 (IntKind.u64.wrap (cuV lo hi true (tzV E F b))), .bool (cuB lo hi true (tzV E F b))]) ∧ Below w.heap.size w w' := by
 have A := box2_new w (.int .i64 (E : Int)) (.int .i64 (F : Int)) 31
 have hW := more (Below.refl w.heap.size w) (.cells #[.int .i64 (E : Int), .int .i64 (F : Int)] 31)
 have ⟨a0, a1⟩ := A
 obtain ⟨e1, e2, e3, e4⟩ := formE_ok h1
 have hf := fits_bits h1 hp
 have hrz := rz_zero h1 hp hxm
 have cE := fun W => nbFinite5_any E F b W (by omega) (by omega) (by omega) (by omega) hp
 rw [decide_eq_true hxm] at cE
 have cW : ∀ W, Below w.heap.size w W → Calls Tryz.prog 99 #[.agg #[.int .i64 (E : Int), .int .i64 (F : Int)], .int .u64 (b : Int)] W (MkQ 23 (wrQ E F b) W) := fun W hW => nbWorth5_any E F b W h1 hp hxm (hT.below hW)
 have dw := Lib.hid (dy_worth (E := E) (F := F) (G := E) (H := F) (b := b) (m := 2) (by omega) (by omega) (by omega) h1 hf hp hxm (by decide) false)
 have cH : ∀ W B t, Below w.heap.size w W → Rq 23 W B t (wrQ E F b) → Calls Tryz.prog 98 #[.pointer (some ⟨t, 0, none⟩), .int .u8 2] W (MkZ 23 (rzQ (wrQ E F b) 2) W) := fun W B t hW hQ => nbWhole8_any B t 2 _ W hQ (by decide) (by have := dw.out.2.2.2.1; omega) (by have := dw.out.2.2.2.2.1; omega) (hT.below hW)
 rw [hrz] at cH
 have l1 : ln (1 : Int).natAbs ≤ 4294967296 := by
  have := ln_one
  show ln 1 ≤ _
  omega
 have lK : ∀ k, k ≤ 64 → ln (2 ^ k) ≤ 3 := fun k hk => Nat.le_trans (ln_mono (Nat.pow_le_pow_right (by decide) hk)) (by decide +kernel)
 have c0 := fun W => nbNewZ_any 0 W (by decide)
 have co := fun W => nbNewZ_any 1 W (by decide)
 generalize tzV E F b = z at *
 generalize wrQ E F b = q at *
 clear dw hxm hf h1 hp hT hrz
 have hlo : lo = 0 := by rcases hw with ⟨_, rfl, rfl, _⟩ | ⟨_, rfl, rfl, _⟩ | ⟨_, rfl, rfl, _⟩ | ⟨_, rfl, rfl, _⟩ <;> decide +kernel
 have hhi : hi = ((2 ^ K : Nat) : Int) := by rcases hw with ⟨_, rfl, _, rfl⟩ | ⟨_, rfl, _, rfl⟩ | ⟨_, rfl, _, rfl⟩ | ⟨_, rfl, _, rfl⟩ <;> decide +kernel
 have hbd : -9223372036854775808 ≤ lo ∧ hi ≤ 18446744073709551616 ∧ (lo < 0 → hi ≤ 9223372036854775808) := by rcases hw with ⟨rfl, rfl, rfl, rfl⟩ | ⟨rfl, rfl, rfl, rfl⟩ | ⟨rfl, rfl, rfl, rfl⟩ | ⟨rfl, rfl, rfl, rfl⟩ <;> omega
 have hK : K ≤ 64 := by omega
 have hwd : wd = (K : Int) := by omega
 go_enter Tryz.func30, Tryz.ntmps30
 go_wp2_with fail
 refine (cE _).mono ?_
 rintro en w1 ⟨rfl, hb1⟩
 replace hW := next hW hb1
 replace A := A.stay hb1
 have ⟨a0, a1⟩ := A
 go_wp2_with fail
 refine (cW _ hW).mono ?_
 rintro en w2 ⟨t1, rfl, Q1, hb2⟩
 replace hW := next hW hb2
 go_wp2_with fail
 refine (cH _ _ _ hW Q1).mono ?_
 rintro en w3 ⟨t2, rfl, I2, hb3⟩
 replace hW := next hW hb3
 clear cE cW cH Q1 hb1 hb2 hb3 A a0 a1
 go_wp2_with fail
 refine (c0 _).mono ?_
 rintro en w4 ⟨t3, rfl, I3, hb4⟩
 obtain ⟨W5, hW5⟩ : ∃ W5 : World, W5 = w4.alloc (.cells #[.bool false, .slice none 0 0] 154) := ⟨_, rfl⟩
 have hz5 : Zc W5 w4.heap.size := hW5 ▸ zc_new _ _ _ _
 have hb5 : Below w4.heap.size w4 W5 := hW5 ▸ more (Below.refl _ _) _
 go_wp2_with fail
 rw [← hW5]
 clear hW5
 refine (co _).mono ?_
 rintro en w6 ⟨t5, rfl, I5, hb6⟩
 have V6 := next hb5 hb6
 have hLs := nbLsh_any w4.heap.size w4.heap.size W5.heap.size t5 K 1 w6 (hz5.stay hb6) V6.size I5 l1 (by omega)
 subst hwd
 have hk1 : IntKind.u64.wrap (K : Int) = (K : Int) := by rw [IntKind.wrap_u64]; omega
 go_wp2_with fail
 refine hLs.mono ?_
 rintro en w7 hS7
 have V7 : Below w4.heap.size w4 w7 := hS7.below V6 V6.size (Nat.le_refl _)
 obtain ⟨rfl, H7, _⟩ := hS7.in_ (hz5.stay hb6) (Nat.le_refl _)
 have e7 : (1 : Int) * 2 ^ K = ((2 ^ K : Nat) : Int) := by push_cast; omega
 rw [e7] at H7
 clear hLs hS7 I5 hz5 hb5 hb6 V6 e7 hk1 c0 co l1
 have L2 := lK K hK
 have V9 := next hb4 V7
 have H3 := I3.stay V7
 have H5 := H7
 rw [← hhi] at H5
 rw [← hlo] at H3
 clear H7 V7 L2 lK
 have H2 := I2.stay V9
 have U9 := next hW V9
 clear I2 I3 hb4 V9 hW
 have cl := nbCmpI_any _ _ _ _ _ _ _ H2 H3
 by_cases z1 : z < lo
 · obtain ⟨p1, p2⟩ := cu_no (lo := lo) (hi := hi) (fin := true) (t := z) (fun h => by omega)
   have x1 : cmpI z lo < 0 := by unfold cmpI; (repeat' split) <;> omega
   generalize cmpI z lo = r1 at *
   clear hw hlo hhi z1 hbd
   go_wp2_with fail
   refine cl.mono ?_
   rintro en wA ⟨rfl, hbA⟩
   go_wp2
   go_ret2
   rw [p2, p1, show IntKind.u64.wrap 0 = 0 by decide]
   exact ⟨rfl, next U9 hbA⟩
 · have x1 : ¬ cmpI z lo < 0 := by unfold cmpI; (repeat' split) <;> omega
   generalize cmpI z lo = r1 at *
   go_wp2_with fail
   refine cl.mono ?_
   rintro en wA ⟨rfl, hbA⟩
   have UA := next U9 hbA
   have H2A := H2.stay hbA
   have ch := nbCmpI_any _ _ _ _ _ _ _ H2A (H5.stay hbA)
   clear cl H2 H3 H5 U9 hbA
   by_cases z2 : z < hi
   · obtain ⟨p1, p2⟩ := cu_yes (lo := lo) (hi := hi) (fin := true) (t := z) rfl (by omega) z2
     have x2 : ¬ cmpI z hi ≥ 0 := by unfold cmpI; (repeat' split) <;> omega
     generalize cmpI z hi = r2 at *
     have zb : -9223372036854775808 ≤ z ∧ z < 18446744073709551616 ∧ (z < 0 → z ≤ 9223372036854775807) := by omega
     clear hw hlo hhi z1 z2 hbd
     go_wp2_with fail
     refine ch.mono ?_
     rintro en wB ⟨rfl, hbB⟩
     have UB := next UA hbB
     have H2B := H2A.stay hbB
     have cS := nbSignZ_any _ _ _ _ H2B
     go_wp2_with fail
     refine cS.mono ?_
     rintro en wC ⟨rfl, rfl⟩
     by_cases z0 : z < 0
     · have x3 : z.sign < 0 := by rw [Int.sign_eq_neg_one_of_neg z0]; decide
       have cI := nbInt64_any _ _ _ _ H2B zb.1 (zb.2.2 z0)
       generalize z.sign = sz at *
       clear zb z0 cS x2 ch
       go_wp2_with fail
       refine cI.mono ?_
       rintro en wD ⟨rfl, rfl⟩
       go_wp2
       go_ret2
       rw [p2, p1]
       exact ⟨rfl, UB⟩
     · have x3 : ¬ z.sign < 0 := by
        rcases Int.lt_trichotomy z 0 with h | h | h
        · exact absurd h z0
        · rw [h]
          decide
        · rw [Int.sign_eq_one_of_pos h]
          decide
       obtain ⟨zn, rfl⟩ : ∃ zn : Nat, z = (zn : Int) := ⟨z.toNat, by omega⟩
       have cU := nbUint64_any _ _ _ _ H2B (by omega)
       have hwz : IntKind.u64.wrap (zn : Int) = (zn : Int) := by rw [IntKind.wrap_u64]; omega
       generalize (zn : Int).sign = sz at *
       clear zb z0 cS x2 ch
       go_wp2_with fail
       refine cU.mono ?_
       rintro en wD ⟨rfl, rfl⟩
       go_wp2
       go_ret2
       rw [p2, p1, hwz]
       exact ⟨rfl, UB⟩
   · obtain ⟨p1, p2⟩ := cu_no (lo := lo) (hi := hi) (fin := true) (t := z) (fun h => by omega)
     have x2 : cmpI z hi ≥ 0 := by unfold cmpI; (repeat' split) <;> omega
     generalize cmpI z hi = r2 at *
     clear hw hlo hhi z1 z2 hbd
     go_wp2_with fail
     refine ch.mono ?_
     rintro en wB ⟨rfl, hbB⟩
     go_wp2
     go_ret2
     rw [p2, p1, show IntKind.u64.wrap 0 = 0 by decide]
     exact ⟨rfl, next UA hbB⟩
theorem refCutU_any (wd lo hi : Int) (K : Nat) (E F b : Nat) (w : World) (hw : wd = 8 ∧ K = 8 ∧ lo = 0 ∧ hi = 256 ∨ wd = 16 ∧ K = 16 ∧ lo = 0 ∧ hi = 65536 ∨ wd = 32 ∧ K = 32 ∧ lo = 0 ∧ hi = 4294967296 ∨ wd = 64 ∧ K = 64 ∧ lo = 0 ∧ hi = 18446744073709551616) (h1 : formE (E : Int) (F : Int) = 0) (hp : b < pw (1 + E + F)) (hT : Tab w) :
 Calls Tryz.prog 30 #[.agg #[.int .i64 (E : Int), .int .i64 (F : Int)], .int .u64 (b : Int), .int .i64 wd, .bool false] w fun en w' => en = .returned (.tuple #[.int .u64 (IntKind.u64.wrap (cuV lo hi (finB E F b) (tzV E F b))), .bool (cuB lo hi (finB E F b) (tzV E F b))]) ∧ Below w.heap.size w w' := by
 by_cases hx : exN E F b = maskN E
 · have hf : finB E F b = false := decide_eq_false (fun h => h hx)
   rw [hf]
   obtain ⟨p1, p2⟩ := cu_no (lo := lo) (hi := hi) (fin := false) (t := tzV E F b) (fun h => Bool.noConfusion h.1)
   rw [p1, p2, show IntKind.u64.wrap 0 = 0 by decide]
   exact refCut_non wd false E F b w h1 hp hx
 · have hf : finB E F b = true := decide_eq_true hx
   rw [hf]
   exact refCutU_fin wd lo hi K E F b w hw h1 hp hx hT
end Go.Proofs.YtoiifhmepniniaaGreatDoor
