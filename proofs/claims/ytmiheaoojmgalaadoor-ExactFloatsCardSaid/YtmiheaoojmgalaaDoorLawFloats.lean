/-
  The law ExactFloats answers true.
-/
import Derived.Test.YtmiheaoojmgalaaDoorAlive
import Derived.Test.YtmiheaoojmgalaaDoorFloatL
import Derived.Test.YtmiheaoojmgalaaDoorIeeeL
import Derived.Test.YtmiheaoojmgalaaDoorNought
import Derived.Laws.Externs
import Derived.Deep.Cut
namespace Go.Proofs.YtmiheaoojmgalaaDoor
open Go.RowKit Go.Lb

/-- The float of any form: what the law needs of it, where it is finite. -/
structure FlA (e f : Int) (b : Nat) (D : Ds) (n z : Nat) : Prop where
  vD : D = valD e f b
  eD : D.e = 0
  cB : ∀ (W : World) (ao : Option Addr) (m k : Nat), Sl W ao m k (limbs D.N) → Calls Tryd.prog 30 #[.agg #[.int .i64 e, .int .i64 f], .agg #[.bool D.s, .slice ao m k, .int .i64 D.x]] W fun en w' => en = .returned (.tuple #[.int .u64 n, .bool true, .int .i64 0]) ∧ Below W.heap.size W w'
  cV : ∀ W : World, Tab W → Calls Tryd.prog 23 #[.agg #[.int .i64 e, .int .i64 f], .int .u64 n] W (Dyn D W)
  cZ : ∀ W : World, Calls Tryd.prog 31 #[.agg #[.int .i64 e, .int .i64 f], .bool true] W fun en w' => en = .returned (.tuple #[.int .u64 z, .int .i64 0]) ∧ Below W.heap.size W w'
  cK : ∀ (W : World) (ao : Option Addr) (m k : Nat), Sl W ao m k (limbs D.N) → Calls Tryd.prog 26 #[.agg #[.bool D.s, .slice ao m k, .int .i64 D.x]] W fun en w' => en = .returned (.int .i64 0) ∧ Below W.heap.size W w'
  hn : n = b ∨ n = 0 ∧ b = z

theorem valF_parts {e f : Int} {b : Nat} (h : valOk e f b = true) : ∃ e' f' : Nat, e = (e' : Int) ∧ f = (f' : Int) ∧ formE (e' : Int) (f' : Int) = 0 ∧ b < pw (1 + e' + f') ∧ exN e' f' b ≠ maskN e' := by
  obtain ⟨h1, h2⟩ := of_decide_eq_true h
  have hform : formE e f = 0 := by
    unfold fitsE at h1
    split at h1
    · rename_i hh; exact absurd h1 hh
    · rename_i hh; exact Classical.byContradiction hh
  obtain ⟨g1, g2, g3, g4⟩ := formE_ok hform
  obtain ⟨e, rfl⟩ := Int.eq_ofNat_of_zero_le (by omega : 0 ≤ e)
  obtain ⟨f, rfl⟩ := Int.eq_ofNat_of_zero_le (by omega : 0 ≤ f)
  refine ⟨e, f, rfl, rfl, hform, ?_, by simpa using h2⟩
  unfold fitsE at h1
  rw [if_neg (by simp [hform])] at h1
  split at h1
  · assumption
  · cases h1

theorem flA_of {e f : Int} {b : Nat} (hb : b < 18446744073709551616) (h : valOk e f b = true) : ∃ D n z, FlA e f b D n z := by
  obtain ⟨e, f, rfl, rfl, hform, hp, hx⟩ := valF_parts h
  obtain ⟨g1, g2, g3, g4⟩ := formE_ok hform
  have ha2 : e ≤ 11 := by omega
  have ha4 : f ≤ 52 := by omega
  have hfit := fitsE_ok hform hp
  obtain ⟨u1, u2⟩ := valD_ok hfit hx ha2 ha4
  obtain ⟨b1, b2, b3⟩ := bits_value hform hp hx _ rfl
  have hcB : ∀ (W : World) (ao : Option Addr) (m k : Nat), Sl W ao m k (limbs (valD (e : Int) (f : Int) b).N) → Calls Tryd.prog 30 #[.agg #[.int .i64 e, .int .i64 f], .agg #[.bool (valD (e : Int) (f : Int) b).s, .slice ao m k, .int .i64 (valD (e : Int) (f : Int) b).x]] W fun en w' => en = .returned (.tuple #[.int .u64 ((if vN e f b = 0 then 0 else b : Nat) : Int), .bool true, .int .i64 0]) ∧ Below W.heap.size W w' := fun W ao m k hs => by
    have := exBits_any (e : Int) (f : Int) (valD (e : Int) (f : Int) b).s ao m k (valD (e : Int) (f : Int) b).x _ W hs
    rwa [b1, b2, b3] at this
  have hcK : ∀ (W : World) (ao : Option Addr) (m k : Nat), Sl W ao m k (limbs (valD (e : Int) (f : Int) b).N) → Calls Tryd.prog 26 #[.agg #[.bool (valD (e : Int) (f : Int) b).s, .slice ao m k, .int .i64 (valD (e : Int) (f : Int) b).x]] W fun en w' => en = .returned (.int .i64 0) ∧ Below W.heap.size W w' := fun W ao m k hs => by
    have := dyCheck_any (valD (e : Int) (f : Int) b).s ao m k (valD (e : Int) (f : Int) b).x _ W hs
    rwa [u2.dy.chk] at this
  refine ⟨_, if vN e f b = 0 then 0 else b, joinN e f true 0 0, rfl, u1, hcB, ?_, fun W => formsNought_any e f true W hform, hcK, ?_⟩
  · intro W hT
    by_cases h0 : vN e f b = 0
    · rw [if_pos h0]
      have hm0 : exN e f 0 ≠ maskN e := by
        have : exN e f 0 = 0 := by unfold exN takeN; rw [Nat.zero_div, Nat.zero_mod]
        rw [this]
        unfold maskN
        have : 2 ^ 2 ≤ 2 ^ e := Nat.pow_le_pow_right (by decide) (by omega)
        omega
      have hv0 : vN e f 0 = 0 := vN_zero.2 (Nat.zero_mod _)
      have e1 := valD_mk (fitsE_ok hform (pw_pos (1 + e + f))) hm0
      have e2 := valD_mk hfit hx
      rw [hv0, mkA_zero] at e1
      rw [h0, mkA_zero] at e2
      rw [e2, ← e1]
      exact value_any (e : Int) (f : Int) 0 W (by decide) hT
    · rw [if_neg h0]
      exact value_any (e : Int) (f : Int) b W hb hT
  · by_cases h0 : vN e f b = 0
    · rw [if_pos h0]
      have hz := vN_zero.1 h0
      have hj : joinN e f true 0 0 = pw (f + e) := by
        unfold joinN putN
        rw [if_pos rfl, Nat.add_comm e f]
        omega
      rw [show 1 + e + f = f + e + 1 by omega, pw_succ] at hp
      rw [hj]
      generalize pw (f + e) = P at hz hp
      obtain ⟨q, hq⟩ := Nat.dvd_of_mod_eq_zero hz
      rw [hq] at hp ⊢
      rcases (by omega : q = 0 ∨ q = 1 ∨ 2 ≤ q) with rfl | rfl | h2
      · exact .inl (by omega)
      · exact .inr ⟨rfl, by omega⟩
      · have := Nat.mul_le_mul_left P h2
        omega
    · rw [if_neg h0]
      exact .inl rfl

/-- Two doubles: what the law needs of them, where both are finite. -/
theorem fl_two {x y : Nat} (hx : valOk 11 52 x = true) (hy : valOk 11 52 y = true) : ∃ c, (c = -1 ∨ c = 0 ∨ c = 1) ∧ cmpA (valD 11 52 x).s (limbs (valD 11 52 x).N) (valD 11 52 x).x (valD 11 52 y).s (limbs (valD 11 52 y).N) (valD 11 52 y).x = c ∧
    cmpF (valD 11 52 x).s (limbs (valD 11 52 x).N) (valD 11 52 x).x (valD 11 52 y).s (limbs (valD 11 52 y).N) (valD 11 52 y).x = 0 ∧ FloatKind.f64.format.order x y = some (ordC c) := by
  obtain ⟨e, f, he, hf, hform, hp, hx'⟩ := valF_parts hx
  obtain rfl : e = 11 := by omega
  obtain rfl : f = 52 := by omega
  obtain ⟨e, f, he2, hf2, _, hq, hy'⟩ := valF_parts hy
  obtain rfl : e = 11 := by omega
  obtain rfl : f = 52 := by omega
  obtain ⟨u1, u2⟩ := valD_ok (fitsE_ok hform hp) hx' (by decide) (by decide)
  obtain ⟨v1, v2⟩ := valD_ok (fitsE_ok hform hq) hy' (by decide) (by decide)
  obtain ⟨c1, c2⟩ := cmpA_worth u2.dy v2.dy u2.low v2.low
  rw [u2.wo, v2.wo] at c2
  refine ⟨_, ?_, rfl, c1, order_fin hx' hy' c2⟩
  rcases c2 with ⟨h, _⟩ | ⟨h, _⟩ | ⟨h, _⟩
  · exact .inl h
  · exact .inr (.inl h)
  · exact .inr (.inr h)

theorem fl_e {x : Nat} (h : valOk 11 52 x = true) : (valD 11 52 x).e = 0 := by
  obtain ⟨e, f, he, hf, hform, hp, hx⟩ := valF_parts h
  obtain rfl : e = 11 := by omega
  obtain rfl : f = 52 := by omega
  exact (valD_ok (fitsE_ok hform hp) hx (by decide) (by decide)).1

def nanR (x : Nat) (W : World) : Nat := (Question.nanBits .f64 x x).cut (W.tape W.drawn (Question.nanBits .f64 x x))

theorem valE_no {x : Nat} (hx : x < 18446744073709551616) (h : valOk 11 52 x = false) : valE 11 52 x ≠ 0 ∧ exN 11 52 x = maskN 11 := by
  have hf : fitsE 11 52 x = 0 := fitsE_ok (e := 11) (f := 52) (by decide) (by rw [show pw (1 + 11 + 52) = 18446744073709551616 by unfold pw; rfl]; exact hx)
  have hm : exN 11 52 x = maskN 11 := Classical.byContradiction fun hn => by
    have : valOk 11 52 x = true := decide_eq_true ⟨hf, hn⟩
    rw [this] at h
    cases h
  refine ⟨?_, hm⟩
  unfold valE
  rw [if_neg (by simp [hf]), if_pos (by simpa using hm)]
  decide

theorem run_sub_fin {P : Program} {x : Nat} (t : TypeId) (h : valOk 11 52 x = true) (W : World) : (binOp .sub t (.float .f64 x) (.float .f64 x)).run P W = .ok (.float .f64 0) W := by
  obtain ⟨e, f, he, hf, hform, hp, hx'⟩ := valF_parts h
  obtain rfl : e = 11 := by omega
  obtain rfl : f = 52 := by omega
  exact run_float_arith W .sub t .f64 x x 0 (sub_fin hx')

theorem run_sub_no {P : Program} {x : Nat} (t : TypeId) (h : exN 11 52 x = maskN 11) (W : World) : (binOp .sub t (.float .f64 x) (.float .f64 x)).run P W = .ok (.float .f64 (nanR x W)) W.drew := by
  have : FloatKind.f64.format.sub x x = none := sub_inf h
  simp [binOp, Op.floatArith, this, nanR, Question.forced]

theorem nan_order (x : Nat) (W : World) : FloatKind.f64.format.order (nanR x W) 0 = none := order_nan _

theorem zero_order : FloatKind.f64.format.order 0 0 = some .eq := order_zero

set_option maxRecDepth 100000 in
set_option maxHeartbeats 8000000 in
theorem floats_any (e f : Int) (b x y : Nat) (w : World) (hb : b < 18446744073709551616) (hx : x < 18446744073709551616) (hy : y < 18446744073709551616) (hT : Tab w) :
    Calls Tryd.prog 7 #[.agg #[.int .i64 e, .int .i64 f], .int .u64 b, .int .u64 x, .int .u64 y] w fun en w' => en = .returned (.bool true) ∧ Below w.heap.size w w' := by
  have hfb : ∀ (z : Nat) (W : World), (callFunc 32 #[.int .u64 z]).run Tryd.prog W = .ok (.value (.float .f64 z)) W := fun z W =>
    (run_callFunc_extern Tryd.func32 (by kernel_rfl) (by kernel_rfl) (by kernel_rfl) (e := Extern.MathFloatBits.float64frombits) (by kernel_rfl) _ W).trans rfl
  go_enter Tryd.func7, Tryd.ntmps7
  go_wp2_with fail
  have A := box2_new w (.int .i64 e) (.int .i64 f) 23
  have hW := more (Below.refl w.heap.size w) (.cells #[.int .i64 e, .int .i64 f] 23)
  replace hT := hT.below hW
  generalize w.alloc (.cells #[.int .i64 e, .int .i64 f] 23) = w0 at A hW hT ⊢
  refine (alive_any _ hT).mono ?_
  rintro en w1 ⟨rfl, hV⟩
  replace A := A.stay hV
  replace hW := next hW hV
  replace hT := hT.below hV
  have A0 := A.c0
  have A1 := A.c1
  clear hV
  go_wp2_with fail
  refine (value_any e f b _ hb hT).mono ?_
  rintro en v2 hv2
  obtain ⟨a2, n2, k2, rfl, hF2, hV2⟩ := dyn_valued hv2
  have hV := more (Below.refl v2.heap.size v2) (.cells #[.bool (valD e f b).s, .slice a2 n2 k2, .int .i64 (valD e f b).x] 37)
  replace A := (A.stay hV2).stay hV
  replace hW := next (next hW hV2) hV
  replace hT := (hT.below hV2).below hV
  have X := box3_new v2 (.bool (valD e f b).s) (.slice a2 n2 k2) (.int .i64 (valD e f b).x) 37
  have fX := hF2.sl.below hV
  clear hv2 hF2 hV2 hV A0 A1
  have A0 := A.c0
  have A1 := A.c1
  have X0 := X.c0
  have X1 := X.c1
  have X2 := X.c2
  cases hv : valOk e f b
  · have he : ((valD e f b).e == 0) = false := by
      have : valE e f b ≠ 0 := fun h0 => by
        unfold valE at h0
        split at h0
        · rename_i hh; exact hh h0
        · rename_i hh
          split at h0
          · cases h0
          · rename_i h2
            have : valOk e f b = true := decide_eq_true ⟨Classical.byContradiction hh, h2⟩
            rw [this] at hv
            cases hv
      show (valE e f b == 0) = false
      simp [this]
    clear hv
    go_wp2_with fail
    refine (double_any _).mono ?_
    rintro en u1 ⟨rfl, hU1⟩
    replace hW := next hW hU1
    replace hT := hT.below hU1
    go_wp2_with fail
    refine (value_any 11 52 x _ hx hT).mono ?_
    rintro en u2 hu2
    obtain ⟨ax, nx, kx, rfl, hFx, hU2⟩ := dyn_valued hu2
    have hU3 := more (Below.refl u2.heap.size u2) (.cells #[.bool (valD 11 52 x).s, .slice ax nx kx, .int .i64 (valD 11 52 x).x] 37)
    replace hW := next (next hW hU2) hU3
    replace hT := (hT.below hU2).below hU3
    have PX := box3_new u2 (.bool (valD 11 52 x).s) (.slice ax nx kx) (.int .i64 (valD 11 52 x).x) 37
    have fPX := hFx.sl.below hU3
    clear hu2 hU1 hU2 hU3 hFx
    go_wp2_with fail
    generalize u2.heap.size = px at PX ⊢
    generalize u2.alloc (.cells #[.bool (valD 11 52 x).s, .slice ax nx kx, .int .i64 (valD 11 52 x).x] 37) = u3 at PX fPX hW hT ⊢
    refine (double_any _).mono ?_
    rintro en u4 ⟨rfl, hU4⟩
    replace PX := PX.stay hU4
    replace fPX := fPX.below hU4
    replace hW := next hW hU4
    replace hT := hT.below hU4
    go_wp2_with fail
    refine (value_any 11 52 y _ hy hT).mono ?_
    rintro en u5 hu5
    obtain ⟨ay, ny, ky, rfl, hFy, hU5⟩ := dyn_valued hu5
    have hU6 := more (Below.refl u5.heap.size u5) (.cells #[.bool (valD 11 52 y).s, .slice ay ny ky, .int .i64 (valD 11 52 y).x] 37)
    replace hW := next (next hW hU5) hU6
    replace PX := (PX.stay hU5).stay hU6
    replace fPX := (fPX.below hU5).below hU6
    have PY := box3_new u5 (.bool (valD 11 52 y).s) (.slice ay ny ky) (.int .i64 (valD 11 52 y).x) 37
    have fPY := hFy.sl.below hU6
    clear hu5 hU4 hU5 hU6 hFy hT hfb
    have PX0 := PX.c0
    have PX1 := PX.c1
    have PX2 := PX.c2
    have PY0 := PY.c0
    have PY1 := PY.c1
    have PY2 := PY.c2
    have hz := zero_order
    cases qx : valOk 11 52 x
    · obtain ⟨ex, mx⟩ := valE_no hx qx
      have ex' : ((valD 11 52 x).e == 0) = false := by
        show (valE 11 52 x == 0) = false
        simp [ex]
      have ex2 : ¬ (valD 11 52 x).e = 0 := ex
      have sx := run_sub_no (P := Tryd.prog) 56 mx
      have ox := nan_order x
      cases qy : valOk 11 52 y
      · obtain ⟨ey, my⟩ := valE_no hy qy
        have ey' : ((valD 11 52 y).e == 0) = false := by
          show (valE 11 52 y == 0) = false
          simp [ey]
        have ey2 : ¬ (valD 11 52 y).e = 0 := ey
        have sy := run_sub_no (P := Tryd.prog) 56 my
        have oy := nan_order y
        clear ex mx qx ey my qy
        go_wp2
        go_ret
        first | exact ⟨rfl, hW⟩ | exact ⟨rfl, hW.drew⟩ | exact ⟨rfl, hW.drew.drew⟩
      · have ey := fl_e qy
        have sy := run_sub_fin (P := Tryd.prog) 56 qy
        clear ex mx qx qy
        go_wp2
        go_ret
        first | exact ⟨rfl, hW⟩ | exact ⟨rfl, hW.drew⟩ | exact ⟨rfl, hW.drew.drew⟩
    · have ex := fl_e qx
      have sx := run_sub_fin (P := Tryd.prog) 56 qx
      cases qy : valOk 11 52 y
      · obtain ⟨ey, my⟩ := valE_no hy qy
        have ey' : ((valD 11 52 y).e == 0) = false := by
          show (valE 11 52 y == 0) = false
          simp [ey]
        have ey2 : ¬ (valD 11 52 y).e = 0 := ey
        have sy := run_sub_no (P := Tryd.prog) 56 my
        have oy := nan_order y
        clear ey my qx qy
        go_wp2
        go_ret
        first | exact ⟨rfl, hW⟩ | exact ⟨rfl, hW.drew⟩ | exact ⟨rfl, hW.drew.drew⟩
      · have ey := fl_e qy
        have sy := run_sub_fin (P := Tryd.prog) 56 qy
        obtain ⟨c, hc, c1, c2, ho⟩ := fl_two qx qy
        clear qx qy
        go_wp2_with fail
        refine (exCmp_any _ _ ax ay nx ny kx ky _ _ _ _ _ fPX fPY).mono ?_
        rintro en u7 ⟨rfl, hU7⟩
        rw [c1, c2]
        replace hW := next hW hU7
        rcases hc with rfl | rfl | rfl
        · have ho' : FloatKind.f64.format.order x y = some .lt := ho
          clear ho
          go_wp2
          go_ret
          first | exact ⟨rfl, hW⟩ | exact ⟨rfl, hW.drew⟩ | exact ⟨rfl, hW.drew.drew⟩
        · have ho' : FloatKind.f64.format.order x y = some .eq := ho
          clear ho
          go_wp2
          go_ret
          first | exact ⟨rfl, hW⟩ | exact ⟨rfl, hW.drew⟩ | exact ⟨rfl, hW.drew.drew⟩
        · have ho' : FloatKind.f64.format.order x y = some .gt := ho
          clear ho
          go_wp2
          go_ret
          first | exact ⟨rfl, hW⟩ | exact ⟨rfl, hW.drew⟩ | exact ⟨rfl, hW.drew.drew⟩
  · obtain ⟨D, n, z, hA⟩ := flA_of hb hv
    have eD := hA.eD
    have vD := hA.vD
    rw [← vD] at X fX hW hT A A0 A1 X0 X1 X2 ⊢
    clear vD hv
    have cB := hA.cB
    have cV := hA.cV
    have cZ := hA.cZ
    have cK := hA.cK
    have hn := Lib.hid hA.hn
    clear hA
    go_wp2_with fail
    generalize v2.heap.size = p2 at X X0 X1 X2 ⊢
    generalize v2.alloc (.cells #[.bool D.s, .slice a2 n2 k2, .int .i64 D.x] 37) = w2 at A A0 A1 X X0 X1 X2 fX hW hT ⊢
    refine (cB _ _ _ _ fX).mono ?_
    rintro en w3 ⟨rfl, hV⟩
    replace A := A.stay hV
    replace X := X.stay hV
    replace fX := fX.below hV
    replace hW := next hW hV
    replace hT := hT.below hV
    replace A0 := A.c0
    replace A1 := A.c1
    go_wp2_with fail
    refine (cV _ hT).mono ?_
    rintro en v4 ⟨a4, n4, k4, rfl, hF4, hV4⟩
    have hV5 := more (Below.refl v4.heap.size v4) (.cells #[.bool D.s, .slice a4 n4 k4, .int .i64 D.x] 37)
    replace A := (A.stay hV4).stay hV5
    replace X := (X.stay hV4).stay hV5
    replace fX := (fX.below hV4).below hV5
    replace hW := next (next hW hV4) hV5
    replace hT := (hT.below hV4).below hV5
    have Y := box3_new v4 (.bool D.s) (.slice a4 n4 k4) (.int .i64 D.x) 37
    have fY := hF4.sl.below hV5
    replace A0 := A.c0
    replace A1 := A.c1
    clear X0 X1 X2 hV hV4 hV5 hF4
    go_wp2_with fail
    generalize v4.heap.size = p4 at Y ⊢
    generalize v4.alloc (.cells #[.bool D.s, .slice a4 n4 k4, .int .i64 D.x] 37) = w4 at A A0 A1 X fX Y fY hW hT ⊢
    refine (cZ _).mono ?_
    rintro en w5 ⟨rfl, hV⟩
    replace X := X.stay hV
    replace fX := fX.below hV
    replace Y := Y.stay hV
    replace fY := fY.below hV
    replace hW := next hW hV
    replace hT := hT.below hV
    have X0 := X.c0
    have X1 := X.c1
    have X2 := X.c2
    have Y0 := Y.c0
    have Y1 := Y.c1
    have Y2 := Y.c2
    obtain rfl : n4 = n2 := by rw [← fX.len, ← fY.len]
    clear hV A A0 A1 cB cV cZ
    have hcase : n = b ∨ (n = 0 ∧ b = z ∧ ((0 : Int) == (z : Int)) = false ∧ ¬ (0 : Int) = (z : Int)) := by
      rcases hn.out with h | ⟨h, h2⟩
      · exact .inl h
      · by_cases h3 : z = 0
        · exact .inl (by omega)
        · exact .inr ⟨h, h2, by simp; omega, by omega⟩
    clear hn
    rcases hcase with rfl | ⟨rfl, rfl, hc3, hc4⟩
    · go_wp2_with fail
      refine (refDySame_eq D.s D.x a4 a2 _ k4 k2 (limbs D.N) _ fY fX).mono ?_
      rintro en w6 ⟨rfl, hV⟩
      replace X := X.stay hV
      replace fX := fX.below hV
      replace hW := next hW hV
      replace hT := hT.below hV
      replace X0 := X.c0
      replace X1 := X.c1
      replace X2 := X.c2
      clear Y0 Y1 Y2 hV
      go_wp2_with fail
      refine (cK _ _ _ _ fX).mono ?_
      rintro en w7 ⟨rfl, hV⟩
      replace hW := next hW hV
      replace hT := hT.below hV
      clear X X0 X1 X2 Y fX fY hV cK eD
      go_wp2_with fail
      refine (double_any _).mono ?_
      rintro en u1 ⟨rfl, hU1⟩
      replace hW := next hW hU1
      replace hT := hT.below hU1
      go_wp2_with fail
      refine (value_any 11 52 x _ hx hT).mono ?_
      rintro en u2 hu2
      obtain ⟨ax, nx, kx, rfl, hFx, hU2⟩ := dyn_valued hu2
      have hU3 := more (Below.refl u2.heap.size u2) (.cells #[.bool (valD 11 52 x).s, .slice ax nx kx, .int .i64 (valD 11 52 x).x] 37)
      replace hW := next (next hW hU2) hU3
      replace hT := (hT.below hU2).below hU3
      have PX := box3_new u2 (.bool (valD 11 52 x).s) (.slice ax nx kx) (.int .i64 (valD 11 52 x).x) 37
      have fPX := hFx.sl.below hU3
      clear hu2 hU1 hU2 hU3 hFx
      go_wp2_with fail
      generalize u2.heap.size = px at PX ⊢
      generalize u2.alloc (.cells #[.bool (valD 11 52 x).s, .slice ax nx kx, .int .i64 (valD 11 52 x).x] 37) = u3 at PX fPX hW hT ⊢
      refine (double_any _).mono ?_
      rintro en u4 ⟨rfl, hU4⟩
      replace PX := PX.stay hU4
      replace fPX := fPX.below hU4
      replace hW := next hW hU4
      replace hT := hT.below hU4
      go_wp2_with fail
      refine (value_any 11 52 y _ hy hT).mono ?_
      rintro en u5 hu5
      obtain ⟨ay, ny, ky, rfl, hFy, hU5⟩ := dyn_valued hu5
      have hU6 := more (Below.refl u5.heap.size u5) (.cells #[.bool (valD 11 52 y).s, .slice ay ny ky, .int .i64 (valD 11 52 y).x] 37)
      replace hW := next (next hW hU5) hU6
      replace PX := (PX.stay hU5).stay hU6
      replace fPX := (fPX.below hU5).below hU6
      have PY := box3_new u5 (.bool (valD 11 52 y).s) (.slice ay ny ky) (.int .i64 (valD 11 52 y).x) 37
      have fPY := hFy.sl.below hU6
      clear hu5 hU4 hU5 hU6 hFy hT hfb
      have PX0 := PX.c0
      have PX1 := PX.c1
      have PX2 := PX.c2
      have PY0 := PY.c0
      have PY1 := PY.c1
      have PY2 := PY.c2
      have hz := zero_order
      cases qx : valOk 11 52 x
      · obtain ⟨ex, mx⟩ := valE_no hx qx
        have ex' : ((valD 11 52 x).e == 0) = false := by
          show (valE 11 52 x == 0) = false
          simp [ex]
        have ex2 : ¬ (valD 11 52 x).e = 0 := ex
        have sx := run_sub_no (P := Tryd.prog) 56 mx
        have ox := nan_order x
        cases qy : valOk 11 52 y
        · obtain ⟨ey, my⟩ := valE_no hy qy
          have ey' : ((valD 11 52 y).e == 0) = false := by
            show (valE 11 52 y == 0) = false
            simp [ey]
          have ey2 : ¬ (valD 11 52 y).e = 0 := ey
          have sy := run_sub_no (P := Tryd.prog) 56 my
          have oy := nan_order y
          clear ex mx qx ey my qy
          go_wp2
          go_ret
          first | exact ⟨rfl, hW⟩ | exact ⟨rfl, hW.drew⟩ | exact ⟨rfl, hW.drew.drew⟩
        · have ey := fl_e qy
          have sy := run_sub_fin (P := Tryd.prog) 56 qy
          clear ex mx qx qy
          go_wp2
          go_ret
          first | exact ⟨rfl, hW⟩ | exact ⟨rfl, hW.drew⟩ | exact ⟨rfl, hW.drew.drew⟩
      · have ex := fl_e qx
        have sx := run_sub_fin (P := Tryd.prog) 56 qx
        cases qy : valOk 11 52 y
        · obtain ⟨ey, my⟩ := valE_no hy qy
          have ey' : ((valD 11 52 y).e == 0) = false := by
            show (valE 11 52 y == 0) = false
            simp [ey]
          have ey2 : ¬ (valD 11 52 y).e = 0 := ey
          have sy := run_sub_no (P := Tryd.prog) 56 my
          have oy := nan_order y
          clear ey my qx qy
          go_wp2
          go_ret
          first | exact ⟨rfl, hW⟩ | exact ⟨rfl, hW.drew⟩ | exact ⟨rfl, hW.drew.drew⟩
        · have ey := fl_e qy
          have sy := run_sub_fin (P := Tryd.prog) 56 qy
          obtain ⟨c, hc, c1, c2, ho⟩ := fl_two qx qy
          clear qx qy
          go_wp2_with fail
          refine (exCmp_any _ _ ax ay nx ny kx ky _ _ _ _ _ fPX fPY).mono ?_
          rintro en u7 ⟨rfl, hU7⟩
          rw [c1, c2]
          replace hW := next hW hU7
          rcases hc with rfl | rfl | rfl
          · have ho' : FloatKind.f64.format.order x y = some .lt := ho
            clear ho
            go_wp2
            go_ret
            first | exact ⟨rfl, hW⟩ | exact ⟨rfl, hW.drew⟩ | exact ⟨rfl, hW.drew.drew⟩
          · have ho' : FloatKind.f64.format.order x y = some .eq := ho
            clear ho
            go_wp2
            go_ret
            first | exact ⟨rfl, hW⟩ | exact ⟨rfl, hW.drew⟩ | exact ⟨rfl, hW.drew.drew⟩
          · have ho' : FloatKind.f64.format.order x y = some .gt := ho
            clear ho
            go_wp2
            go_ret
            first | exact ⟨rfl, hW⟩ | exact ⟨rfl, hW.drew⟩ | exact ⟨rfl, hW.drew.drew⟩
    · go_wp2_with fail
      refine (refDySame_eq D.s D.x a4 a2 _ k4 k2 (limbs D.N) _ fY fX).mono ?_
      rintro en w6 ⟨rfl, hV⟩
      replace X := X.stay hV
      replace fX := fX.below hV
      replace hW := next hW hV
      replace hT := hT.below hV
      replace X0 := X.c0
      replace X1 := X.c1
      replace X2 := X.c2
      clear Y0 Y1 Y2 hV
      go_wp2_with fail
      refine (cK _ _ _ _ fX).mono ?_
      rintro en w7 ⟨rfl, hV⟩
      replace hW := next hW hV
      replace hT := hT.below hV
      clear X X0 X1 X2 Y fX fY hV cK eD
      go_wp2_with fail
      refine (double_any _).mono ?_
      rintro en u1 ⟨rfl, hU1⟩
      replace hW := next hW hU1
      replace hT := hT.below hU1
      go_wp2_with fail
      refine (value_any 11 52 x _ hx hT).mono ?_
      rintro en u2 hu2
      obtain ⟨ax, nx, kx, rfl, hFx, hU2⟩ := dyn_valued hu2
      have hU3 := more (Below.refl u2.heap.size u2) (.cells #[.bool (valD 11 52 x).s, .slice ax nx kx, .int .i64 (valD 11 52 x).x] 37)
      replace hW := next (next hW hU2) hU3
      replace hT := (hT.below hU2).below hU3
      have PX := box3_new u2 (.bool (valD 11 52 x).s) (.slice ax nx kx) (.int .i64 (valD 11 52 x).x) 37
      have fPX := hFx.sl.below hU3
      clear hu2 hU1 hU2 hU3 hFx
      go_wp2_with fail
      generalize u2.heap.size = px at PX ⊢
      generalize u2.alloc (.cells #[.bool (valD 11 52 x).s, .slice ax nx kx, .int .i64 (valD 11 52 x).x] 37) = u3 at PX fPX hW hT ⊢
      refine (double_any _).mono ?_
      rintro en u4 ⟨rfl, hU4⟩
      replace PX := PX.stay hU4
      replace fPX := fPX.below hU4
      replace hW := next hW hU4
      replace hT := hT.below hU4
      go_wp2_with fail
      refine (value_any 11 52 y _ hy hT).mono ?_
      rintro en u5 hu5
      obtain ⟨ay, ny, ky, rfl, hFy, hU5⟩ := dyn_valued hu5
      have hU6 := more (Below.refl u5.heap.size u5) (.cells #[.bool (valD 11 52 y).s, .slice ay ny ky, .int .i64 (valD 11 52 y).x] 37)
      replace hW := next (next hW hU5) hU6
      replace PX := (PX.stay hU5).stay hU6
      replace fPX := (fPX.below hU5).below hU6
      have PY := box3_new u5 (.bool (valD 11 52 y).s) (.slice ay ny ky) (.int .i64 (valD 11 52 y).x) 37
      have fPY := hFy.sl.below hU6
      clear hu5 hU4 hU5 hU6 hFy hT hfb
      have PX0 := PX.c0
      have PX1 := PX.c1
      have PX2 := PX.c2
      have PY0 := PY.c0
      have PY1 := PY.c1
      have PY2 := PY.c2
      have hz := zero_order
      cases qx : valOk 11 52 x
      · obtain ⟨ex, mx⟩ := valE_no hx qx
        have ex' : ((valD 11 52 x).e == 0) = false := by
          show (valE 11 52 x == 0) = false
          simp [ex]
        have ex2 : ¬ (valD 11 52 x).e = 0 := ex
        have sx := run_sub_no (P := Tryd.prog) 56 mx
        have ox := nan_order x
        cases qy : valOk 11 52 y
        · obtain ⟨ey, my⟩ := valE_no hy qy
          have ey' : ((valD 11 52 y).e == 0) = false := by
            show (valE 11 52 y == 0) = false
            simp [ey]
          have ey2 : ¬ (valD 11 52 y).e = 0 := ey
          have sy := run_sub_no (P := Tryd.prog) 56 my
          have oy := nan_order y
          clear ex mx qx ey my qy
          go_wp2
          go_ret
          first | exact ⟨rfl, hW⟩ | exact ⟨rfl, hW.drew⟩ | exact ⟨rfl, hW.drew.drew⟩
        · have ey := fl_e qy
          have sy := run_sub_fin (P := Tryd.prog) 56 qy
          clear ex mx qx qy
          go_wp2
          go_ret
          first | exact ⟨rfl, hW⟩ | exact ⟨rfl, hW.drew⟩ | exact ⟨rfl, hW.drew.drew⟩
      · have ex := fl_e qx
        have sx := run_sub_fin (P := Tryd.prog) 56 qx
        cases qy : valOk 11 52 y
        · obtain ⟨ey, my⟩ := valE_no hy qy
          have ey' : ((valD 11 52 y).e == 0) = false := by
            show (valE 11 52 y == 0) = false
            simp [ey]
          have ey2 : ¬ (valD 11 52 y).e = 0 := ey
          have sy := run_sub_no (P := Tryd.prog) 56 my
          have oy := nan_order y
          clear ey my qx qy
          go_wp2
          go_ret
          first | exact ⟨rfl, hW⟩ | exact ⟨rfl, hW.drew⟩ | exact ⟨rfl, hW.drew.drew⟩
        · have ey := fl_e qy
          have sy := run_sub_fin (P := Tryd.prog) 56 qy
          obtain ⟨c, hc, c1, c2, ho⟩ := fl_two qx qy
          clear qx qy
          go_wp2_with fail
          refine (exCmp_any _ _ ax ay nx ny kx ky _ _ _ _ _ fPX fPY).mono ?_
          rintro en u7 ⟨rfl, hU7⟩
          rw [c1, c2]
          replace hW := next hW hU7
          rcases hc with rfl | rfl | rfl
          · have ho' : FloatKind.f64.format.order x y = some .lt := ho
            clear ho
            go_wp2
            go_ret
            first | exact ⟨rfl, hW⟩ | exact ⟨rfl, hW.drew⟩ | exact ⟨rfl, hW.drew.drew⟩
          · have ho' : FloatKind.f64.format.order x y = some .eq := ho
            clear ho
            go_wp2
            go_ret
            first | exact ⟨rfl, hW⟩ | exact ⟨rfl, hW.drew⟩ | exact ⟨rfl, hW.drew.drew⟩
          · have ho' : FloatKind.f64.format.order x y = some .gt := ho
            clear ho
            go_wp2
            go_ret
            first | exact ⟨rfl, hW⟩ | exact ⟨rfl, hW.drew⟩ | exact ⟨rfl, hW.drew.drew⟩

end Go.Proofs.YtmiheaoojmgalaaDoor
