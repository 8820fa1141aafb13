/-
  The walks of near.unit, Ulp, Steps; of the reference's unit, power, Ulp.
-/
import Derived.Test.YtfjgmpfpadfknaaGreatDoorQbNNearB
set_option maxHeartbeats 2000000
set_option maxRecDepth 100000
namespace Go.Proofs.YtfjgmpfpadfknaaGreatDoor
open Go.RowKit Go.Lb
section
attribute [local go_sem] Go.World.cell?_alloc_some
theorem formsRange_any (e f : Nat) (w : World) (h : formE (e : Int) (f : Int) = 0) :
 Calls Tryz.prog 122 #[.agg #[.int .i64 (e : Int), .int .i64 (f : Int)]] w fun en w' => en = .returned (.tuple #[.int .i64 (baseI e f), .int .i64 (biasN e : Int), .int .i64 0]) ∧ Below w.heap.size w w' := by
 obtain ⟨q1, q2, q3, q4⟩ := formE_ok h
 have cC := fun W => formCheck_any (e : Int) (f : Int) W
 rw [h] at cC
 have hb := bias_small (e := e) (by omega)
 have cM := fun W => mask_any (e - 1) W (by omega)
 have hme : maskN (e - 1) = biasN e := by unfold maskN biasN; rfl
 rw [hme] at cM
 have hB : baseI e f = 1 - (biasN e : Int) - f := rfl
 have he1 : (e : Int) - 1 = ((e - 1 : Nat) : Int) := by omega
 have hw1 : IntKind.i64.wrap (biasN e : Int) = (biasN e : Int) := by rw [IntKind.wrap_i64]; omega
 have hw2 : IntKind.i64.wrap (1 - (biasN e : Int)) = 1 - (biasN e : Int) := by rw [IntKind.wrap_i64]; omega
 have hw3 : IntKind.i64.wrap (1 - (biasN e : Int) - (f : Int)) = baseI e f := by rw [IntKind.wrap_i64, hB]; omega
 clear hB hme
 generalize baseI e f = R at *
 generalize biasN e = B at *
 have A0 := box2_new w (.int .i64 (e : Int)) (.int .i64 (f : Int)) 23
 have hW0 := more (Below.refl w.heap.size w) (.cells #[.int .i64 (e : Int), .int .i64 (f : Int)] 23)
 go_enter Tryz.func122, Tryz.ntmps122
 go_wp2_with (first
  | (go_at_call 127; refine (cC _).mono ?_; rintro en w1 ⟨rfl, hb1⟩; have A1 := A0.stay hb1; have ⟨a0, a1⟩ := A1; have hW1 := next hW0 hb1)
  | (go_at_call 72; refine (cM _).mono ?_; rintro en w2 ⟨rfl, rfl⟩))
 refine bodyPost_ret (v := .tuple #[.int .i64 R, .int .i64 (B : Int), .int .i64 0]) (by simp [results, Tryz.results122, go_sem]) rfl ⟨rfl, hW1⟩
def unI (e f b : Nat) : Int := baseI e f + ((max (exN e f b) 1 : Nat) : Int) - 1
theorem un_small {e f b : Nat} (h : formE (e : Int) (f : Int) = 0) : -1200 ≤ unI e f b ∧ unI e f b ≤ 2100 := by
 obtain ⟨q1, q2, q3, q4⟩ := formE_ok h
 have hb := bias_small (e := e) (by omega)
 have hx := ex_mask e f b
 have hm : maskN e ≤ 2047 := maskN_lt11 (by omega)
 unfold unI baseI
 omega
theorem nearUnit_any (e f b : Nat) (w : World) (h : formE (e : Int) (f : Int) = 0) (hb : b < 18446744073709551616) (hp : b < pw (1 + e + f)) :
 Calls Tryz.prog 69 #[.agg #[.int .i64 (e : Int), .int .i64 (f : Int)], .int .u64 (b : Int)] w fun en w' => en = .returned (.int .i64 (unI e f b)) ∧ Below w.heap.size w w' := by
 obtain ⟨q1, q2, q3, q4⟩ := formE_ok h
 have cS := fun W => split_any e f b W h hb hp
 have cR := fun W => formsRange_any e f W h
 obtain ⟨u1, u2⟩ := un_small (b := b) h
 have hbs := bias_small (e := e) (by omega)
 have hB : baseI e f = 1 - (biasN e : Int) - f := rfl
 have hx := ex_mask e f b
 have hm : maskN e ≤ 2047 := maskN_lt11 (by omega)
 have hU : unI e f b = baseI e f + ((max (exN e f b) 1 : Nat) : Int) - 1 := rfl
 have hmx : max ((exN e f b : Nat) : Int) 1 = ((max (exN e f b) 1 : Nat) : Int) := by omega
 have hw1 : IntKind.i64.wrap (baseI e f + ((max (exN e f b) 1 : Nat) : Int)) = baseI e f + ((max (exN e f b) 1 : Nat) : Int) := by rw [IntKind.wrap_i64]; omega
 have hw2 : IntKind.i64.wrap (baseI e f + ((max (exN e f b) 1 : Nat) : Int) - 1) = unI e f b := by rw [IntKind.wrap_i64, hU]; omega
 clear hU hB
 generalize max (exN e f b) 1 = M at *
 generalize exN e f b = X at *
 generalize baseI e f = B at *
 generalize unI e f b = U at *
 have A0 := box2_new w (.int .i64 (e : Int)) (.int .i64 (f : Int)) 23
 have hW0 := more (Below.refl w.heap.size w) (.cells #[.int .i64 (e : Int), .int .i64 (f : Int)] 23)
 go_enter Tryz.func69, Tryz.ntmps69
 go_wp2_with (first
  | (go_at_call 40; refine (cS _).mono ?_; rintro en w1 ⟨rfl, hb1⟩; have A1 := (A0.stay hb1).alloc (.cells #[.bool (sgB e f b), .int .i64 (X : Int), .int .u64 (frN f b)] 68); have ⟨a0, a1⟩ := A1; have P1 := box3_new w1 (.bool (sgB e f b)) (.int .i64 (X : Int)) (.int .u64 (frN f b)) 68; have hW1 := more (next hW0 hb1) (.cells #[.bool (sgB e f b), .int .i64 (X : Int), .int .u64 (frN f b)] 68))
  | (go_at_call 122; refine (cR _).mono ?_; rintro en w2 ⟨rfl, hb2⟩; have P2 := P1.stay hb2; have ⟨p0, p1, p2, _, _, _⟩ := P2; have hW2 := next hW1 hb2))
 refine bodyPost_ret (v := .int .i64 U) (by simp [results, Tryz.results69, go_sem]) rfl ⟨rfl, hW2⟩
theorem mk_one (s : Bool) {x : Int} (h1 : -100000 ≤ x) (h2 : x ≤ 100000) : mkS s (limbs 1) x = s ∧ mkN (limbs 1) x = 1 ∧ mkX (limbs 1) x = x ∧ mkE (limbs 1) x = 0 := by
 have h := mkA_ok (s := s) (S := 1) (x := x) (b := x) (K := 1) (Int.le_refl _) (by unfold upW; simp) (by decide) (by omega) (by omega)
 have htz : tz 1 = 0 := by decide +kernel
 have hB : mkB (limbs 1) x = true := by
  unfold mkB
  rw [val_limbs']
  exact decide_eq_true ⟨chk_limbs h.1, by decide, by omega, by omega, by rw [htz]; omega, by rw [htz]; omega⟩
 obtain ⟨k1, k2, k3, k4⟩ := mk_yes s hB
 rw [val_limbs', htz] at k1 k2
 exact ⟨k3, by simpa using k1, by simpa using k2, k4⟩
def ulD (e f : Int) (b : Nat) : Ds := if fnE e f [b] = 0 then ⟨false, 1, unI e.toNat f.toNat b, 0⟩ else noA (fnE e f [b])
theorem anI_one (e f b : Nat) : anI e f [b] = decide (exN e f b = maskN e) := by unfold anI; simp
theorem fn_ok {e f : Int} {b : Nat} (h : fnE e f [b] = 0) : fitsE e f b = 0 ∧ exN e.toNat f.toNat b ≠ maskN e.toNat := by
 unfold fnE at h
 rw [askL_one, anI_one] at h
 by_cases h0 : fitsE e f b = 0
 · rw [if_neg (by simp [h0])] at h
   refine ⟨h0, fun hx => ?_⟩
   rw [decide_eq_true hx, if_pos rfl] at h
   cases h
 · rw [if_pos h0] at h
   exact absurd h h0
theorem bias3_any (e f : Nat) (w : World) (h1 : 2 ≤ e) (h2 : e ≤ 11) :
 Calls Tryz.prog 126 #[.agg #[.int .i64 (e : Int), .int .i64 (f : Int)]] w fun en w' => en = .returned (.int .i64 (biasN e : Int)) ∧ Below w.heap.size w w' := by
 have hb := bias_small (e := e) h2
 have he1 : IntKind.i64.wrap ((e : Int) - 1) = (e : Int) - 1 := by rw [IntKind.wrap_i64]; omega
 have cP := fun W => pow3_b (e - 1) ((e : Int) - 1) (by omega) W (by omega)
 have hB : (pw (e - 1) : Int) - 1 = (biasN e : Int) := by
  have := pw_pos (e - 1)
  have hh : biasN e = pw (e - 1) - 1 := by unfold biasN pw; rfl
  omega
 have hw1 : IntKind.i64.wrap (pw (e - 1) : Int) = (pw (e - 1) : Int) := by rw [IntKind.wrap_i64]; omega
 have hw2 : IntKind.i64.wrap ((pw (e - 1) : Int) - 1) = (biasN e : Int) := by rw [hB, IntKind.wrap_i64]; omega
 clear hB
 generalize pw (e - 1) = P at *
 generalize biasN e = B at *
 go_enter Tryz.func126, Tryz.ntmps126
 go_wp2_with (go_at_call 108; refine (cP _).mono ?_; rintro en w1 ⟨rfl, hb1⟩)
 refine bodyPost_ret (v := .int .i64 (B : Int)) (by simp [results, Tryz.results126, go_sem]) rfl ⟨rfl, next (more (Below.refl _ _) _) hb1⟩
end
section
attribute [local go_sem] Go.World.cell?_alloc_some
theorem nearUlp_any (e f : Int) (b : Nat) (w : World) (hb : b < 18446744073709551616) (hT : Tab w) :
 Calls Tryz.prog 20 #[.agg #[.int .i64 e, .int .i64 f], .int .u64 (b : Int)] w (Dyn (ulD e f b) w) := by
 obtain ⟨W2, hW2⟩ : ∃ W2 : World, W2 = (w.alloc (.cells #[.int .i64 e, .int .i64 f] 23)).alloc (.cells #[.bool false, .slice none 0 0, .int .i64 0] 41) := ⟨_, rfl⟩
 have hb2 : Below w.heap.size w W2 := hW2 ▸ more (more (Below.refl _ _) _) _
 have f0 : W2.cell? ⟨w.heap.size, 0, none⟩ = some (.int .i64 e) := by rw [hW2]; simp
 have f1 : W2.cell? ⟨w.heap.size, 1, none⟩ = some (.int .i64 f) := by rw [hW2]; simp
 have R2 : Box3 W2 (w.heap.size + 1) (.bool false) (.slice none 0 0) (.int .i64 0) := by
  have := box3_new (w.alloc (.cells #[.int .i64 e, .int .i64 f] 23)) (.bool false) (.slice none 0 0) (.int .i64 0) 41
  rw [World.size_alloc] at this
  exact hW2 ▸ this
 obtain ⟨W3, hW3⟩ : ∃ W3 : World, W3 = W2.alloc (.cells #[.int .u64 (b : Int)] 24) := ⟨_, rfl⟩
 have hb3 : Below W2.heap.size W2 W3 := hW3 ▸ more (Below.refl _ _) _
 have v0 : W3.cell? ⟨W2.heap.size, 0, none⟩ = some (.int .u64 (b : Int)) := by rw [hW3]; simp
 have cF := nearFinite_any W2.heap.size e f [b] W3 (by simp) (by simp) (one_cells hb v0)
 have hT3 := (hT.below hb2).below hb3
 by_cases h0 : fnE e f [b] = 0
 · obtain ⟨h1, hx⟩ := fn_ok h0
   obtain ⟨hf, hp⟩ := fitsE_parts h1
   obtain ⟨q1, q2, q3, q4⟩ := formE_ok hf
   obtain ⟨e, rfl⟩ := Int.eq_ofNat_of_zero_le (by omega : 0 ≤ e)
   obtain ⟨f, rfl⟩ := Int.eq_ofNat_of_zero_le (by omega : 0 ≤ f)
   replace hp : b < pw (1 + e + f) := hp
   have hD : ulD (e : Int) (f : Int) b = ⟨false, 1, unI e f b, 0⟩ := if_pos h0
   rw [hD]
   rw [h0] at cF
   have cO : ∀ W, Calls Tryz.prog 68 #[.int .u64 1] W _ := fun W => natOf_any 1 W (by decide)
   have cU := fun W => nearUnit_any e f b W hf hb hp
   obtain ⟨u1, u2⟩ := un_small (b := b) hf
   obtain ⟨k1, k2, k3, k4⟩ := mk_one false (x := unI e f b) (by omega) (by omega)
   have cM := fun ao n c W (j : Sl W ao n c (limbs 1)) hT => exMake_any false ao n c (limbs 1) (unI e f b) W j hT
   unfold Made at cM
   rw [k1, k2, k3, k4] at cM
   generalize unI e f b = U at *
   clear hD h0 h1 hx hf hp q1 q2 q3 q4 u1 u2 k1 k2 k3 k4 hT
   go_enter Tryz.func20, Tryz.ntmps20
   go_upto_region 1 with fail
   rw [← hW2]
   clear hW2
   go_wp2_with fail
   rw [← hW3]
   refine cF.mono ?_
   rintro en w4 ⟨rfl, hb4⟩
   have hs := next hb3 hb4
   have hT4 := hT3.below hb4
   have V4 := next hb2 hs
   replace f0 := cellStay f0 hs
   replace f1 := cellStay f1 hs
   have R4 := R2.stay hs
   clear R2 hb2 hb3 hb4 hs v0 cF hT3 hW3
   go_upto_region 4 with fail
   have hbb := Below.refl w4.heap.size w4
   go_region_held3 (fun w' => w'.cell? ⟨w.heap.size, 0, none⟩ = some (.int .i64 (e : Int)) ∧ w'.cell? ⟨w.heap.size, 1, none⟩ = some (.int .i64 (f : Int)) ∧ Below w.heap.size w w')
    ((go_split_ands; refine ⟨?_, ?_, ?_⟩ <;> (first | assumption | exact Below.drew (by assumption) | exact cellStay (by assumption) hbX | exact next (by assumption) hbX | (exact Below.setCell (Below.setCell (Below.setCell (by assumption) (by simp) _) (by simp) _) (by simp) _) | (go_keep; done))))
    (first
      | (go_at_call 68; (with_reducible refine (cO _).mono ?_); rintro en wX ⟨oa, ok, oc, rfl, oF, hbX⟩; have hAX : Below w4.heap.size w4 wX := (by first | exact hbX | exact undrew hbX); have oG := oF.sl; have hTX := hT4.below hAX)
      | (go_at_call 69; (with_reducible refine (cU _).mono ?_); rintro en wY ⟨rfl, hbX⟩; have hAY : Below w4.heap.size w4 wY := (by first | exact hbX | exact undrew hbX | exact next hAX hbX | exact next hAX.drew hbX); have hTY := hT4.below hAY; (try have oG2 := oG.below hbX))
      | (go_at_call 67; (with_reducible refine (cM _ _ _ _ oG2 hTY).mono ?_); rintro en wZ ⟨ma, mk, mc, rfl, mF, hbX⟩; have hAZ : Below w4.heap.size w4 wZ := next hAY hbX; have RZ := R4.stay hAZ; have ⟨r0, r1, r2, rz0, rz1, rz2⟩ := RZ))
   go_split_ands
   obtain ⟨t0, t1, t2⟩ := RZ.set (.bool false) (.slice ma mk mc) (.int .i64 U)
   go_wp2
   refine bodyPost_ret (v := .tuple #[.agg #[.bool false, .slice ma mk mc, .int .i64 U], .int .i64 0]) (by simp [results, Tryz.results20, go_sem, t0, t1, t2]) rfl ⟨ma, mk, mc, rfl, ?_, by assumption⟩
   have hl : w.heap.size + 1 < w4.heap.size := World.block_lt_of_cell? w4 ⟨w.heap.size + 1, 0, none⟩ R4.c0
   exact ((((mF.mono hAY.size).setCell (by simpa using hl) _).setCell (by simpa using hl) _).setCell (by simpa using hl) _).mono (by omega)
 · have hD : ulD e f b = noA (fnE e f [b]) := if_neg h0
   rw [hD]
   have hB : (fnE e f [b] != 0) = true := by simp [h0]
   clear hD
   generalize fnE e f [b] = E at *
   go_enter Tryz.func20, Tryz.ntmps20
   go_upto_region 1 with fail
   rw [← hW2]
   clear hW2
   go_wp2_with fail
   rw [← hW3]
   refine cF.mono ?_
   rintro en w4 ⟨rfl, hb4⟩
   have hs := next hb3 hb4
   have V4 := next hb2 hs
   have R4 := R2.stay hs
   have ⟨r0, r1, r2, rz0, rz1, rz2⟩ := R4
   go_wp2
   obtain ⟨t0, t1, t2⟩ := R4.set (.bool false) (.slice none 0 0) (.int .i64 0)
   refine bodyPost_ret (v := .tuple #[.agg #[.bool false, .slice none 0 0, .int .i64 0], .int .i64 E]) (by simp [results, Tryz.results20, go_sem, t0, t1, t2]) rfl (dyn_no (((V4.setCell (by simp) _).setCell (by simp) _).setCell (by simp) _))
theorem unit6_any (e f b : Nat) (w : World) (h : formE (e : Int) (f : Int) = 0) (hb : b < 18446744073709551616) (hp : b < pw (1 + e + f)) :
 Calls Tryz.prog 71 #[.agg #[.int .i64 (e : Int), .int .i64 (f : Int)], .int .u64 (b : Int)] w fun en w' => en = .returned (.int .i64 (unI e f b)) ∧ Below w.heap.size w w' := by
 obtain ⟨q1, q2, q3, q4⟩ := formE_ok h
 have cS := fun W => refSplit3_any e f b W h hb hp
 have cB := fun W => bias3_any e f W (by omega) (by omega)
 have hbs := bias_small (e := e) (by omega)
 have hx := ex_mask e f b
 have hm : maskN e ≤ 2047 := maskN_lt11 (by omega)
 have hU : unI e f b = 1 - (biasN e : Int) - f + ((max (exN e f b) 1 : Nat) : Int) - 1 := rfl
 have hmx : max ((exN e f b : Nat) : Int) 1 = ((max (exN e f b) 1 : Nat) : Int) := by omega
 have hw1 : IntKind.i64.wrap (((max (exN e f b) 1 : Nat) : Int) - (biasN e : Int)) = ((max (exN e f b) 1 : Nat) : Int) - (biasN e : Int) := by rw [IntKind.wrap_i64]; omega
 have hw2 : IntKind.i64.wrap (((max (exN e f b) 1 : Nat) : Int) - (biasN e : Int) - (f : Int)) = unI e f b := by rw [IntKind.wrap_i64, hU]; omega
 clear hU
 generalize max (exN e f b) 1 = M at *
 generalize exN e f b = X at *
 generalize biasN e = B at *
 generalize unI e f b = U at *
 have A0 := box2_new w (.int .i64 (e : Int)) (.int .i64 (f : Int)) 23
 have hW0 := more (Below.refl w.heap.size w) (.cells #[.int .i64 (e : Int), .int .i64 (f : Int)] 23)
 go_enter Tryz.func71, Tryz.ntmps71
 go_wp2_with (go_at_call 125; refine (cS _).mono ?_; rintro en w1 ⟨rfl, hb1⟩; have hs1 := more hb1 (.cells #[.bool (sgB e f b), .int .i64 (X : Int), .int .u64 (frN f b)] 68); have hW1 := next hW0 hs1; have A1 := A0.stay hs1; have P1 := box3_new w1 (.bool (sgB e f b)) (.int .i64 (X : Int)) (.int .u64 (frN f b)) 68)
 obtain ⟨Q, hQ⟩ : ∃ Q, Q = w1.heap.size := ⟨_, rfl⟩
 rw [← hQ] at P1 ⊢
 clear hQ hs1 hb1
 generalize w1.alloc (.cells #[.bool (sgB e f b), .int .i64 (X : Int), .int .u64 (frN f b)] 68) = w2 at *
 have ⟨a0, a1⟩ := A1
 have ⟨p0, p1, p2, _, _, _⟩ := P1
 have hbb := Below.refl w2.heap.size w2
 go_region_held3 (fun w' => w'.cell? ⟨w.heap.size, 0, none⟩ = some (.int .i64 (e : Int)) ∧ w'.cell? ⟨w.heap.size, 1, none⟩ = some (.int .i64 (f : Int)) ∧ w'.cell? ⟨Q, 1, none⟩ = some (.int .i64 (X : Int)) ∧ Below w2.heap.size w2 w')
  ((go_split_ands; refine ⟨?_, ?_, ?_, ?_⟩ <;> (first | assumption | exact Below.drew (by assumption) | exact cellStay (by assumption) hbX | exact next (by assumption) hbX | (go_keep; done))))
  (first | (go_at_call 126; (with_reducible refine (cB _).mono ?_); rintro en wX ⟨rfl, hbX⟩))
 all_goals go_split_ands
 all_goals go_wp2
 all_goals
  refine bodyPost_ret (v := .int .i64 U) (by simp [results, Tryz.results71, go_sem]) rfl ⟨rfl, next hW1 (by assumption)⟩
theorem power6_any (s : Bool) (x : Int) (w : World) (h1 : -100000 ≤ x) (h2 : x ≤ 100000) :
 Calls Tryz.prog 70 #[.bool s, .int .u64 1, .int .i64 x] w fun en w' => ∃ ao k c, en = .returned (.agg #[.bool s, .slice ao k c, .int .i64 x]) ∧ Fr 75 w' w.heap.size ao k c (limbs 1) ∧ Below w.heap.size w w' := by
 obtain ⟨k1, k2, k3, k4⟩ := mk_one s h1 h2
 have cO : ∀ W, Calls Tryz.prog 124 #[.int .u64 1] W _ := fun W => refOf_i 1 1 rfl W (by decide)
 have cM := fun ao n c W (j : Sl W ao n c (limbs 1)) => rfMake_any s ao n c (limbs 1) x W j
 unfold Made at cM
 rw [k1, k2, k3, k4] at cM
 clear k1 k2 k3 k4
 obtain ⟨W2, hW2⟩ : ∃ W2 : World, W2 = w.alloc (.cells #[.bool false, .slice none 0 0, .int .i64 0] 41) := ⟨_, rfl⟩
 have hb2 : Below w.heap.size w W2 := hW2 ▸ more (Below.refl _ _) _
 have R2 : Box3 W2 w.heap.size (.bool false) (.slice none 0 0) (.int .i64 0) := hW2 ▸ box3_new w (.bool false) (.slice none 0 0) (.int .i64 0) 41
 go_enter Tryz.func70, Tryz.ntmps70
 go_upto_region 1 with fail
 rw [← hW2]
 clear hW2
 go_wp2_with fail
 refine (cO W2).mono ?_
 rintro en w3 ⟨oa, ok, oc, rfl, oF, hb3⟩
 go_wp2_with fail
 refine (cM _ _ _ w3 oF.sl).mono ?_
 rintro en w4 ⟨ma, mk, mc, rfl, mF, hb4⟩
 have hs := more (next hb3 hb4) (.cells #[.bool s, .slice ma mk mc, .int .i64 x] 41)
 have V5 := next hb2 hs
 have R5 := R2.stay hs
 have P5 := box3_new w4 (.bool s) (.slice ma mk mc) (.int .i64 x) 41
 have mG := (mF.mono hb3.size).alloc (.cells #[.bool s, .slice ma mk mc, .int .i64 x] 41)
 have hl := R2.lt
 clear oF mF
 go_upto_region 2 with fail
 obtain ⟨Q, hQ⟩ : ∃ Q, Q = w4.heap.size := ⟨_, rfl⟩
 rw [← hQ] at P5 ⊢
 clear hQ hs hb4
 generalize w4.alloc (.cells #[.bool s, .slice ma mk mc, .int .i64 x] 41) = w5 at *
 have ⟨p0, p1, p2, _, _, _⟩ := P5
 have ⟨r0, r1, r2, rz0, rz1, rz2⟩ := R5
 obtain ⟨t0, t1, t2⟩ := R5.set (.bool s) (.slice ma mk mc) (.int .i64 x)
 go_wp2
 refine bodyPost_ret (v := .agg #[.bool s, .slice ma mk mc, .int .i64 x]) (by simp [results, Tryz.results70, go_sem, t0, t1, t2]) rfl ⟨ma, mk, mc, rfl, ?_, ((V5.setCell (by simp) _).setCell (by simp) _).setCell (by simp) _⟩
 exact (((mG.setCell (by simpa using hl) _).setCell (by simpa using hl) _).setCell (by simpa using hl) _).mono (by omega)
end
end Go.Proofs.YtfjgmpfpadfknaaGreatDoor
