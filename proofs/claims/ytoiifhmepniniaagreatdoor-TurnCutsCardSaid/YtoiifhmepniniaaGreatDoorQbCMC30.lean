/-
  Contracts of round.Whole (of what may be asked); numerallaw05.fraction, alive.
-/
import Derived.Test.YtoiifhmepniniaaGreatDoorQbCMC29
set_option maxHeartbeats 4000000
set_option maxRecDepth 100000
namespace Go.Proofs.YtoiifhmepniniaaGreatDoor
open Go.RowKit Go.Lb
section
attribute [local go_sem] Go.World.cell?_alloc_some
def WhlA (N D : Nat) (s : Bool) (m : Nat) (w : World) (en : Ending) (w' : World) : Prop :=
 ∃ ao k c, en = .returned (.tuple #[.bool (nzB s (rdN N D s m)), .agg #[.slice ao k c], .bool (exB N D), .int .i64 0]) ∧ Fr 23 w' w.heap.size ao k c (limbs (rdN N D s m)) ∧ Below w.heap.size w w'
theorem sign_gt (x : Nat) : decide ((x : Int).sign > 0) = decide (x ≠ 0) := by
 rcases Nat.eq_zero_or_pos x with h | h
 · subst h; rfl
 · rw [Int.sign_eq_one_of_pos (by omega), decide_eq_true (by decide), decide_eq_true (by omega)]
theorem rdWholeP_ok (a1 a2 : Option Addr) (n1 n2 c1 c2 m : Nat) (s : Bool) (xs ys : List Nat) (w : World) (h1 : Sl w a1 n1 c1 xs) (h2 : Sl w a2 n2 c2 ys) (hT : Tab w) (hm : m < 5) (hr : ratB s xs ys = true) :
 Calls Tryz.prog 77 #[.agg #[.bool s, .slice a1 n1 c1, .slice a2 n2 c2], .int .u8 (m : Int)] w (WhlA (val xs) (val ys) s m w) := by
 obtain ⟨W2, hW2⟩ : ∃ W2 : World, W2 = (w.alloc (.cells #[.bool s, .slice a1 n1 c1, .slice a2 n2 c2] 137)).alloc (.cells #[.slice none 0 0] 130) := ⟨_, rfl⟩
 have hb2 : Below w.heap.size w W2 := hW2 ▸ more (more (Below.refl _ _) _) _
 have D2 : Box3 W2 w.heap.size (.bool s) (.slice a1 n1 c1) (.slice a2 n2 c2) := hW2 ▸ (box3_new w _ _ _ _).alloc _
 have R2 : Box1 W2 (w.heap.size + 1) (.slice none 0 0) := by
  have := box1_new (w.alloc (.cells #[.bool s, .slice a1 n1 c1, .slice a2 n2 c2] 137)) (.slice none 0 0) 130
  rw [World.size_alloc] at this
  exact hW2 ▸ this
 have hRc : Calls Tryz.prog 124 #[.agg #[.bool s, .slice a1 n1 c1, .slice a2 n2 c2]] W2 fun e w' => e = .returned (.int .i64 0) ∧ Below W2.heap.size W2 w' := by
  have := rtCheck_any s a1 a2 n1 n2 c1 c2 xs ys W2 (h1.below hb2) (h2.below hb2) (hT.below hb2)
  unfold ratE at this
  rwa [if_pos hr] at this
 obtain ⟨hx, hy, hl, _, _⟩ : chk xs = 0 ∧ chk ys = 0 ∧ ys.length ≠ 0 ∧ Nat.gcd (val xs) (val ys) = 1 ∧ (s = true → val xs ≠ 0) := of_decide_eq_true hr
 have l1 : n1 ≤ 16384 := by rw [← h1.len]; exact chk_zero_len hx
 have l2 : n2 ≤ 16384 := by rw [← h2.len]; exact chk_zero_len hy
 have hD0 : val ys ≠ 0 := fun h => hl ((val_zero_iff h2.ok hy).1 h)
 have hL1 : ∀ W, Below w.heap.size w W → Calls Tryz.prog 117 #[.agg #[.slice a1 n1 c1]] W (MkZ 23 (val xs : Int) W) := fun W hW => rdLarge_any a1 n1 c1 xs W (h1.below hW) (by omega)
 have hL2 : ∀ W, Below w.heap.size w W → Calls Tryz.prog 117 #[.agg #[.slice a2 n2 c2]] W (MkZ 23 (val ys : Int) W) := fun W hW => rdLarge_any a2 n2 c2 ys W (h2.below hW) (by omega)
 have lN : ln (val xs) ≤ 16384 := Nat.le_trans (ln_le (val_lt h1.ok)) (by rw [h1.len]; exact l1)
 have hm4 : ¬ (m : Int) > 4 := by omega
 have hWh : ∀ (W : World) (B1 B2 b1 b2 : Nat), Iz 23 W B1 b1 (val xs : Int) → Iz 23 W B2 b2 (val ys : Int) → Calls Tryz.prog 125 #[.pointer (some ⟨b1, 0, none⟩), .pointer (some ⟨b2, 0, none⟩), .bool s, .int .u8 (m : Int)] W (WhP (val xs) (val ys) s m W) := fun W B1 B2 b1 b2 i1 i2 => rdWhole_any B1 B2 b1 b2 _ _ m s W i1 i2 hD0 hm (by omega)
 have hrn : ln (rdN (val xs) (val ys) s m) ≤ 16386 := by
  have h3 := rd_le (val xs) (val ys) s m
  have h4 := ln_mono h3
  have h5 := ln_add' (val xs / val ys) 1
  have h6 := ln_div (val xs) (val ys)
  have h7 := ln_one
  omega
 unfold WhP at hWh
 unfold WhlA
 generalize rdN (val xs) (val ys) s m = rn at *
 generalize exB (val xs) (val ys) = ex at *
 generalize val xs = N at *
 generalize val ys = D at *
 clear hx hy hl hr hT h1 h2 l1 l2 lN hD0 hm
 have ⟨d0, d1, d2, _, _, _⟩ := D2
 go_enter Tryz.func77, Tryz.ntmps77
 go_wp2_with fail
 rw [← hW2]
 clear hW2
 refine hRc.mono ?_
 rintro en w3 ⟨rfl, hb3⟩
 have W3 := next hb2 hb3
 have D3 := D2.stay hb3
 have R3 := R2.stay hb3
 clear d0 d1 d2 D2 R2 hRc hb2
 go_upto_region 5 with fail
 have kS : ∀ w' : World, Below w3.heap.size w3 w' → (w'.cell? ⟨w.heap.size, 0, none⟩ = some (.bool s) ∧ w'.cell? ⟨w.heap.size, 1, none⟩ = some (.slice a1 n1 c1) ∧ w'.cell? ⟨w.heap.size, 2, none⟩ = some (.slice a2 n2 c2) ∧ Below w3.heap.size w3 w') := fun w' hb => ⟨cellStay D3.c0 hb, cellStay D3.c1 hb, cellStay D3.c2 hb, hb⟩
 go_cut [8, 9] from 19 (fun v8 v9 wx => ∃ c, v8 = .pointer (some ⟨c, 0, none⟩) ∧ v9 = .bool ex ∧ Iz 23 wx w3.heap.size c (rn : Int) ∧ Below w3.heap.size w3 wx)
 case first =>
  go_region_held3 (fun w' => w'.cell? ⟨w.heap.size, 0, none⟩ = some (.bool s) ∧ w'.cell? ⟨w.heap.size, 1, none⟩ = some (.slice a1 n1 c1) ∧ w'.cell? ⟨w.heap.size, 2, none⟩ = some (.slice a2 n2 c2) ∧ Below w3.heap.size w3 w')
   ((refine kS _ ?_; (repeat (with_reducible (first | exact VC | exact VB | exact VA | exact Below.refl _ _ | refine Below.drew ?_))); done))
   (first
     | (go_at_call 117; (with_reducible refine (hL1 _ ?_).mono ?_); (first | exact W3.drew | exact W3); rintro en wA ⟨q1, rfl, IA, hbA⟩; have VA : Below w3.heap.size w3 wA := (by first | exact hbA | exact undrew hbA); have hsA := VA.size)
     | (go_at_call 117; (with_reducible refine (hL2 _ (next W3 VA)).mono ?_); rintro en wB ⟨q2, rfl, IB, hbB⟩; have VB := next VA hbB; have hsB := VB.size)
     | (go_at_call 125; (with_reducible refine (hWh _ _ _ _ _ (IA.stay hbB) IB).mono ?_); rintro en wC ⟨q3, rfl, IC, hbC⟩; have VC := next VB hbC))
  all_goals go_wp2
  all_goals go_meet
  all_goals exact ⟨_, rfl, rfl, IC.mono hsB, VC⟩
 case rest =>
  obtain ⟨cq, rfl, rfl, hI, hbx⟩ := hcut
  have Dx := D3.stay hbx
  have Rx := R3.stay hbx
  have Vx := next W3 hbx
  clear kS hL1 hL2 hWh D3 R3
  have ⟨d0, _, _, _, _, _⟩ := Dx
  have hSg := bgSignZ_any cq w3.heap.size (rn : Int) wc hI
  have hLm := rdLimbs_any w3.heap.size cq rn wc hI (by omega)
  have hsn := sign_gt rn
  have hz3 := W3.size
  have hzx := hbx.size
  have hz2 := Rx.lt
  have hn : Hid (nzB s rn = (s && decide (rn ≠ 0))) := Lib.hid rfl
  cases s
  · go_wp2_with fail
    refine hLm.mono ?_
    rintro en w4 ⟨ao, k, c, rfl, F4, hb4⟩
    have ⟨r0, y0⟩ := Rx.stay hb4
    have V4 := next Vx hb4
    go_wp2
    have t0 := World.cell?_setCell_same w4 ⟨w.heap.size + 1, 0, none⟩ (.slice ao k c) r0
    refine bodyPost_ret (v := .tuple #[.bool false, .agg #[.slice ao k c], .bool ex, .int .i64 0]) (by simp [results, Tryz.results77, go_sem, t0]) rfl ⟨ao, k, c, by rw [hn.out]; rfl, (F4.setCell (by simp; omega) _).mono (by omega), V4.setCell (by simp) _⟩
  · go_wp2_with fail
    refine hSg.mono ?_
    rintro en w4' ⟨rfl, rfl⟩
    go_wp2_with fail
    refine hLm.mono ?_
    rintro en w4 ⟨ao, k, c, rfl, F4, hb4⟩
    have ⟨r0, y0⟩ := Rx.stay hb4
    have V4 := next Vx hb4
    go_wp2
    have t0 := World.cell?_setCell_same w4 ⟨w.heap.size + 1, 0, none⟩ (.slice ao k c) r0
    refine bodyPost_ret (v := .tuple #[.bool (decide ((rn : Int).sign > 0)), .agg #[.slice ao k c], .bool ex, .int .i64 0]) (by simp [results, Tryz.results77, go_sem, t0]) rfl ⟨ao, k, c, by rw [hn.out, hsn]; rfl, (F4.setCell (by simp; omega) _).mono (by omega), V4.setCell (by simp) _⟩
end
section
attribute [local go_sem] Go.World.cell?_alloc_some
def inEnd (k : Nat) (sg : Bool) : Int := if sg = true then -((2 ^ k : Nat) : Int) else ((2 ^ k : Nat) : Int) - 1
def inR (E F b m : Nat) : Nat := rdN (wrQ E F b).num.natAbs (wrQ E F b).den (decide ((wrQ E F b).num < 0)) m
def inOk (k : Nat) (s : Bool) (R : Nat) : Bool := decide (R < 2 ^ k ∨ R = 2 ^ k ∧ s = true)
def inV (E F b k m : Nat) : Int := if naB E F b = true then 0 else if enB E F b = true then inEnd k (sgB E F b) else if inOk k (decide ((wrQ E F b).num < 0)) (inR E F b m) = true then sgZ (decide ((wrQ E F b).num < 0)) (inR E F b m) else inEnd k (sgB E F b)
def inG (E F b k m : Nat) : Nat := if naB E F b = true then 16 else if enB E F b = true then 16 else if inOk k (decide ((wrQ E F b).num < 0)) (inR E F b m) = true then (if exB (wrQ E F b).num.natAbs (wrQ E F b).den = true then 0 else 1) else 16
theorem low_of (R : Nat) : (R < 18446744073709551616 → lowB (limbs R) = true ∧ lowN (limbs R) = R) ∧ (¬ R < 18446744073709551616 → lowB (limbs R) = false ∧ lowN (limbs R) = 0) := by
 constructor
 · intro h
   have hl : (limbs R).length ≤ 2 := ln_small2 h
   have hc : chk (limbs R) = 0 := chk_small (Nat.lt_of_lt_of_le h (by decide +kernel))
   have hB : lowB (limbs R) = true := decide_eq_true ⟨hc, hl⟩
   refine ⟨hB, ?_⟩
   unfold lowN
   rw [if_pos hB]
   have hv := val_limbs' R
   rcases hx : limbs R with _ | ⟨x, _ | ⟨y, _ | ⟨z, t⟩⟩⟩
   · rw [hx] at hv; simp [val, nth] at hv ⊢; omega
   · rw [hx] at hv; simp [val, nth] at hv ⊢; omega
   · rw [hx] at hv; simp [val, nth] at hv ⊢; omega
   · rw [hx] at hl; simp at hl
 · intro h
   have hB : lowB (limbs R) = false := decide_eq_false fun hh => h (by
    have h1 := val_lt (ok_limbs R)
    rw [val_limbs'] at h1
    have h2 : (4294967296 : Nat) ^ (limbs R).length ≤ 4294967296 ^ 2 := Nat.pow_le_pow_right (by decide) hh.2
    have h3 : (4294967296 : Nat) ^ 2 = 18446744073709551616 := rfl
    omega)
   refine ⟨hB, ?_⟩
   unfold lowN
   rw [if_neg (by rw [hB]; decide)]
end
section
attribute [local go_sem] Go.World.cell?_alloc_some
theorem turnInt8_nan (E F b m : Nat) (w : World) (h1 : formE (E : Int) (F : Int) = 0) (hp : b < pw (1 + E + F)) (hm : m < 5) (hxm : exN E F b = maskN E) (hf0 : frN F b ≠ 0) :
 Calls Tryz.prog 14 #[.agg #[.int .i64 (E : Int), .int .i64 (F : Int)], .int .u64 (b : Int), .int .i64 8, .int .u8 (m : Int)] w fun en w' => en = .returned (.tuple #[.int .i64 0, .int .u8 16, .int .i64 0]) ∧ Below w.heap.size w w' := by
 have A := box2_new w (.int .i64 (E : Int)) (.int .i64 (F : Int)) 31
 have hW := more (Below.refl w.heap.size w) (.cells #[.int .i64 (E : Int), .int .i64 (F : Int)] 31)
 have ⟨a0, a1⟩ := A
 obtain ⟨e1, e2, e3, e4⟩ := formE_ok h1
 have hm4 : ¬ (m : Int) > 4 := by omega
 have hf := fits_bits h1 hp
 have hb : b < 18446744073709551616 := by
  have h := pw_le (j := 1 + E + F) (k := 64) (by omega)
  have h64 : pw 64 = 18446744073709551616 := by unfold pw; rfl
  omega
 have cA := fun W => turnAsked_any (E : Int) (F : Int) b W hb
 have cB := fun W => turnBelow_any E F b W (by omega) (by omega) hp
 have cC := fun W => class_any E F b W h1 hb hp
 rw [hf] at cA
 rw [class_nan hxm (by omega) hf0] at cC
 generalize sgB E F b = sg at *
 clear hxm hf0 hf h1 hp
 cases sg
 all_goals
  go_enter Tryz.func14, Tryz.ntmps14
  go_wp2_with (first
   | (go_at_call 68; (with_reducible refine (cA _).mono ?_); rintro en w1 ⟨rfl, hb1⟩; replace hW := next hW hb1; replace A := A.stay hb1; have ⟨a0, a1⟩ := A)
   | (go_at_call 69; (with_reducible refine (cB _).mono ?_); rintro en w1 ⟨rfl, hb1⟩; replace hW := next hW hb1; replace A := A.stay hb1; have ⟨a0, a1⟩ := A)
   | (go_at_call 70; (with_reducible refine (cC _).mono ?_); rintro en w1 ⟨rfl, hb1⟩; replace hW := next hW hb1; replace A := A.stay hb1; have ⟨a0, a1⟩ := A))
  go_ret3
  exact ⟨rfl, hW⟩
theorem turnInt8_inf (E F b m : Nat) (w : World) (h1 : formE (E : Int) (F : Int) = 0) (hp : b < pw (1 + E + F)) (hm : m < 5) (hxm : exN E F b = maskN E) (hf0 : frN F b = 0) :
 Calls Tryz.prog 14 #[.agg #[.int .i64 (E : Int), .int .i64 (F : Int)], .int .u64 (b : Int), .int .i64 8, .int .u8 (m : Int)] w fun en w' => en = .returned (.tuple #[.int .i64 (inEnd 7 (sgB E F b)), .int .u8 16, .int .i64 0]) ∧ Below w.heap.size w w' := by
 have A := box2_new w (.int .i64 (E : Int)) (.int .i64 (F : Int)) 31
 have hW := more (Below.refl w.heap.size w) (.cells #[.int .i64 (E : Int), .int .i64 (F : Int)] 31)
 have ⟨a0, a1⟩ := A
 obtain ⟨e1, e2, e3, e4⟩ := formE_ok h1
 have hm4 : ¬ (m : Int) > 4 := by omega
 have hf := fits_bits h1 hp
 have hb : b < 18446744073709551616 := by
  have h := pw_le (j := 1 + E + F) (k := 64) (by omega)
  have h64 : pw 64 = 18446744073709551616 := by unfold pw; rfl
  omega
 have cA := fun W => turnAsked_any (E : Int) (F : Int) b W hb
 have cB := fun W => turnBelow_any E F b W (by omega) (by omega) hp
 have cC := fun W => class_any E F b W h1 hb hp
 rw [hf] at cA
 rw [class_inf hxm (by omega) hf0] at cC
 have i1 : inEnd 7 true = -128 := by decide
 have i2 : inEnd 7 false = 127 := by decide
 generalize sgB E F b = sg at *
 clear hxm hf0 hf h1 hp
 cases sg
 all_goals
  first | rw [i1] | rw [i2]
  clear i1 i2
  go_enter Tryz.func14, Tryz.ntmps14
  go_wp2_with (first
   | (go_at_call 68; (with_reducible refine (cA _).mono ?_); rintro en w1 ⟨rfl, hb1⟩; replace hW := next hW hb1; replace A := A.stay hb1; have ⟨a0, a1⟩ := A)
   | (go_at_call 69; (with_reducible refine (cB _).mono ?_); rintro en w1 ⟨rfl, hb1⟩; replace hW := next hW hb1; replace A := A.stay hb1; have ⟨a0, a1⟩ := A)
   | (go_at_call 70; (with_reducible refine (cC _).mono ?_); rintro en w1 ⟨rfl, hb1⟩; replace hW := next hW hb1; replace A := A.stay hb1; have ⟨a0, a1⟩ := A))
  go_ret3
  exact ⟨rfl, hW⟩
theorem turnInt8_ok (E F b m : Nat) (w : World) (h1 : formE (E : Int) (F : Int) = 0) (hp : b < pw (1 + E + F)) (hm : m < 5) (hxm : exN E F b ≠ maskN E) (hT : Tab w) (hok : inOk 7 (decide ((wrQ E F b).num < 0)) (inR E F b m) = true) :
 Calls Tryz.prog 14 #[.agg #[.int .i64 (E : Int), .int .i64 (F : Int)], .int .u64 (b : Int), .int .i64 8, .int .u8 (m : Int)] w fun en w' => en = .returned (.tuple #[.int .i64 (sgZ (decide ((wrQ E F b).num < 0)) (inR E F b m)), .int .u8 ((if exB (wrQ E F b).num.natAbs (wrQ E F b).den = true then 0 else 1 : Nat) : Int), .int .i64 0]) ∧ Below w.heap.size w w' := by
 have A := box2_new w (.int .i64 (E : Int)) (.int .i64 (F : Int)) 31
 have hW := more (Below.refl w.heap.size w) (.cells #[.int .i64 (E : Int), .int .i64 (F : Int)] 31)
 have ⟨a0, a1⟩ := A
 obtain ⟨e1, e2, e3, e4⟩ := formE_ok h1
 have hm4 : ¬ (m : Int) > 4 := by omega
 have hf := fits_bits h1 hp
 have hb : b < 18446744073709551616 := by
  have h := pw_le (j := 1 + E + F) (k := 64) (by omega)
  have h64 : pw 64 = 18446744073709551616 := by unfold pw; rfl
  omega
 have cA := fun W => turnAsked_any (E : Int) (F : Int) b W hb
 have cB := fun W => turnBelow_any E F b W (by omega) (by omega) hp
 have cC := fun W => class_any E F b W h1 hb hp
 rw [hf] at cA
 obtain ⟨hC5, hC4⟩ := class_finite (f := F) (b := b) hxm
 obtain ⟨v0, n, X, s, v1, v2, v3, hd, hn, hX1, hX2, hG, hs, _⟩ := worth_facts (m := 0) (by omega) (by omega) (by omega) hf hp hxm
 obtain ⟨l1, l2⟩ := up_small hn hX1 hX2
 obtain ⟨q1, q2, q3⟩ := mk_low (upD_pos X) hG hs
 have hq : wrQ E F b = sgQ' s (upN n X) (upD X) := by unfold wrQ; rw [v1, v2, v3]
 have hR : inR E F b m = rdN (upN n X) (upD X) s m := by unfold inR; rw [hq, q1, q2, q3]
 have hs3 : decide ((wrQ E F b).num < 0) = s := by rw [hq]; exact q3
 have hx3 : exB (wrQ E F b).num.natAbs (wrQ E F b).den = exB (upN n X) (upD X) := by rw [hq, q1, q2]
 rw [hR, hs3] at hok
 rw [hR, hs3, hx3]
 have hrb := ratB_low (s := s) (N := upN n X) (D := upD X) (by omega) (by omega) (upD_pos X) hG hs
 have cV : ∀ W, Below w.heap.size w W → Calls Tryz.prog 74 #[.agg #[.int .i64 (E : Int), .int .i64 (F : Int)], .int .u64 (b : Int)] W (Valued (E : Int) (F : Int) b W) := fun W hW => value_any (E : Int) (F : Int) b W hb (hT.below hW)
 unfold Valued at cV
 rw [v0, v1, v2, v3] at cV
 have cR : ∀ W ao k c, Sl W ao k c (limbs n) → Calls Tryz.prog 76 #[.agg #[.bool s, .slice ao k c, .int .i64 X]] W (Rtn s (upN n X) (upD X) 0 W) := fun W ao k c j => by
  rw [← ratA_up hd l1 l2 W]
  exact exRatio_any s ao k c X (limbs n) W j
 have cW : ∀ W a1 n1 c1 a2 n2 c2, Below w.heap.size w W → Sl W a1 n1 c1 (limbs (upN n X)) → Sl W a2 n2 c2 (limbs (upD X)) → Calls Tryz.prog 77 #[.agg #[.bool s, .slice a1 n1 c1, .slice a2 n2 c2], .int .u8 (m : Int)] W (WhlA (upN n X) (upD X) s m W) := fun W a1 n1 c1 a2 n2 c2 hW j1 j2 => by
  have := rdWholeP_ok a1 a2 n1 n2 c1 c2 m s _ _ W j1 j2 (hT.below hW) hm hrb
  rwa [val_limbs', val_limbs'] at this
 unfold WhlA at cW
 obtain ⟨w1a, w1b⟩ := low_of (rdN (upN n X) (upD X) s m)
 have cL : ∀ W ao k c, Sl W ao k c (limbs (rdN (upN n X) (upD X) s m)) → Calls Tryz.prog 78 #[.agg #[.slice ao k c]] W _ := fun W ao k c j => natLow_any ao k c _ W j
 clear hR hs3 hx3 v0 v1 v2 v3 hd hn hX1 hX2 hG hs l1 l2 q1 q2 q3 hq hrb hT hxm
 generalize upN n X = N at *
 generalize upD X = Dd at *
 generalize rdN N Dd s m = R at *
 generalize exB N Dd = ex at *
 generalize lowB (limbs R) = lb at *
 generalize lowN (limbs R) = lo at *
 generalize limbs R = rs at *
 generalize limbs n = zs at *
 generalize sgB E F b = sg at *
 generalize classN E (exN E F b) (frN F b) = cc at *
 have hc5 : ((cc : Int) == 5) = false := by simp; omega
 have hc4 : ((cc : Int) == 4) = false := by simp; omega
 clear hC5 hC4 hf h1 hp
 have hok := of_decide_eq_true hok
 obtain ⟨rfl, rfl⟩ := w1a (by rcases hok with h | ⟨h, _⟩ <;> omega)
 clear w1a w1b
 have hg1 : ¬ (lo : Int) > 128 := by rcases hok with h | ⟨h, _⟩ <;> omega
 have hnz : ∀ r, r = nzB s lo → (r = true → s = true) ∧ (lo = 128 → r = true) := by
  rintro r rfl
  unfold nzB
  refine ⟨fun h => by simp at h; exact h.1, fun h => ?_⟩
  have h2 : s = true := by rcases hok with h3 | ⟨_, h3⟩; omega; exact h3
  rw [h2, decide_eq_true (by omega)]
  rfl
 have hz : sgZ s lo = if nzB s lo = true then -(lo : Int) else (lo : Int) := by
  unfold sgZ nzB
  by_cases h : lo = 0
  · subst h; cases s <;> rfl
  · rw [decide_eq_true h, Bool.and_true]
 rw [hz]
 generalize nzB s lo = nz at *
 have hl := (hnz nz rfl).2
 have hlo : lo ≤ 128 := by rcases hok with h | ⟨h, _⟩ <;> omega
 clear hok hnz hz
 have c1 : IntKind.i64.wrap (lo : Int) = (if lo = 9223372036854775808 then -9223372036854775808 else (lo : Int)) := by rw [IntKind.wrap_i64]; split <;> omega
 have c2 : IntKind.i64.wrap (-(lo : Int)) = -(lo : Int) := by rw [IntKind.wrap_i64]; omega
 cases nz
 · have hq : ¬ (lo : Int) = 128 := fun h => by have := hl (by omega); cases this
   have hq1 : ((lo : Int) == 128) = false := by simp; omega
   rw [if_neg (by omega)] at c1
   clear hl c2
   cases sg <;> cases ex
   all_goals
    go_enter Tryz.func14, Tryz.ntmps14
    go_wp2_with (first
     | (go_at_call 68; (with_reducible refine (cA _).mono ?_); rintro en w1 ⟨rfl, hb1⟩; replace hW := next hW hb1; replace A := A.stay hb1; have ⟨a0, a1⟩ := A)
     | (go_at_call 69; (with_reducible refine (cB _).mono ?_); rintro en w1 ⟨rfl, hb1⟩; replace hW := next hW hb1; replace A := A.stay hb1; have ⟨a0, a1⟩ := A)
     | (go_at_call 70; (with_reducible refine (cC _).mono ?_); rintro en w1 ⟨rfl, hb1⟩; replace hW := next hW hb1; replace A := A.stay hb1; have ⟨a0, a1⟩ := A)
     | (go_at_call 74; (with_reducible refine (cV _ hW).mono ?_); rintro en w1 ⟨ao, k0, c0, rfl, F1, hb1⟩; replace hW := more (next hW hb1) (.cells #[.bool s, .slice ao k0 c0, .int .i64 X] 132); have D := box3_new w1 (.bool s) (.slice ao k0 c0) (.int .i64 X) 132; have ⟨x0, x1, x2, _, _, _⟩ := D; have S1 := (F1.alloc (.cells #[.bool s, .slice ao k0 c0, .int .i64 X] 132)).sl)
     | (go_at_call 76; (with_reducible refine (cR _ _ _ _ S1).mono ?_); rintro en w2 ⟨a1, n1, c1, a2, n2, c2, rfl, F2, F3, _, hb2⟩; replace hW := more (next hW hb2) (.cells #[.bool s, .slice a1 n1 c1, .slice a2 n2 c2] 137); have D2 := box3_new w2 (.bool s) (.slice a1 n1 c1) (.slice a2 n2 c2) 137; have ⟨y0, y1, y2, _, _, _⟩ := D2; have S2 := (F2.alloc (.cells #[.bool s, .slice a1 n1 c1, .slice a2 n2 c2] 137)).sl; have S3 := (F3.alloc (.cells #[.bool s, .slice a1 n1 c1, .slice a2 n2 c2] 137)).sl)
     | (go_at_call 77; (with_reducible refine (cW _ _ _ _ _ _ _ hW S2 S3).mono ?_); rintro en w3 ⟨a3, n3, c3, rfl, F4, hb3⟩; replace hW := more (next hW hb3) (.cells #[.slice a3 n3 c3] 130); have D3 := box1_new w3 (.slice a3 n3 c3) 130; have z0 := D3.c0; have S4 := (F4.alloc (.cells #[.slice a3 n3 c3] 130)).sl)
     | (go_at_call 78; (with_reducible refine (cL _ _ _ _ S4).mono ?_); rintro en w4 ⟨rfl, hb4⟩; replace hW := next hW hb4))
    go_ret3
    exact ⟨rfl, hW⟩
 · clear hl
   by_cases hmx : lo = 9223372036854775808
   · exact absurd hlo (by omega)
   · rw [if_neg hmx] at c1
     clear hmx
     cases sg <;> cases ex
     all_goals
      go_enter Tryz.func14, Tryz.ntmps14
      go_wp2_with (first
       | (go_at_call 68; (with_reducible refine (cA _).mono ?_); rintro en w1 ⟨rfl, hb1⟩; replace hW := next hW hb1; replace A := A.stay hb1; have ⟨a0, a1⟩ := A)
       | (go_at_call 69; (with_reducible refine (cB _).mono ?_); rintro en w1 ⟨rfl, hb1⟩; replace hW := next hW hb1; replace A := A.stay hb1; have ⟨a0, a1⟩ := A)
       | (go_at_call 70; (with_reducible refine (cC _).mono ?_); rintro en w1 ⟨rfl, hb1⟩; replace hW := next hW hb1; replace A := A.stay hb1; have ⟨a0, a1⟩ := A)
       | (go_at_call 74; (with_reducible refine (cV _ hW).mono ?_); rintro en w1 ⟨ao, k0, c0, rfl, F1, hb1⟩; replace hW := more (next hW hb1) (.cells #[.bool s, .slice ao k0 c0, .int .i64 X] 132); have D := box3_new w1 (.bool s) (.slice ao k0 c0) (.int .i64 X) 132; have ⟨x0, x1, x2, _, _, _⟩ := D; have S1 := (F1.alloc (.cells #[.bool s, .slice ao k0 c0, .int .i64 X] 132)).sl)
       | (go_at_call 76; (with_reducible refine (cR _ _ _ _ S1).mono ?_); rintro en w2 ⟨a1, n1, c1, a2, n2, c2, rfl, F2, F3, _, hb2⟩; replace hW := more (next hW hb2) (.cells #[.bool s, .slice a1 n1 c1, .slice a2 n2 c2] 137); have D2 := box3_new w2 (.bool s) (.slice a1 n1 c1) (.slice a2 n2 c2) 137; have ⟨y0, y1, y2, _, _, _⟩ := D2; have S2 := (F2.alloc (.cells #[.bool s, .slice a1 n1 c1, .slice a2 n2 c2] 137)).sl; have S3 := (F3.alloc (.cells #[.bool s, .slice a1 n1 c1, .slice a2 n2 c2] 137)).sl)
       | (go_at_call 77; (with_reducible refine (cW _ _ _ _ _ _ _ hW S2 S3).mono ?_); rintro en w3 ⟨a3, n3, c3, rfl, F4, hb3⟩; replace hW := more (next hW hb3) (.cells #[.slice a3 n3 c3] 130); have D3 := box1_new w3 (.slice a3 n3 c3) 130; have z0 := D3.c0; have S4 := (F4.alloc (.cells #[.slice a3 n3 c3] 130)).sl)
       | (go_at_call 78; (with_reducible refine (cL _ _ _ _ S4).mono ?_); rintro en w4 ⟨rfl, hb4⟩; replace hW := next hW hb4))
      all_goals go_ret3
      all_goals exact ⟨rfl, hW⟩
theorem turnInt8_over (E F b m : Nat) (w : World) (h1 : formE (E : Int) (F : Int) = 0) (hp : b < pw (1 + E + F)) (hm : m < 5) (hxm : exN E F b ≠ maskN E) (hT : Tab w) (hok : inOk 7 (decide ((wrQ E F b).num < 0)) (inR E F b m) = false) :
 Calls Tryz.prog 14 #[.agg #[.int .i64 (E : Int), .int .i64 (F : Int)], .int .u64 (b : Int), .int .i64 8, .int .u8 (m : Int)] w fun en w' => en = .returned (.tuple #[.int .i64 (inEnd 7 (sgB E F b)), .int .u8 16, .int .i64 0]) ∧ Below w.heap.size w w' := by
 have A := box2_new w (.int .i64 (E : Int)) (.int .i64 (F : Int)) 31
 have hW := more (Below.refl w.heap.size w) (.cells #[.int .i64 (E : Int), .int .i64 (F : Int)] 31)
 have ⟨a0, a1⟩ := A
 obtain ⟨e1, e2, e3, e4⟩ := formE_ok h1
 have hm4 : ¬ (m : Int) > 4 := by omega
 have hf := fits_bits h1 hp
 have hb : b < 18446744073709551616 := by
  have h := pw_le (j := 1 + E + F) (k := 64) (by omega)
  have h64 : pw 64 = 18446744073709551616 := by unfold pw; rfl
  omega
 have cA := fun W => turnAsked_any (E : Int) (F : Int) b W hb
 have cB := fun W => turnBelow_any E F b W (by omega) (by omega) hp
 have cC := fun W => class_any E F b W h1 hb hp
 rw [hf] at cA
 obtain ⟨hC5, hC4⟩ := class_finite (f := F) (b := b) hxm
 obtain ⟨v0, n, X, s, v1, v2, v3, hd, hn, hX1, hX2, hG, hs, _⟩ := worth_facts (m := 0) (by omega) (by omega) (by omega) hf hp hxm
 obtain ⟨l1, l2⟩ := up_small hn hX1 hX2
 obtain ⟨q1, q2, q3⟩ := mk_low (upD_pos X) hG hs
 have hq : wrQ E F b = sgQ' s (upN n X) (upD X) := by unfold wrQ; rw [v1, v2, v3]
 have hR : inR E F b m = rdN (upN n X) (upD X) s m := by unfold inR; rw [hq, q1, q2, q3]
 have hs3 : decide ((wrQ E F b).num < 0) = s := by rw [hq]; exact q3
 have hx3 : exB (wrQ E F b).num.natAbs (wrQ E F b).den = exB (upN n X) (upD X) := by rw [hq, q1, q2]
 rw [hR, hs3] at hok
 have hrb := ratB_low (s := s) (N := upN n X) (D := upD X) (by omega) (by omega) (upD_pos X) hG hs
 have cV : ∀ W, Below w.heap.size w W → Calls Tryz.prog 74 #[.agg #[.int .i64 (E : Int), .int .i64 (F : Int)], .int .u64 (b : Int)] W (Valued (E : Int) (F : Int) b W) := fun W hW => value_any (E : Int) (F : Int) b W hb (hT.below hW)
 unfold Valued at cV
 rw [v0, v1, v2, v3] at cV
 have cR : ∀ W ao k c, Sl W ao k c (limbs n) → Calls Tryz.prog 76 #[.agg #[.bool s, .slice ao k c, .int .i64 X]] W (Rtn s (upN n X) (upD X) 0 W) := fun W ao k c j => by
  rw [← ratA_up hd l1 l2 W]
  exact exRatio_any s ao k c X (limbs n) W j
 have cW : ∀ W a1 n1 c1 a2 n2 c2, Below w.heap.size w W → Sl W a1 n1 c1 (limbs (upN n X)) → Sl W a2 n2 c2 (limbs (upD X)) → Calls Tryz.prog 77 #[.agg #[.bool s, .slice a1 n1 c1, .slice a2 n2 c2], .int .u8 (m : Int)] W (WhlA (upN n X) (upD X) s m W) := fun W a1 n1 c1 a2 n2 c2 hW j1 j2 => by
  have := rdWholeP_ok a1 a2 n1 n2 c1 c2 m s _ _ W j1 j2 (hT.below hW) hm hrb
  rwa [val_limbs', val_limbs'] at this
 unfold WhlA at cW
 obtain ⟨w1a, w1b⟩ := low_of (rdN (upN n X) (upD X) s m)
 have cL : ∀ W ao k c, Sl W ao k c (limbs (rdN (upN n X) (upD X) s m)) → Calls Tryz.prog 78 #[.agg #[.slice ao k c]] W _ := fun W ao k c j => natLow_any ao k c _ W j
 clear hR hs3 hx3 v0 v1 v2 v3 hd hn hX1 hX2 hG hs l1 l2 q1 q2 q3 hq hrb hT hxm
 generalize upN n X = N at *
 generalize upD X = Dd at *
 generalize rdN N Dd s m = R at *
 generalize exB N Dd = ex at *
 generalize lowB (limbs R) = lb at *
 generalize lowN (limbs R) = lo at *
 generalize limbs R = rs at *
 generalize limbs n = zs at *
 generalize sgB E F b = sg at *
 generalize classN E (exN E F b) (frN F b) = cc at *
 have hc5 : ((cc : Int) == 5) = false := by simp; omega
 have hc4 : ((cc : Int) == 4) = false := by simp; omega
 clear hC5 hC4 hf h1 hp
 have hok := of_decide_eq_false hok
 have i1 : inEnd 7 true = -128 := by decide
 have i2 : inEnd 7 false = 127 := by decide
 by_cases hbig : R < 18446744073709551616
 · obtain ⟨rfl, rfl⟩ := w1a hbig
   clear w1a w1b
   by_cases hgt : 128 < lo
   · have hg1 : (lo : Int) > 128 := by omega
     generalize nzB s lo = nz at *
     cases sg
     all_goals
      first | rw [i1] | rw [i2]
      clear i1 i2
      go_enter Tryz.func14, Tryz.ntmps14
      go_wp2_with (first
       | (go_at_call 68; (with_reducible refine (cA _).mono ?_); rintro en w1 ⟨rfl, hb1⟩; replace hW := next hW hb1; replace A := A.stay hb1; have ⟨a0, a1⟩ := A)
       | (go_at_call 69; (with_reducible refine (cB _).mono ?_); rintro en w1 ⟨rfl, hb1⟩; replace hW := next hW hb1; replace A := A.stay hb1; have ⟨a0, a1⟩ := A)
       | (go_at_call 70; (with_reducible refine (cC _).mono ?_); rintro en w1 ⟨rfl, hb1⟩; replace hW := next hW hb1; replace A := A.stay hb1; have ⟨a0, a1⟩ := A)
       | (go_at_call 74; (with_reducible refine (cV _ hW).mono ?_); rintro en w1 ⟨ao, k0, c0, rfl, F1, hb1⟩; replace hW := more (next hW hb1) (.cells #[.bool s, .slice ao k0 c0, .int .i64 X] 132); have D := box3_new w1 (.bool s) (.slice ao k0 c0) (.int .i64 X) 132; have ⟨x0, x1, x2, _, _, _⟩ := D; have S1 := (F1.alloc (.cells #[.bool s, .slice ao k0 c0, .int .i64 X] 132)).sl)
       | (go_at_call 76; (with_reducible refine (cR _ _ _ _ S1).mono ?_); rintro en w2 ⟨a1, n1, c1, a2, n2, c2, rfl, F2, F3, _, hb2⟩; replace hW := more (next hW hb2) (.cells #[.bool s, .slice a1 n1 c1, .slice a2 n2 c2] 137); have D2 := box3_new w2 (.bool s) (.slice a1 n1 c1) (.slice a2 n2 c2) 137; have ⟨y0, y1, y2, _, _, _⟩ := D2; have S2 := (F2.alloc (.cells #[.bool s, .slice a1 n1 c1, .slice a2 n2 c2] 137)).sl; have S3 := (F3.alloc (.cells #[.bool s, .slice a1 n1 c1, .slice a2 n2 c2] 137)).sl)
       | (go_at_call 77; (with_reducible refine (cW _ _ _ _ _ _ _ hW S2 S3).mono ?_); rintro en w3 ⟨a3, n3, c3, rfl, F4, hb3⟩; replace hW := more (next hW hb3) (.cells #[.slice a3 n3 c3] 130); have D3 := box1_new w3 (.slice a3 n3 c3) 130; have z0 := D3.c0; have S4 := (F4.alloc (.cells #[.slice a3 n3 c3] 130)).sl)
       | (go_at_call 78; (with_reducible refine (cL _ _ _ _ S4).mono ?_); rintro en w4 ⟨rfl, hb4⟩; replace hW := next hW hb4))
      go_ret3
      exact ⟨rfl, hW⟩
   · have hlo : lo = 128 := by
      rcases Nat.lt_or_ge lo 128 with h | h
      · exact absurd (.inl h) hok
      · omega
     have hs : s = false := by
      cases s
      · rfl
      · exact absurd (.inr ⟨hlo, rfl⟩) hok
     have hnz : nzB s lo = false := by rw [hs]; rfl
     rw [hnz] at cW
     clear hs hnz hok
     subst hlo
     cases sg
     all_goals
      first | rw [i1] | rw [i2]
      clear i1 i2
      go_enter Tryz.func14, Tryz.ntmps14
      go_wp2_with (first
       | (go_at_call 68; (with_reducible refine (cA _).mono ?_); rintro en w1 ⟨rfl, hb1⟩; replace hW := next hW hb1; replace A := A.stay hb1; have ⟨a0, a1⟩ := A)
       | (go_at_call 69; (with_reducible refine (cB _).mono ?_); rintro en w1 ⟨rfl, hb1⟩; replace hW := next hW hb1; replace A := A.stay hb1; have ⟨a0, a1⟩ := A)
       | (go_at_call 70; (with_reducible refine (cC _).mono ?_); rintro en w1 ⟨rfl, hb1⟩; replace hW := next hW hb1; replace A := A.stay hb1; have ⟨a0, a1⟩ := A)
       | (go_at_call 74; (with_reducible refine (cV _ hW).mono ?_); rintro en w1 ⟨ao, k0, c0, rfl, F1, hb1⟩; replace hW := more (next hW hb1) (.cells #[.bool s, .slice ao k0 c0, .int .i64 X] 132); have D := box3_new w1 (.bool s) (.slice ao k0 c0) (.int .i64 X) 132; have ⟨x0, x1, x2, _, _, _⟩ := D; have S1 := (F1.alloc (.cells #[.bool s, .slice ao k0 c0, .int .i64 X] 132)).sl)
       | (go_at_call 76; (with_reducible refine (cR _ _ _ _ S1).mono ?_); rintro en w2 ⟨a1, n1, c1, a2, n2, c2, rfl, F2, F3, _, hb2⟩; replace hW := more (next hW hb2) (.cells #[.bool s, .slice a1 n1 c1, .slice a2 n2 c2] 137); have D2 := box3_new w2 (.bool s) (.slice a1 n1 c1) (.slice a2 n2 c2) 137; have ⟨y0, y1, y2, _, _, _⟩ := D2; have S2 := (F2.alloc (.cells #[.bool s, .slice a1 n1 c1, .slice a2 n2 c2] 137)).sl; have S3 := (F3.alloc (.cells #[.bool s, .slice a1 n1 c1, .slice a2 n2 c2] 137)).sl)
       | (go_at_call 77; (with_reducible refine (cW _ _ _ _ _ _ _ hW S2 S3).mono ?_); rintro en w3 ⟨a3, n3, c3, rfl, F4, hb3⟩; replace hW := more (next hW hb3) (.cells #[.slice a3 n3 c3] 130); have D3 := box1_new w3 (.slice a3 n3 c3) 130; have z0 := D3.c0; have S4 := (F4.alloc (.cells #[.slice a3 n3 c3] 130)).sl)
       | (go_at_call 78; (with_reducible refine (cL _ _ _ _ S4).mono ?_); rintro en w4 ⟨rfl, hb4⟩; replace hW := next hW hb4))
      go_ret3
      exact ⟨rfl, hW⟩
 · obtain ⟨rfl, rfl⟩ := w1b hbig
   clear w1a w1b hok hbig
   generalize nzB s R = nz at *
   cases sg
   all_goals
    first | rw [i1] | rw [i2]
    clear i1 i2
    go_enter Tryz.func14, Tryz.ntmps14
    go_wp2_with (first
     | (go_at_call 68; (with_reducible refine (cA _).mono ?_); rintro en w1 ⟨rfl, hb1⟩; replace hW := next hW hb1; replace A := A.stay hb1; have ⟨a0, a1⟩ := A)
     | (go_at_call 69; (with_reducible refine (cB _).mono ?_); rintro en w1 ⟨rfl, hb1⟩; replace hW := next hW hb1; replace A := A.stay hb1; have ⟨a0, a1⟩ := A)
     | (go_at_call 70; (with_reducible refine (cC _).mono ?_); rintro en w1 ⟨rfl, hb1⟩; replace hW := next hW hb1; replace A := A.stay hb1; have ⟨a0, a1⟩ := A)
     | (go_at_call 74; (with_reducible refine (cV _ hW).mono ?_); rintro en w1 ⟨ao, k0, c0, rfl, F1, hb1⟩; replace hW := more (next hW hb1) (.cells #[.bool s, .slice ao k0 c0, .int .i64 X] 132); have D := box3_new w1 (.bool s) (.slice ao k0 c0) (.int .i64 X) 132; have ⟨x0, x1, x2, _, _, _⟩ := D; have S1 := (F1.alloc (.cells #[.bool s, .slice ao k0 c0, .int .i64 X] 132)).sl)
     | (go_at_call 76; (with_reducible refine (cR _ _ _ _ S1).mono ?_); rintro en w2 ⟨a1, n1, c1, a2, n2, c2, rfl, F2, F3, _, hb2⟩; replace hW := more (next hW hb2) (.cells #[.bool s, .slice a1 n1 c1, .slice a2 n2 c2] 137); have D2 := box3_new w2 (.bool s) (.slice a1 n1 c1) (.slice a2 n2 c2) 137; have ⟨y0, y1, y2, _, _, _⟩ := D2; have S2 := (F2.alloc (.cells #[.bool s, .slice a1 n1 c1, .slice a2 n2 c2] 137)).sl; have S3 := (F3.alloc (.cells #[.bool s, .slice a1 n1 c1, .slice a2 n2 c2] 137)).sl)
     | (go_at_call 77; (with_reducible refine (cW _ _ _ _ _ _ _ hW S2 S3).mono ?_); rintro en w3 ⟨a3, n3, c3, rfl, F4, hb3⟩; replace hW := more (next hW hb3) (.cells #[.slice a3 n3 c3] 130); have D3 := box1_new w3 (.slice a3 n3 c3) 130; have z0 := D3.c0; have S4 := (F4.alloc (.cells #[.slice a3 n3 c3] 130)).sl)
     | (go_at_call 78; (with_reducible refine (cL _ _ _ _ S4).mono ?_); rintro en w4 ⟨rfl, hb4⟩; replace hW := next hW hb4))
    go_ret3
    exact ⟨rfl, hW⟩
theorem turnInt8_any (E F b m : Nat) (w : World) (h1 : formE (E : Int) (F : Int) = 0) (hp : b < pw (1 + E + F)) (hm : m < 5) (hT : Tab w) :
 Calls Tryz.prog 14 #[.agg #[.int .i64 (E : Int), .int .i64 (F : Int)], .int .u64 (b : Int), .int .i64 8, .int .u8 (m : Int)] w fun en w' => en = .returned (.tuple #[.int .i64 (inV E F b 7 m), .int .u8 (inG E F b 7 m : Int), .int .i64 0]) ∧ Below w.heap.size w w' := by
 unfold inV inG
 by_cases hxm : exN E F b = maskN E
 · by_cases hf0 : frN F b = 0
   · have q1 : naB E F b = false := decide_eq_false fun hh => hh.2 hf0
     have q2 : enB E F b = true := decide_eq_true ⟨hxm, hf0⟩
     rw [q1, q2]
     exact turnInt8_inf E F b m w h1 hp hm hxm hf0
   · have q1 : naB E F b = true := decide_eq_true ⟨hxm, hf0⟩
     rw [q1]
     exact turnInt8_nan E F b m w h1 hp hm hxm hf0
 · have q1 : naB E F b = false := decide_eq_false fun hh => hxm hh.1
   have q2 : enB E F b = false := decide_eq_false fun hh => hxm hh.1
   rw [q1, q2]
   cases hok : inOk 7 (decide ((wrQ E F b).num < 0)) (inR E F b m)
   · exact turnInt8_over E F b m w h1 hp hm hxm hT hok
   · exact turnInt8_ok E F b m w h1 hp hm hxm hT hok
end
section
attribute [local go_sem] Go.World.cell?_alloc_some
theorem trunc_a (W : World) : (callFunc 132 #[.float .f64 4638700579317193114]).run Tryz.prog W = .ok (.value (.float .f64 4638637247447433216)) W :=
 (run_callFunc_extern Tryz.func132 (by kernel_rfl) (by kernel_rfl) (by kernel_rfl) (e := Extern.MathFloor.toIntegral "math.archTrunc" .zero) (by kernel_rfl) _ W).trans (by kernel_rfl)
theorem trunc_b (W : World) : (callFunc 132 #[.float .f64 13830554455654793216]).run Tryz.prog W = .ok (.value (.float .f64 13830554455654793216)) W :=
 (run_callFunc_extern Tryz.func132 (by kernel_rfl) (by kernel_rfl) (by kernel_rfl) (e := Extern.MathFloor.toIntegral "math.archTrunc" .zero) (by kernel_rfl) _ W).trans (by kernel_rfl)
theorem mathTrunc_a (w : World) :
 Calls Tryz.prog 82 #[.float .f64 4638700579317193114] w fun e w' => e = .returned (.float .f64 4638637247447433216) ∧ w = w' := by
 have h := trunc_a
 go_enter Tryz.func82, Tryz.ntmps82
 go_wp2
 go_ret
 exact ⟨rfl, rfl⟩
theorem mathTrunc_b (w : World) :
 Calls Tryz.prog 82 #[.float .f64 13830554455654793216] w fun e w' => e = .returned (.float .f64 13830554455654793216) ∧ w = w' := by
 have h := trunc_b
 go_enter Tryz.func82, Tryz.ntmps82
 go_wp2
 go_ret
 exact ⟨rfl, rfl⟩
theorem signed_i8 (w : World) : Calls Tryz.prog 83 #[] w fun e w' => e = .returned (.bool true) ∧ w = w' := by
 go_enter Tryz.func83, Tryz.ntmps83
 go_wp2
 go_ret
 exact ⟨rfl, rfl⟩
theorem signed_u8 (w : World) : Calls Tryz.prog 84 #[] w fun e w' => e = .returned (.bool false) ∧ w = w' := by
 go_enter Tryz.func84, Tryz.ntmps84
 go_wp2
 go_ret
 exact ⟨rfl, rfl⟩
theorem ord_a1 : (FloatKind.f64.format.order 4638637247447433216 14114281232179134464 == some .gt || FloatKind.f64.format.order 4638637247447433216 14114281232179134464 == some .eq) = true := by decide +kernel
theorem ord_a2 : (FloatKind.f64.format.order 4638637247447433216 4890909195324358656 == some .lt) = true := by decide +kernel
theorem ord_b1 : (FloatKind.f64.format.order 13830554455654793216 0 == some .gt || FloatKind.f64.format.order 13830554455654793216 0 == some .eq) = false := by decide +kernel
theorem conv_a (W : World) : (convert 25 2 (.float .f64 4638637247447433216)).run Tryz.prog W = .ok (.int .i64 127) W :=
 run_convert_float_int W _ _ .f64 .i64 4638637247447433216 127 (by kernel_rfl) (by kernel_rfl) (by decide +kernel)
theorem cut_a (w : World) :
 Calls Tryz.prog 17 #[.float .f64 4638700579317193114] w fun e w' => e = .returned (.tuple #[.int .i8 127, .bool true]) ∧ w = w' := by
 have h1 := ord_a1
 have h2 := ord_a2
 have h3 := conv_a
 go_enter Tryz.func17, Tryz.ntmps17
 go_wp2_with (first
  | (go_at_call 82; (with_reducible refine (mathTrunc_a _).mono ?_); rintro en w1 ⟨rfl, rfl⟩)
  | (go_at_call 83; (with_reducible refine (signed_i8 _).mono ?_); rintro en w1 ⟨rfl, rfl⟩))
 go_ret2
 exact ⟨rfl, rfl⟩
theorem cut_b (w : World) :
 Calls Tryz.prog 18 #[.float .f64 13830554455654793216] w fun e w' => e = .returned (.tuple #[.int .u8 0, .bool false]) ∧ w = w' := by
 have h1 := ord_b1
 go_enter Tryz.func18, Tryz.ntmps18
 go_wp2_with (first
  | (go_at_call 82; (with_reducible refine (mathTrunc_b _).mono ?_); rintro en w1 ⟨rfl, rfl⟩)
  | (go_at_call 84; (with_reducible refine (signed_u8 _).mono ?_); rintro en w1 ⟨rfl, rfl⟩))
 go_ret2
 exact ⟨rfl, rfl⟩
theorem three_is : sgBits 8 23 3 1 false false 0 = 1077936128 := by decide +kernel
theorem near_three (w : World) (hT : Tab w) :
 Calls Tryz.prog 19 #[.int .u8 3] w fun e w' => e = .returned (.float .f32 1077936128) ∧ Below w.heap.size w w' := by
 have cW : ∀ W, Below w.heap.size w W → Calls Tryz.prog 79 #[.agg #[.int .i64 8, .int .i64 23], .bool false, .int .u64 3, .int .u8 0] W fun en w' => en = .returned (.tuple #[.int .u64 1077936128, .int .u8 (sgFlags 8 23 3 1 false 0 : Int), .int .i64 0]) ∧ Below W.heap.size W w' := fun W hW => by
  have := turnWholes_any 8 23 3 0 false W (by decide) (by decide) (by decide) (hT.below hW)
  rw [three_is] at this
  exact this
 generalize sgFlags 8 23 3 1 false 0 = fl at *
 go_enter Tryz.func19, Tryz.ntmps19
 go_wp2_with fail
 refine (turForm_F32 _ _).mono ?_
 rintro en w1 ⟨rfl, hb1⟩
 go_wp2_with fail
 refine (cW _ hb1).mono ?_
 rintro en w2 ⟨rfl, hb2⟩
 go_wp2_with fail
 refine (turNative_F32 1077936128 _ (by decide)).mono ?_
 rintro en w3 ⟨rfl, rfl⟩
 go_wp2
 go_ret
 exact ⟨rfl, next hb1 hb2⟩
theorem to_a : toBi 11 52 5 10 4599676419421066581 0 = 13653 ∧ toGi 11 52 5 10 4599676419421066581 0 = 1 ∧ toE 11 52 5 10 4599676419421066581 0 = 0 := by decide +kernel
theorem int_a : inV 5 10 16640 7 0 = 2 ∧ inG 5 10 16640 7 0 = 1 := by decide +kernel
theorem from_a : fiB 5 10 2049 0 = 26624 ∧ fiE 5 10 0 = 0 := by decide +kernel
theorem back_a : toBi 5 10 11 52 15360 0 = 4607182418800017408 ∧ toE 5 10 11 52 15360 0 = 0 := by decide +kernel
theorem ord_one : (FloatKind.f64.format.order 4607182418800017408 4607182418800017408 == some .eq) = true := by decide +kernel
theorem ord_three : (FloatKind.f32.format.order 1077936128 1077936128 == some .eq) = true := by decide +kernel
theorem alive8_any (w : World) (hT : Tab w) :
 Calls Tryz.prog 4 #[] w fun e w' => e = .returned (.bool true) ∧ Below w.heap.size w w' := by
 have hW := more (more (Below.refl w.heap.size w) (.cells #[.int .i64 5, .int .i64 10] 31)) (.cells #[.int .i64 11, .int .i64 52] 31)
 have A := (box2_new w (.int .i64 5) (.int .i64 10) 31).alloc (.cells #[.int .i64 11, .int .i64 52] 31)
 have B := box2_new (w.alloc (.cells #[.int .i64 5, .int .i64 10] 31)) (.int .i64 11) (.int .i64 52) 31
 rw [World.size_alloc] at B
 have ⟨a0, a1⟩ := A
 have ⟨b0, b1⟩ := B
 have c1 : ∀ W, Below w.heap.size w W → Calls Tryz.prog 13 #[.agg #[.int .i64 11, .int .i64 52], .agg #[.int .i64 5, .int .i64 10], .int .u64 4599676419421066581, .int .u8 0] W fun en w' => en = .returned (.tuple #[.int .u64 13653, .int .u8 1, .int .i64 0]) ∧ Below W.heap.size W w' := fun W hW => by
  have := turnTo_any 11 52 5 10 4599676419421066581 0 W (by decide) (hT.below hW)
  rw [to_a.1, to_a.2.1, to_a.2.2] at this
  exact this
 have c2 : ∀ W, Below w.heap.size w W → Calls Tryz.prog 14 #[.agg #[.int .i64 5, .int .i64 10], .int .u64 16640, .int .i64 8, .int .u8 0] W fun en w' => en = .returned (.tuple #[.int .i64 2, .int .u8 1, .int .i64 0]) ∧ Below W.heap.size W w' := fun W hW => by
  have := turnInt8_any 5 10 16640 0 W (by decide) (by decide +kernel) (by decide) (hT.below hW)
  rw [int_a.1, int_a.2] at this
  exact this
 have c3 : ∀ W, Below w.heap.size w W → Calls Tryz.prog 15 #[.agg #[.int .i64 5, .int .i64 10], .int .i64 2049, .int .u8 0] W fun en w' => en = .returned (.tuple #[.int .u64 26624, .int .u8 (fiG 5 10 2049 0 : Int), .int .i64 0]) ∧ Below W.heap.size W w' := fun W hW => by
  have := turnFromInt_any 5 10 2049 0 W (by decide) (by decide) (hT.below hW)
  rw [from_a.1, from_a.2] at this
  exact this
 have c4 : ∀ W, Below w.heap.size w W → Calls Tryz.prog 16 #[.agg #[.int .i64 5, .int .i64 10], .int .u64 15360] W fun en w' => en = .returned (.tuple #[.float .f64 4607182418800017408, .int .i64 0]) ∧ Below W.heap.size W w' := fun W hW => by
  have := turFrom_F64 5 10 15360 W (by decide) (hT.below hW)
  rw [back_a.1, back_a.2] at this
  exact this
 have c7 : ∀ W, Below w.heap.size w W → Calls Tryz.prog 19 #[.int .u8 3] W fun e w' => e = .returned (.float .f32 1077936128) ∧ Below W.heap.size W w' := fun W hW => near_three W (hT.below hW)
 have o1 := ord_one
 have o3 := ord_three
 generalize fiG 5 10 2049 0 = fl at *
 clear hT
 go_enter Tryz.func4, Tryz.ntmps4
 go_wp2_with (first
  | (go_at_call 13; (with_reducible refine (c1 _ hW).mono ?_); rintro en w1 ⟨rfl, hb1⟩; replace hW := next hW hb1; replace A := A.stay hb1; have ⟨a0, a1⟩ := A)
  | (go_at_call 14; (with_reducible refine (c2 _ hW).mono ?_); rintro en w1 ⟨rfl, hb1⟩; replace hW := next hW hb1; replace A := A.stay hb1; have ⟨a0, a1⟩ := A)
  | (go_at_call 15; (with_reducible refine (c3 _ hW).mono ?_); rintro en w1 ⟨rfl, hb1⟩; replace hW := next hW hb1; replace A := A.stay hb1; have ⟨a0, a1⟩ := A)
  | (go_at_call 16; (with_reducible refine (c4 _ hW).mono ?_); rintro en w1 ⟨rfl, hb1⟩; replace hW := next hW hb1)
  | (go_at_call 17; (with_reducible refine (cut_a _).mono ?_); rintro en w1 ⟨rfl, rfl⟩)
  | (go_at_call 18; (with_reducible refine (cut_b _).mono ?_); rintro en w1 ⟨rfl, rfl⟩)
  | (go_at_call 19; (with_reducible refine (c7 _ hW).mono ?_); rintro en w1 ⟨rfl, hb1⟩; replace hW := next hW hb1))
 go_ret
 exact ⟨rfl, hW⟩
end
end Go.Proofs.YtoiifhmepniniaaGreatDoor
