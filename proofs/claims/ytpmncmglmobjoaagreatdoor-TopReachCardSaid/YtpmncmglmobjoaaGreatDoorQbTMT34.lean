/-
  Plain: the neighbours of a float by its place. No program in sight.
-/
import Derived.Test.YtpmncmglmobjoaaGreatDoorQbTMT33
set_option maxHeartbeats 2000000
set_option maxRecDepth 100000
namespace Go.Proofs.YtpmncmglmobjoaaGreatDoor
open Go.RowKit Go.Lb
theorem mg_parts (e f b : Nat) : mgN e f b = exN e f b * pw f + frN f b := by
 have hf := frN_eq f b
 have hx : exN e f b = b / pw f % pw e := rfl
 unfold mgN
 rw [show e + f = f + e by omega, pw_add, Nat.mod_mul, hf, hx, Nat.mul_comm]
 omega
def ifN (e f : Nat) : Nat := maskN e * pw f
theorem if_lt {e f : Nat} (h : formE (e : Int) (f : Int) = 0) : 0 < ifN e f ∧ ifN e f < pw (e + f) := by
 obtain ⟨q1, q2, q3, q4⟩ := formE_ok h
 have hp := pw_pos f
 have hm := maskN_eq e
 have h2 : pw 2 ≤ pw e := pw_le (by omega)
 rw [show pw 2 = 4 by unfold pw; rfl] at h2
 unfold ifN
 rw [pw_add]
 refine ⟨Nat.mul_pos (by omega) hp, Nat.mul_lt_mul_of_pos_right (by omega) hp⟩
theorem ex_mask (e f b : Nat) : exN e f b ≤ maskN e := by
 have h1 := exN_lt e f b
 have hm := maskN_eq e
 omega
theorem inf_iff {e f b : Nat} : infB e f b = decide (mgN e f b = ifN e f) := by
 have hp := pw_pos f
 have hl : frN f b < pw f := by rw [frN_eq]; exact Nat.mod_lt _ hp
 have hx := ex_mask e f b
 unfold infB ifN
 rw [mg_parts]
 refine decide_eq_decide.2 ⟨fun ⟨h1, h2⟩ => by rw [h1, h2]; omega, fun h => ?_⟩
 have h1 : ¬ exN e f b < maskN e := fun hlt => by
  have : (exN e f b + 1) * pw f ≤ maskN e * pw f := Nat.mul_le_mul_right _ hlt
  rw [Nat.add_mul] at this
  omega
 have h2 : exN e f b = maskN e := by omega
 rw [h2] at h
 exact ⟨h2, by omega⟩
theorem nan_iff {e f b : Nat} : nanB e f b = decide (ifN e f < mgN e f b) := by
 have hp := pw_pos f
 have hl : frN f b < pw f := by rw [frN_eq]; exact Nat.mod_lt _ hp
 have hx := ex_mask e f b
 unfold nanB ifN
 rw [mg_parts]
 refine decide_eq_decide.2 ⟨fun ⟨h1, h2⟩ => by rw [h1]; omega, fun h => ?_⟩
 have h1 : ¬ exN e f b < maskN e := fun hlt => by
  have : (exN e f b + 1) * pw f ≤ maskN e * pw f := Nat.mul_le_mul_right _ hlt
  rw [Nat.add_mul] at this
  omega
 have h2 : exN e f b = maskN e := by omega
 rw [h2] at h
 exact ⟨h2, by omega⟩
theorem fin_iff {e f b : Nat} : exN e f b ≠ maskN e ↔ mgN e f b < ifN e f := by
 have h1 := @inf_iff e f b
 have h2 := @nan_iff e f b
 unfold infB at h1
 unfold nanB at h2
 have h1' := decide_eq_decide.1 h1
 have h2' := decide_eq_decide.1 h2
 constructor
 · intro hx
   by_cases h3 : mgN e f b < ifN e f
   · exact h3
   · exfalso
     rcases (by omega : mgN e f b = ifN e f ∨ ifN e f < mgN e f b) with h | h
     · exact hx (h1'.2 h).1
     · exact hx (h2'.2 h).1
 · intro hlt hx
   by_cases h0 : frN f b = 0
   · have := h1'.1 ⟨hx, h0⟩; omega
   · have := h2'.1 ⟨hx, h0⟩; omega
theorem sg_mk {e f M : Nat} (hM : M < pw (e + f)) (s : Bool) : (M + if s = true then pw (e + f) else 0) < pw (1 + e + f) ∧ sgB e f (M + if s = true then pw (e + f) else 0) = s ∧ mgN e f (M + if s = true then pw (e + f) else 0) = M := by
 have h1 : (M + if s = true then pw (e + f) else 0) < pw (1 + e + f) := by
  rw [pw_one_more]
  cases s
  · simp; omega
  · simp; omega
 refine ⟨h1, ?_, ?_⟩
 · rw [sg_iff h1]
   cases s
   · simp; omega
   · simp
 · unfold mgN
   cases s
   · simp; exact Nat.mod_eq_of_lt hM
   · simp; exact Nat.mod_eq_of_lt hM
theorem fits_of {e f b : Nat} (hf : formE (e : Int) (f : Int) = 0) (hb : b < pw (1 + e + f)) : fitsE (e : Int) (f : Int) b = 0 := by
 unfold fitsE
 exact (if_neg (by simp [hf])).trans (if_pos hb)
section
attribute [local go_sem] Go.World.cell?_alloc_some
theorem one_cells {pl b : Nat} (hb : b < 18446744073709551616) {W : World} (c0 : W.cell? ⟨pl, 0, none⟩ = some (.int .u64 (b : Int))) : ∀ j, (h : j < [b].length) → [b][j] < 18446744073709551616 ∧ W.cell? ⟨pl, j, none⟩ = some (.int .u64 ([b][j] : Nat)) := by
 intro j hj
 match j, hj with
 | 0, _ => exact ⟨hb, c0⟩
theorem askL_one (e f : Int) (b : Nat) : askL e f [b] = fitsE e f b := by
 show (if fitsE e f b ≠ 0 then fitsE e f b else 0) = _
 by_cases h : fitsE e f b = 0
 · rw [if_neg (by simp [h]), h]
 · rw [if_pos h]
theorem anN_one (e f b : Nat) : anN e f [b] = nanB e f b := by unfold anN; simp
end
section
attribute [local go_sem] Go.World.cell?_alloc_some
theorem formsRange_any (e f : Nat) (w : World) (h : formE (e : Int) (f : Int) = 0) :
 Calls Tryz.prog 73 #[.agg #[.int .i64 (e : Int), .int .i64 (f : Int)]] w fun en w' => en = .returned (.tuple #[.int .i64 (baseI e f), .int .i64 (biasN e : Int), .int .i64 0]) ∧ Below w.heap.size w w' := by
 obtain ⟨q1, q2, q3, q4⟩ := formE_ok h
 have cC := fun W => formCheck_any (e : Int) (f : Int) W
 rw [h] at cC
 have hb := bias_small (e := e) (by omega)
 have cM := fun W => mask_any (e - 1) W (by omega)
 have hme : maskN (e - 1) = biasN e := by unfold maskN biasN; rfl
 rw [hme] at cM
 have hB : baseI e f = 1 - (biasN e : Int) - f := rfl
 have he1 : (e : Int) - 1 = ((e - 1 : Nat) : Int) := by omega
 have hw1 : IntKind.i64.wrap (biasN e : Int) = (biasN e : Int) := by rw [IntKind.wrap_i64]; omega
 have hw2 : IntKind.i64.wrap (1 - (biasN e : Int)) = 1 - (biasN e : Int) := by rw [IntKind.wrap_i64]; omega
 have hw3 : IntKind.i64.wrap (1 - (biasN e : Int) - (f : Int)) = baseI e f := by rw [IntKind.wrap_i64, hB]; omega
 clear hB hme
 generalize baseI e f = R at *
 generalize biasN e = B at *
 have A0 := box2_new w (.int .i64 (e : Int)) (.int .i64 (f : Int)) 23
 have hW0 := more (Below.refl w.heap.size w) (.cells #[.int .i64 (e : Int), .int .i64 (f : Int)] 23)
 go_enter Tryz.func73, Tryz.ntmps73
 go_wp2_with (first
  | (go_at_call 45; refine (cC _).mono ?_; rintro en w1 ⟨rfl, hb1⟩; have A1 := A0.stay hb1; have ⟨a0, a1⟩ := A1; have hW1 := next hW0 hb1)
  | (go_at_call 66; refine (cM _).mono ?_; rintro en w2 ⟨rfl, rfl⟩))
 refine bodyPost_ret (v := .tuple #[.int .i64 R, .int .i64 (B : Int), .int .i64 0]) (by simp [results, Tryz.results73, go_sem]) rfl ⟨rfl, hW1⟩
def unI (e f b : Nat) : Int := baseI e f + ((max (exN e f b) 1 : Nat) : Int) - 1
theorem un_small {e f b : Nat} (h : formE (e : Int) (f : Int) = 0) : -1200 ≤ unI e f b ∧ unI e f b ≤ 2100 := by
 obtain ⟨q1, q2, q3, q4⟩ := formE_ok h
 have hb := bias_small (e := e) (by omega)
 have hx := ex_mask e f b
 have hm : maskN e ≤ 2047 := maskN_lt11 (by omega)
 unfold unI baseI
 omega
theorem nearUnit_any (e f b : Nat) (w : World) (h : formE (e : Int) (f : Int) = 0) (hb : b < 18446744073709551616) (hp : b < pw (1 + e + f)) :
 Calls Tryz.prog 37 #[.agg #[.int .i64 (e : Int), .int .i64 (f : Int)], .int .u64 (b : Int)] w fun en w' => en = .returned (.int .i64 (unI e f b)) ∧ Below w.heap.size w w' := by
 obtain ⟨q1, q2, q3, q4⟩ := formE_ok h
 have cS := fun W => split_any e f b W h hb hp
 have cR := fun W => formsRange_any e f W h
 obtain ⟨u1, u2⟩ := un_small (b := b) h
 have hbs := bias_small (e := e) (by omega)
 have hB : baseI e f = 1 - (biasN e : Int) - f := rfl
 have hx := ex_mask e f b
 have hm : maskN e ≤ 2047 := maskN_lt11 (by omega)
 have hU : unI e f b = baseI e f + ((max (exN e f b) 1 : Nat) : Int) - 1 := rfl
 have hmx : max ((exN e f b : Nat) : Int) 1 = ((max (exN e f b) 1 : Nat) : Int) := by omega
 have hw1 : IntKind.i64.wrap (baseI e f + ((max (exN e f b) 1 : Nat) : Int)) = baseI e f + ((max (exN e f b) 1 : Nat) : Int) := by rw [IntKind.wrap_i64]; omega
 have hw2 : IntKind.i64.wrap (baseI e f + ((max (exN e f b) 1 : Nat) : Int) - 1) = unI e f b := by rw [IntKind.wrap_i64, hU]; omega
 clear hU hB
 generalize max (exN e f b) 1 = M at *
 generalize exN e f b = X at *
 generalize baseI e f = B at *
 generalize unI e f b = U at *
 have A0 := box2_new w (.int .i64 (e : Int)) (.int .i64 (f : Int)) 23
 have hW0 := more (Below.refl w.heap.size w) (.cells #[.int .i64 (e : Int), .int .i64 (f : Int)] 23)
 go_enter Tryz.func37, Tryz.ntmps37
 go_wp2_with (first
  | (go_at_call 65; refine (cS _).mono ?_; rintro en w1 ⟨rfl, hb1⟩; have A1 := (A0.stay hb1).alloc (.cells #[.bool (sgB e f b), .int .i64 (X : Int), .int .u64 (frN f b)] 104); have ⟨a0, a1⟩ := A1; have P1 := box3_new w1 (.bool (sgB e f b)) (.int .i64 (X : Int)) (.int .u64 (frN f b)) 104; have hW1 := more (next hW0 hb1) (.cells #[.bool (sgB e f b), .int .i64 (X : Int), .int .u64 (frN f b)] 104))
  | (go_at_call 73; refine (cR _).mono ?_; rintro en w2 ⟨rfl, hb2⟩; have P2 := P1.stay hb2; have ⟨p0, p1, p2, _, _, _⟩ := P2; have hW2 := next hW1 hb2))
 refine bodyPost_ret (v := .int .i64 U) (by simp [results, Tryz.results37, go_sem]) rfl ⟨rfl, hW2⟩
theorem mk_one (s : Bool) {x : Int} (h1 : -100000 ≤ x) (h2 : x ≤ 100000) : mkS s (limbs 1) x = s ∧ mkN (limbs 1) x = 1 ∧ mkX (limbs 1) x = x ∧ mkE (limbs 1) x = 0 := by
 have h := mkA_ok (s := s) (S := 1) (x := x) (b := x) (K := 1) (Int.le_refl _) (by unfold upW; simp) (by decide) (by omega) (by omega)
 have htz : tz 1 = 0 := by decide +kernel
 have hB : mkB (limbs 1) x = true := by
  unfold mkB
  rw [val_limbs']
  exact decide_eq_true ⟨chk_limbs h.1, by decide, by omega, by omega, by rw [htz]; omega, by rw [htz]; omega⟩
 obtain ⟨k1, k2, k3, k4⟩ := mk_yes s hB
 rw [val_limbs', htz] at k1 k2
 exact ⟨k3, by simpa using k1, by simpa using k2, k4⟩
theorem anI_one (e f b : Nat) : anI e f [b] = decide (exN e f b = maskN e) := by unfold anI; simp
end
section
attribute [local go_sem] Go.World.cell?_alloc_some
def meA (p q : Ds) : Ds := mkA (addA p.s (limbs p.N) p.x q.s (limbs q.N) q.x).s (addA p.s (limbs p.N) p.x q.s (limbs q.N) q.x).N ((addA p.s (limbs p.N) p.x q.s (limbs q.N) q.x).x - 1)
theorem me_bd {p q : Ds} {b : Int} {K : Nat} (h1 : Dy p.s p.N p.x) (h2 : Dy q.s q.N q.x) (g1 : Bd p.N p.x b K) (g2 : Bd q.N q.x b K) (hK : K ≤ 100000) (hb1 : -100000 ≤ b) (hb2 : b ≤ 100000) :
 (addA p.s (limbs p.N) p.x q.s (limbs q.N) q.x).e = 0 ∧ -300000 ≤ (addA p.s (limbs p.N) p.x q.s (limbs q.N) q.x).x ∧ (addA p.s (limbs p.N) p.x q.s (limbs q.N) q.x).x ≤ 300000 ∧ (meA p q).e = 0 ∧ Dy (meA p q).s (meA p q).N (meA p q).x ∧ Bd (meA p q).N (meA p q).x (b - 1) (K + 1) := by
 obtain ⟨e0, d0, b0⟩ := sum_bd h1 h2 g1 g2 (by omega) (by omega) (by omega) _ rfl
 obtain ⟨l1, x1, x2⟩ := b0.small d0 (j := K + 1) (by omega)
 have hlow : (addA p.s (limbs p.N) p.x q.s (limbs q.N) q.x).N ≠ 0 → b - 1 ≤ (addA p.s (limbs p.N) p.x q.s (limbs q.N) q.x).x - 1 := fun h => by have := b0.low h; omega
 have hup : upW (addA p.s (limbs p.N) p.x q.s (limbs q.N) q.x).N ((addA p.s (limbs p.N) p.x q.s (limbs q.N) q.x).x - 1) (b - 1) = upW (addA p.s (limbs p.N) p.x q.s (limbs q.N) q.x).N (addA p.s (limbs p.N) p.x q.s (limbs q.N) q.x).x b := by
  unfold upW
  congr 2
  omega
 have e1 : (meA p q).e = 0 := by
  unfold meA
  by_cases h0 : (addA p.s (limbs p.N) p.x q.s (limbs q.N) q.x).N = 0
  · rw [h0, mkA_zero]; rfl
  · exact (mkA_ok (hlow h0) (by rw [hup]; exact b0.top) (by omega) (by omega) (by omega)).2
 have l2 : (limbs (addA p.s (limbs p.N) p.x q.s (limbs q.N) q.x).N).length ≤ 16384 := d0.len
 have hw := mkA_worth (s := (addA p.s (limbs p.N) p.x q.s (limbs q.N) q.x).s) l2 hlow e1
 refine ⟨e0, by omega, by omega, e1, hw.dy, hw.bd ?_⟩
 rw [wI_abs, hup]
 exact b0.top
theorem nearMean_any (p q : Ds) (a1 a2 : Option Addr) (n1 n2 c1 c2 : Nat) (w : World) (h1 : Sl w a1 n1 c1 (limbs p.N)) (h2 : Sl w a2 n2 c2 (limbs q.N)) (hT : Tab w) (he : (addA p.s (limbs p.N) p.x q.s (limbs q.N) q.x).e = 0) (x1 : -300000 ≤ (addA p.s (limbs p.N) p.x q.s (limbs q.N) q.x).x) (x2 : (addA p.s (limbs p.N) p.x q.s (limbs q.N) q.x).x ≤ 300000) :
 Calls Tryz.prog 39 #[.agg #[.bool p.s, .slice a1 n1 c1, .int .i64 p.x], .agg #[.bool q.s, .slice a2 n2 c2, .int .i64 q.x]] w (Dyn (meA p q) w) := by
 have kA : ∀ W, Below w.heap.size w W → Calls Tryz.prog 38 #[.agg #[.bool p.s, .slice a1 n1 c1, .int .i64 p.x], .agg #[.bool q.s, .slice a2 n2 c2, .int .i64 q.x]] W (Dyn (addA p.s (limbs p.N) p.x q.s (limbs q.N) q.x) W) := fun W hW => exAdd_any p.s q.s a1 a2 n1 n2 c1 c2 p.x q.x _ _ W (h1.below hW) (h2.below hW) (hT.below hW)
 have hM : ∀ D : Ds, mkA D.s D.N (D.x - 1) = ⟨mkS D.s (limbs D.N) (D.x - 1), mkN (limbs D.N) (D.x - 1), mkX (limbs D.N) (D.x - 1), mkE (limbs D.N) (D.x - 1)⟩ := fun D => rfl
 unfold meA
 rw [hM]
 generalize addA p.s (limbs p.N) p.x q.s (limbs q.N) q.x = D at *
 have hw1 : IntKind.i64.wrap (D.x - 1) = D.x - 1 := by rw [IntKind.wrap_i64]; omega
 have kM := fun ao n c W (j : Sl W ao n c (limbs D.N)) hT => exMake_any D.s ao n c (limbs D.N) (D.x - 1) W j hT
 unfold Made at kM
 generalize mkS D.s (limbs D.N) (D.x - 1) = rs at *
 generalize mkX (limbs D.N) (D.x - 1) = rx at *
 generalize mkE (limbs D.N) (D.x - 1) = re at *
 generalize mkN (limbs D.N) (D.x - 1) = rn at *
 obtain ⟨W3, hW3⟩ : ∃ W3 : World, W3 = ((w.alloc (.cells #[.bool p.s, .slice a1 n1 c1, .int .i64 p.x] 47)).alloc (.cells #[.bool q.s, .slice a2 n2 c2, .int .i64 q.x] 47)).alloc (.cells #[.bool false, .slice none 0 0, .int .i64 0] 47) := ⟨_, rfl⟩
 have hb3 : Below w.heap.size w W3 := hW3 ▸ more (more (more (Below.refl _ _) _) _) _
 have A3 : Box3 W3 w.heap.size (.bool p.s) (.slice a1 n1 c1) (.int .i64 p.x) := hW3 ▸ ((box3_new w _ _ _ _).alloc _).alloc _
 have B3 : Box3 W3 (w.heap.size + 1) (.bool q.s) (.slice a2 n2 c2) (.int .i64 q.x) := by
  have := (box3_new (w.alloc (.cells #[.bool p.s, .slice a1 n1 c1, .int .i64 p.x] 47)) (.bool q.s) (.slice a2 n2 c2) (.int .i64 q.x) 47).alloc (.cells #[.bool false, .slice none 0 0, .int .i64 0] 47)
  rw [World.size_alloc] at this
  exact hW3 ▸ this
 have R3 : Box3 W3 (w.heap.size + 2) (.bool false) (.slice none 0 0) (.int .i64 0) := by
  have := box3_new ((w.alloc (.cells #[.bool p.s, .slice a1 n1 c1, .int .i64 p.x] 47)).alloc (.cells #[.bool q.s, .slice a2 n2 c2, .int .i64 q.x] 47)) (.bool false) (.slice none 0 0) (.int .i64 0) 47
  rw [World.size_alloc, World.size_alloc] at this
  exact hW3 ▸ this
 have hT3 := hT.below hb3
 have hl : w.heap.size + 2 < W3.heap.size := World.block_lt_of_cell? W3 ⟨w.heap.size + 2, 0, none⟩ R3.c0
 have ⟨x0, x1', x2', _, _, _⟩ := A3
 have ⟨y0, y1, y2, _, _, _⟩ := B3
 clear h1 h2 hT hM x1 x2
 go_enter Tryz.func39, Tryz.ntmps39
 go_upto_region 1 with fail
 rw [← hW3]
 clear hW3
 go_wp2_with fail
 refine (kA W3 hb3).mono ?_
 rintro en wA ⟨da, dk, dc, rfl, dF, hbA⟩
 rw [he]
 have hs := more hbA (.cells #[.bool D.s, .slice da dk dc, .int .i64 D.x] 47)
 have V4 := next hb3 hs
 have R4 := R3.stay hs
 have hT4 := hT3.below hs
 have dN := box3_new wA (.bool D.s) (.slice da dk dc) (.int .i64 D.x) 47
 have dG := (dF.alloc (.cells #[.bool D.s, .slice da dk dc, .int .i64 D.x] 47)).sl
 have hl4 : W3.heap.size ≤ (wA.alloc (.cells #[.bool D.s, .slice da dk dc, .int .i64 D.x] 47)).heap.size := hs.size
 clear x0 x1' x2' y0 y1 y2 A3 B3 R3 hT3 hs hbA dF kA
 go_upto_region 2 with fail
 obtain ⟨dZ, hZ⟩ : ∃ q, q = wA.heap.size := ⟨_, rfl⟩
 rw [← hZ] at dN ⊢
 clear hZ
 generalize wA.alloc (.cells #[.bool D.s, .slice da dk dc, .int .i64 D.x] 47) = w4 at *
 have ⟨d0, d1, d2, _, _, _⟩ := dN
 go_wp2_with fail
 refine (kM _ _ _ w4 dG hT4).mono ?_
 rintro en w5 ⟨ma, mk, mc, rfl, mF, hb5⟩
 have R5 := R4.stay hb5
 have V5 := next V4 hb5
 have ⟨r0, r1, r2, _, _, _⟩ := R5
 obtain ⟨t0, t1, t2⟩ := R5.set (.bool rs) (.slice ma mk mc) (.int .i64 rx)
 go_wp2
 refine bodyPost_ret (v := .tuple #[.agg #[.bool rs, .slice ma mk mc, .int .i64 rx], .int .i64 re]) (by simp [results, Tryz.results39, go_sem, t0, t1, t2]) rfl ⟨ma, mk, mc, rfl, ?_, ((V5.setCell (by simp; omega) _).setCell (by simp; omega) _).setCell (by simp; omega) _⟩
 exact ((((mF.setCell (by simp; omega) _).setCell (by simp; omega) _).setCell (by simp; omega) _).mono (by omega))
def seM (m : Nat) (neg : Bool) : Nat := if m = 3 ∧ neg = true ∨ m = 4 ∧ neg = false then 2 else if m = 4 then 3 else m
theorem nearSeen_any (m : Nat) (neg : Bool) (w : World) (hm : m < 5) :
 Calls Tryz.prog 18 #[.int .u8 (m : Int), .bool neg] w fun en w' => en = .returned (.int .u8 (seM m neg : Int)) ∧ w = w' := by
 have hmm : m = 0 ∨ m = 1 ∨ m = 2 ∨ m = 3 ∨ m = 4 := by omega
 rcases hmm with rfl | rfl | rfl | rfl | rfl <;> cases neg
 all_goals
  go_enter Tryz.func18, Tryz.ntmps18
  go_wp2
  go_ret
  exact ⟨rfl, rfl⟩
end
section
attribute [local go_sem] Go.World.cell?_alloc_some
structure Box8 (w : World) (b : Nat) (v0 v1 v2 v3 v4 v5 v6 v7 : Value) : Prop where
 a : Box3 w b v0 v1 v2
 c3 : w.cell? ⟨b, 3, none⟩ = some v3
 c4 : w.cell? ⟨b, 4, none⟩ = some v4
 c5 : w.cell? ⟨b, 5, none⟩ = some v5
 c6 : w.cell? ⟨b, 6, none⟩ = some v6
 c7 : w.cell? ⟨b, 7, none⟩ = some v7
 z3 : w.frozen? ⟨b, 3, none⟩ = false
 z4 : w.frozen? ⟨b, 4, none⟩ = false
 z5 : w.frozen? ⟨b, 5, none⟩ = false
 z6 : w.frozen? ⟨b, 6, none⟩ = false
 z7 : w.frozen? ⟨b, 7, none⟩ = false
theorem Box8.stay {wp w' : World} {b : Nat} {v0 v1 v2 v3 v4 v5 v6 v7 : Value} (h : Box8 wp b v0 v1 v2 v3 v4 v5 v6 v7) (k : Below wp.heap.size wp w') : Box8 w' b v0 v1 v2 v3 v4 v5 v6 v7 :=
 ⟨h.a.stay k, (cfStay ⟨h.c3, h.z3⟩ k).1, (cfStay ⟨h.c4, h.z4⟩ k).1, (cfStay ⟨h.c5, h.z5⟩ k).1, (cfStay ⟨h.c6, h.z6⟩ k).1, (cfStay ⟨h.c7, h.z7⟩ k).1,
  (cfStay ⟨h.c3, h.z3⟩ k).2, (cfStay ⟨h.c4, h.z4⟩ k).2, (cfStay ⟨h.c5, h.z5⟩ k).2, (cfStay ⟨h.c6, h.z6⟩ k).2, (cfStay ⟨h.c7, h.z7⟩ k).2⟩
theorem box8_new (w : World) (v0 v1 v2 v3 v4 v5 v6 v7 : Value) (t : TypeId) : Box8 (w.alloc (.cells #[v0, v1, v2, v3, v4, v5, v6, v7] t)) w.heap.size v0 v1 v2 v3 v4 v5 v6 v7 :=
 ⟨⟨by simp, by simp, by simp, by simp [go_sem], by simp [go_sem], by simp [go_sem]⟩, by simp, by simp, by simp, by simp, by simp, by simp [go_sem], by simp [go_sem], by simp [go_sem], by simp [go_sem], by simp [go_sem]⟩
def set8 (w : World) (b : Nat) (u0 u1 u2 u3 u4 u5 u6 u7 : Value) : World := (((((((w.setCell ⟨b, 0, none⟩ u0).setCell ⟨b, 1, none⟩ u1).setCell ⟨b, 2, none⟩ u2).setCell ⟨b, 3, none⟩ u3).setCell ⟨b, 4, none⟩ u4).setCell ⟨b, 5, none⟩ u5).setCell ⟨b, 6, none⟩ u6).setCell ⟨b, 7, none⟩ u7
theorem Box8.set {w : World} {b : Nat} {v0 v1 v2 v3 v4 v5 v6 v7 : Value} (h : Box8 w b v0 v1 v2 v3 v4 v5 v6 v7) (u0 u1 u2 u3 u4 u5 u6 u7 : Value) :
 (set8 w b u0 u1 u2 u3 u4 u5 u6 u7).cell? ⟨b, 0, none⟩ = some u0 ∧ (set8 w b u0 u1 u2 u3 u4 u5 u6 u7).cell? ⟨b, 1, none⟩ = some u1 ∧ (set8 w b u0 u1 u2 u3 u4 u5 u6 u7).cell? ⟨b, 2, none⟩ = some u2 ∧ (set8 w b u0 u1 u2 u3 u4 u5 u6 u7).cell? ⟨b, 3, none⟩ = some u3 ∧ (set8 w b u0 u1 u2 u3 u4 u5 u6 u7).cell? ⟨b, 4, none⟩ = some u4 ∧ (set8 w b u0 u1 u2 u3 u4 u5 u6 u7).cell? ⟨b, 5, none⟩ = some u5 ∧ (set8 w b u0 u1 u2 u3 u4 u5 u6 u7).cell? ⟨b, 6, none⟩ = some u6 ∧ (set8 w b u0 u1 u2 u3 u4 u5 u6 u7).cell? ⟨b, 7, none⟩ = some u7 := by
 obtain ⟨⟨h0, h1, h2, _, _, _⟩, h3, h4, h5, h6, h7, _, _, _, _, _⟩ := h
 unfold set8
 refine ⟨?_, ?_, ?_, ?_, ?_, ?_, ?_, ?_⟩
 all_goals simp [World.cell?_setCell_other, cell_same, h0, h1, h2, h3, h4, h5, h6, h7]
theorem set8_below {w wp : World} {N b : Nat} (h : Below N w wp) (hb : N ≤ b) (u0 u1 u2 u3 u4 u5 u6 u7 : Value) : Below N w (set8 wp b u0 u1 u2 u3 u4 u5 u6 u7) :=
 (((((((h.setCell hb _).setCell hb _).setCell hb _).setCell hb _).setCell hb _).setCell hb _).setCell hb _).setCell hb _
theorem set8_fr {e : TypeId} {w : World} {base b : Nat} {ao : Option Addr} {n c : Nat} {xs : List Nat} (h : Fr e w base ao n c xs) (hb : b < base) (u0 u1 u2 u3 u4 u5 u6 u7 : Value) : Fr e (set8 w b u0 u1 u2 u3 u4 u5 u6 u7) base ao n c xs :=
 (((((((h.setCell hb _).setCell hb _).setCell hb _).setCell hb _).setCell hb _).setCell hb _).setCell hb _).setCell hb _
def spD (e f b : Nat) : Ds := ⟨false, 1, unI e f b, 0⟩
def faD (e f b : Nat) : Ds := addA (valS (e : Int) (f : Int) b) (limbs (valN (e : Int) (f : Int) b)) (valX (e : Int) (f : Int) b) false (limbs 1) (unI e f b)
def bfD (e f b : Nat) : Ds := if b = 0 then valD (e : Int) (f : Int) b else valD (e : Int) (f : Int) (b - 1)
def rcI (e f b m : Nat) : Ds := if m = 2 then valD (e : Int) (f : Int) b else if m = 3 then bfD e f b else meA (bfD e f b) (valD (e : Int) (f : Int) b)
def rcO (e f b m : Nat) : Ds := if m = 2 then faD e f b else if m = 3 then valD (e : Int) (f : Int) b else meA (valD (e : Int) (f : Int) b) (faD e f b)
def rci (b m : Nat) : Bool := if m = 2 then true else if m = 3 then decide (b = 0) else if m = 1 then true else decide (b % 2 = 0)
def rco (b m : Nat) : Bool := if m = 2 then false else if m = 3 then true else if m = 1 then false else decide (b % 2 = 0)
def Edg (I O : Ds) (i o : Bool) (w : World) (en : Ending) (w' : World) : Prop :=
 ∃ a1 n1 c1 a2 n2 c2, en = .returned (.tuple #[.agg #[.bool I.s, .slice a1 n1 c1, .int .i64 I.x, .bool O.s, .slice a2 n2 c2, .int .i64 O.x, .bool i, .bool o], .int .i64 0]) ∧ Fr 40 w' w.heap.size a1 n1 c1 (limbs I.N) ∧ Fr 40 w' w.heap.size a2 n2 c2 (limbs O.N) ∧ Below w.heap.size w w'
theorem mag_self {e f b : Nat} (hp : b < pw (e + f)) : mgN e f b = b := Nat.mod_eq_of_lt hp
theorem before_fin {e f b : Nat} (hp : b < pw (e + f)) (hx : exN e f b ≠ maskN e) : exN e f (b - 1) ≠ maskN e := by
 have h1 := fin_iff.1 hx
 rw [mag_self hp] at h1
 refine fin_iff.2 ?_
 rw [mag_self (by omega)]
 omega
theorem un_bd {e f b : Nat} (h : formE (e : Int) (f : Int) = 0) (_hx : exN e f b ≠ maskN e) : Dy false 1 (unI e f b) ∧ Bd 1 (unI e f b) (baseI e f) (f + 2 * biasN e) := by
 obtain ⟨q1, q2, q3, q4⟩ := formE_ok h
 obtain ⟨u1, u2⟩ := un_small (b := b) h
 have hm := mask_bias (e := e) (by omega)
 have hk := ex_mask e f b
 have hl : (limbs 1).length ≤ 16384 := by decide +kernel
 have hb0 : 1 ≤ biasN e := by
  unfold biasN
  have : 2 ^ 1 ≤ 2 ^ (e - 1) := Nat.pow_le_pow_right (by decide) (by omega)
  omega
 refine ⟨⟨fun h => absurd h (by decide), fun _ => rfl, by omega, by omega, hl⟩, ⟨fun _ => by unfold unI; omega, ?_⟩⟩
 unfold upW
 rw [Nat.one_mul]
 refine Nat.pow_lt_pow_right (by decide) ?_
 unfold unI
 omega
theorem reach_facts {e f b : Nat} (h : formE (e : Int) (f : Int) = 0) (hp : b < pw (e + f)) (hx : exN e f b ≠ maskN e) :
 (faD e f b).e = 0 ∧ Dy (faD e f b).s (faD e f b).N (faD e f b).x ∧ Bd (faD e f b).N (faD e f b).x (baseI e f) (f + 2 * biasN e + 1) ∧ Dy (bfD e f b).s (bfD e f b).N (bfD e f b).x ∧ Bd (bfD e f b).N (bfD e f b).x (baseI e f) (f + 2 * biasN e + 1) := by
 have hp1 : b < pw (1 + e + f) := by rw [pw_one_more]; omega
 obtain ⟨d1, g1⟩ := val_bd h hp1 hx
 obtain ⟨d2, g2⟩ := un_bd h hx
 obtain ⟨b1, b2, b3, b4⟩ := base_small h
 obtain ⟨e0, d3, g3⟩ := sum_bd d1 d2 g1 g2 (by omega) (by omega) (by omega) (faD e f b) rfl
 refine ⟨e0, d3, g3, ?_⟩
 unfold bfD
 by_cases h0 : b = 0
 · rw [if_pos h0]
   exact ⟨d1, g1.up (by omega)⟩
 · rw [if_neg h0]
   obtain ⟨d4, g4⟩ := val_bd h (show b - 1 < pw (1 + e + f) by omega) (before_fin hp hx)
   exact ⟨d4, g4.up (by omega)⟩
end
theorem take_snoc {L : List (Bool × Bool)} {k : Nat} (h : k < L.length) : L.take (k + 1) = L.take k ++ [L[k]] := by
 rw [List.take_add_one, List.getElem?_eq_getElem h]; rfl
structure FrT (e : TypeId) (w : World) (base top : Nat) (ao : Option Addr) (n c : Nat) (xs : List Nat) : Prop where
 fr : Fr e w base ao n c xs
 le : top ≤ w.heap.size
 lt : ∀ g, blkOf ao = some g → g < top
theorem frT {e : TypeId} {w : World} {base : Nat} {ao : Option Addr} {n c : Nat} {xs : List Nat} (h : Fr e w base ao n c xs) : FrT e w base w.heap.size ao n c xs := ⟨h, Nat.le_refl _, fun _ hg => (fr_lt h hg).2⟩
theorem FrT.slo {e : TypeId} {w w' : World} {base top : Nat} {ao : Option Addr} {n c : Nat} {xs : List Nat} (_ : FrT e w base top ao n c xs) (h : FrT e w' base top ao n c xs) : Sl w' ao n c xs := h.fr.sl
theorem FrT.below {e : TypeId} {w w' : World} {base top : Nat} {ao : Option Addr} {n c : Nat} {xs : List Nat} (h : FrT e w base top ao n c xs) (hb : Below w.heap.size w w') : FrT e w' base top ao n c xs := ⟨h.fr.below hb, Nat.le_trans h.le hb.size, h.lt⟩
theorem FrT.alloc {e : TypeId} {w : World} {base top : Nat} {ao : Option Addr} {n c : Nat} {xs : List Nat} (h : FrT e w base top ao n c xs) (o : Obj) : FrT e (w.alloc o) base top ao n c xs := h.below ((Below.refl _ _).alloc (Nat.le_refl _) o)
theorem FrT.drew {e : TypeId} {w : World} {base top : Nat} {ao : Option Addr} {n c : Nat} {xs : List Nat} (h : FrT e w base top ao n c xs) : FrT e w.drew base top ao n c xs := h.below (Below.refl _ _).drew
theorem FrT.setCell {e : TypeId} {w : World} {base top : Nat} {ao : Option Addr} {n c : Nat} {xs : List Nat} (h : FrT e w base top ao n c xs) {p : Addr} (hp : p.block < base ∨ top ≤ p.block) (v : Value) : FrT e (w.setCell p v) base top ao n c xs :=
 ⟨fr_at h.fr (by simp) fun g hg _ => Below.heap_setCell w p v g (by have := (fr_lt h.fr hg).1; have := h.lt g hg; omega), by simpa using h.le, h.lt⟩
end Go.Proofs.YtpmncmglmobjoaaGreatDoor
