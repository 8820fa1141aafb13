/-
  The walks of near.Steps; of the reference's Ulp.
-/
import Derived.Test.YtfjgmpfpadfknaaGreatDoorQbNMN33
set_option maxHeartbeats 2000000
set_option maxRecDepth 100000
namespace Go.Proofs.YtfjgmpfpadfknaaGreatDoor
open Go.RowKit Go.Lb
section
attribute [local go_sem] Go.World.cell?_alloc_some
theorem ulp6_any (e f : Int) (b : Nat) (w : World) (hb : b < 18446744073709551616) :
 Calls Tryz.prog 21 #[.agg #[.int .i64 e, .int .i64 f], .int .u64 (b : Int)] w (Dyn (ulD e f b) w) := by
 obtain ⟨W2, hW2⟩ : ∃ W2 : World, W2 = (w.alloc (.cells #[.int .i64 e, .int .i64 f] 23)).alloc (.cells #[.bool false, .slice none 0 0, .int .i64 0] 41) := ⟨_, rfl⟩
 have hb2 : Below w.heap.size w W2 := hW2 ▸ more (more (Below.refl _ _) _) _
 have f0 : W2.cell? ⟨w.heap.size, 0, none⟩ = some (.int .i64 e) := by rw [hW2]; simp
 have f1 : W2.cell? ⟨w.heap.size, 1, none⟩ = some (.int .i64 f) := by rw [hW2]; simp
 have R2 : Box3 W2 (w.heap.size + 1) (.bool false) (.slice none 0 0) (.int .i64 0) := by
  have := box3_new (w.alloc (.cells #[.int .i64 e, .int .i64 f] 23)) (.bool false) (.slice none 0 0) (.int .i64 0) 41
  rw [World.size_alloc] at this
  exact hW2 ▸ this
 have cF := fun W => refFits3_any e f b W hb
 have hfn : fnE e f [b] = if fitsE e f b ≠ 0 then fitsE e f b else if decide (exN e.toNat f.toNat b = maskN e.toNat) = true then 8 else 0 := by unfold fnE; rw [askL_one, anI_one]
 by_cases h1 : fitsE e f b = 0
 · obtain ⟨hf, hp⟩ := fitsE_parts h1
   obtain ⟨q1, q2, q3, q4⟩ := formE_ok hf
   obtain ⟨e, rfl⟩ := Int.eq_ofNat_of_zero_le (by omega : 0 ≤ e)
   obtain ⟨f, rfl⟩ := Int.eq_ofNat_of_zero_le (by omega : 0 ≤ f)
   replace hp : b < pw (1 + e + f) := hp
   rw [h1] at cF
   have cC := fun W => refFinite3_any e f b W hf hb hp
   have hfn2 : fnE (e : Int) (f : Int) [b] = if exN e f b = maskN e then 8 else 0 := by
    rw [hfn, if_neg (by simp [h1])]
    by_cases hx : exN e f b = maskN e
    · rw [if_pos hx]; exact if_pos (decide_eq_true hx)
    · rw [if_neg hx]; exact if_neg (by simpa using hx)
   by_cases hx : exN e f b = maskN e
   · rw [if_pos hx] at hfn2
     have hD : ulD (e : Int) (f : Int) b = noA 8 := by unfold ulD; rw [if_neg (by rw [hfn2]; decide), hfn2]
     rw [hD]
     rw [decide_eq_false (fun hh => hh hx)] at cC
     clear hD hfn hfn2 hx
     go_enter Tryz.func21, Tryz.ntmps21
     go_upto_region 1 with fail
     rw [← hW2]
     clear hW2
     go_wp2_with (first
      | (go_at_call 54; refine (cF _).mono ?_; rintro en w3 ⟨rfl, hb3⟩; have V3 := next hb2 hb3; have g0 := cellStay f0 hb3; have g1 := cellStay f1 hb3)
      | (go_at_call 55; refine (cC _).mono ?_; rintro en w4 ⟨rfl, hb4⟩; have hs := next hb3 hb4; have V4 := next hb2 hs; have R4 := R2.stay hs; have ⟨r0, r1, r2, rz0, rz1, rz2⟩ := R4))
     obtain ⟨t0, t1, t2⟩ := R4.set (.bool false) (.slice none 0 0) (.int .i64 0)
     refine bodyPost_ret (v := .tuple #[.agg #[.bool false, .slice none 0 0, .int .i64 0], .int .i64 8]) (by simp [results, Tryz.results21, go_sem, t0, t1, t2]) rfl (dyn_no (((V4.setCell (by simp) _).setCell (by simp) _).setCell (by simp) _))
   · rw [if_neg hx] at hfn2
     have hD : ulD (e : Int) (f : Int) b = ⟨false, 1, unI e f b, 0⟩ := if_pos hfn2
     rw [hD]
     rw [decide_eq_true hx] at cC
     have cU := fun W => unit6_any e f b W hf hb hp
     obtain ⟨u1, u2⟩ := un_small (b := b) hf
     have cP := fun W => power6_any false (unI e f b) W (by omega) (by omega)
     generalize unI e f b = U at *
     clear hD hfn hfn2 hx u1 u2 q1 q2 q3 q4 hp hf h1
     have hl : w.heap.size + 1 < W2.heap.size := World.block_lt_of_cell? W2 ⟨w.heap.size + 1, 0, none⟩ R2.c0
     go_enter Tryz.func21, Tryz.ntmps21
     go_upto_region 1 with fail
     rw [← hW2]
     clear hW2
     go_wp2_with (first
      | (go_at_call 54; refine (cF _).mono ?_; rintro en w3 ⟨rfl, hb3⟩; have V3 := next hb2 hb3; have g0 := cellStay f0 hb3; have g1 := cellStay f1 hb3)
      | (go_at_call 55; refine (cC _).mono ?_; rintro en w4 ⟨rfl, hb4⟩; have hs4 := next hb3 hb4; have k0 := cellStay f0 hs4; have k1 := cellStay f1 hs4)
      | (go_at_call 71; refine (cU _).mono ?_; rintro en w5 ⟨rfl, hb5⟩; have hs5 := next hs4 hb5)
      | (go_at_call 70; refine (cP _).mono ?_; rintro en w6 ⟨ma, mk, mc, rfl, mF, hb6⟩; have hs6 := next hs5 hb6; have V6 := next hb2 hs6; have R6 := R2.stay hs6; have ⟨r0, r1, r2, rz0, rz1, rz2⟩ := R6))
     obtain ⟨t0, t1, t2⟩ := R6.set (.bool false) (.slice ma mk mc) (.int .i64 U)
     refine bodyPost_ret (v := .tuple #[.agg #[.bool false, .slice ma mk mc, .int .i64 U], .int .i64 0]) (by simp [results, Tryz.results21, go_sem, t0, t1, t2]) rfl ⟨ma, mk, mc, rfl, ?_, ((V6.setCell (by simp) _).setCell (by simp) _).setCell (by simp) _⟩
     exact ((((mF.mono hs5.size).setCell (by simpa using hl) _).setCell (by simpa using hl) _).setCell (by simpa using hl) _).mono (by omega)
 · rw [if_pos h1] at hfn
   have hD : ulD e f b = noA (fitsE e f b) := by unfold ulD; rw [hfn, if_neg h1]
   rw [hD]
   have hB : (fitsE e f b != 0) = true := by simp [h1]
   clear hD hfn
   generalize fitsE e f b = E at *
   go_enter Tryz.func21, Tryz.ntmps21
   go_upto_region 1 with fail
   rw [← hW2]
   clear hW2
   go_wp2_with (go_at_call 54; refine (cF _).mono ?_; rintro en w3 ⟨rfl, hb3⟩; have V3 := next hb2 hb3; have R3 := R2.stay hb3; have ⟨r0, r1, r2, rz0, rz1, rz2⟩ := R3)
   obtain ⟨t0, t1, t2⟩ := R3.set (.bool false) (.slice none 0 0) (.int .i64 0)
   refine bodyPost_ret (v := .tuple #[.agg #[.bool false, .slice none 0 0, .int .i64 0], .int .i64 E]) (by simp [results, Tryz.results21, go_sem, t0, t1, t2]) rfl (dyn_no (((V3.setCell (by simp) _).setCell (by simp) _).setCell (by simp) _))
def stE (e f : Int) (a b : Nat) : Int := if twoE e f a b ≠ 0 then twoE e f a b else if (nanB e.toNat f.toNat a || nanB e.toNat f.toNat b) = true then 2 else 0
def stD (e f a b : Nat) : Bool := decide (IntKind.i64.wrap (plN e f b : Int) < IntKind.i64.wrap (plN e f a : Int))
def stI (e f a b : Nat) : Int := if stD e f a b = true then IntKind.u64.wrap ((plN e f a : Int) - (plN e f b : Int)) else IntKind.u64.wrap ((plN e f b : Int) - (plN e f a : Int))
theorem two_cells {pl a b : Nat} (ha : a < 18446744073709551616) (hb : b < 18446744073709551616) {W : World} (c0 : W.cell? ⟨pl, 0, none⟩ = some (.int .u64 (a : Int))) (c1 : W.cell? ⟨pl, 1, none⟩ = some (.int .u64 (b : Int))) : ∀ j, (h : j < [a, b].length) → [a, b][j] < 18446744073709551616 ∧ W.cell? ⟨pl, j, none⟩ = some (.int .u64 ([a, b][j] : Nat)) := by
 intro j hj
 match j, hj with
 | 0, _ => exact ⟨ha, c0⟩
 | 1, _ => exact ⟨hb, c1⟩
theorem anN_two (e f a b : Nat) : anN e f [a, b] = (nanB e f a || nanB e f b) := by unfold anN; simp
theorem nearSteps_ok (e f a b : Nat) (w : World) (h : stE (e : Int) (f : Int) a b = 0) (ha : a < 18446744073709551616) (hb : b < 18446744073709551616) :
 Calls Tryz.prog 26 #[.agg #[.int .i64 (e : Int), .int .i64 (f : Int)], .int .u64 (a : Int), .int .u64 (b : Int)] w fun en w' => en = .returned (.tuple #[.bool (stD e f a b), .int .u64 (stI e f a b), .int .i64 0]) ∧ Below w.heap.size w w' := by
 have cN := fun W hv => nearNumber_any (w.heap.size + 1) (e : Int) (f : Int) [a, b] W (by simp) (by simp) hv
 rw [askL_two, anN_two] at cN
 have h0 : twoE (e : Int) (f : Int) a b = 0 := by
  by_cases h0 : twoE (e : Int) (f : Int) a b = 0
  · exact h0
  · unfold stE at h
    rw [if_pos h0] at h
    exact absurd h h0
 have hn : (nanB e f a || nanB e f b) = false := by
  unfold stE at h
  rw [if_neg (by simp [h0])] at h
  cases hh : (nanB e f a || nanB e f b)
  · rfl
  · have : (if (nanB (e : Int).toNat (f : Int).toNat a || nanB (e : Int).toNat (f : Int).toNat b) = true then (2 : Int) else 0) = 2 := if_pos hh
    rw [this] at h
    cases h
 replace cN : ∀ W, (∀ j, (h : j < [a, b].length) → [a, b][j] < 18446744073709551616 ∧ W.cell? ⟨w.heap.size + 1, j, none⟩ = some (.int .u64 ([a, b][j] : Nat))) → Calls Tryz.prog 47 #[.agg #[.int .i64 (e : Int), .int .i64 (f : Int)], .slice (some ⟨w.heap.size + 1, 0, none⟩) 2 2] W fun en w' => en = .returned (.tuple #[.int .i64 (twoE (e : Int) (f : Int) a b), .bool (decide (twoE (e : Int) (f : Int) a b = 0) && !(nanB e f a || nanB e f b))]) ∧ Below W.heap.size W w' := cN
 rw [h0, hn] at cN
 obtain ⟨p1, p2⟩ := twoE_ok h0
 have hf := (fitsE_parts p1).1
 have l1 : a < pw (1 + e + f) := (fitsE_parts p1).2
 have l2 : b < pw (1 + e + f) := (fitsE_parts p2).2
 have cP := fun W => nearPlace_any e f a W hf l1
 have cQ := fun W => nearPlace_any e f b W hf l2
 have hS : stI e f a b = if stD e f a b = true then IntKind.u64.wrap ((plN e f a : Int) - (plN e f b : Int)) else IntKind.u64.wrap ((plN e f b : Int) - (plN e f a : Int)) := rfl
 have hD : stD e f a b = decide (IntKind.i64.wrap (plN e f b : Int) < IntKind.i64.wrap (plN e f a : Int)) := rfl
 have HS := Lib.hid hS
 have HD := Lib.hid hD
 clear hS hD h h0 hn p1 p2 hf l1 l2
 generalize stI e f a b = I at *
 generalize stD e f a b = D at *
 generalize plN e f a = x at *
 generalize plN e f b = y at *
 have A0 := (box2_new w (.int .i64 (e : Int)) (.int .i64 (f : Int)) 23).alloc (.cells #[.int .u64 (a : Int), .int .u64 (b : Int)] 24)
 have hW0 := more (more (Below.refl w.heap.size w) (.cells #[.int .i64 (e : Int), .int .i64 (f : Int)] 23)) (.cells #[.int .u64 (a : Int), .int .u64 (b : Int)] 24)
 go_enter Tryz.func26, Tryz.ntmps26
 go_upto_region 1 with fail
 go_wp2_with fail
 refine (cN _ (two_cells ha hb (by simp) (by simp))).mono ?_
 rintro en w1 ⟨rfl, hb1⟩
 have A1 := A0.stay hb1
 have ⟨a0, a1⟩ := A1
 have hW1 := next hW0 hb1
 clear A0 hW0 hb1
 go_upto_region 6 with fail
 have hbb := Below.refl w1.heap.size w1
 go_region_held3 (fun w' => w'.cell? ⟨w.heap.size, 0, none⟩ = some (.int .i64 (e : Int)) ∧ w'.cell? ⟨w.heap.size, 1, none⟩ = some (.int .i64 (f : Int)) ∧ Below w1.heap.size w1 w')
  ((go_split_ands; refine ⟨?_, ?_, ?_⟩ <;> (first | assumption | exact Below.drew (by assumption) | exact cellStay (by assumption) hbX | exact next (by assumption) hbX | (go_keep; done))))
  (first | (go_at_call 77; (with_reducible refine (cP _).mono ?_); rintro en wX ⟨rfl, hbX⟩) | (go_at_call 77; (with_reducible refine (cQ _).mono ?_); rintro en wX ⟨rfl, hbX⟩))
 all_goals go_split_ands
 all_goals
  cases D
  · have h1 := HD.out
    have h2 : ¬ (wrap64 (y : Int) < wrap64 (x : Int)) := by have := of_decide_eq_false h1.symm; rwa [IntWalk.i64_left, IntWalk.i64_left] at this
    have h3 := HS.out
    rw [if_neg (by decide)] at h3
    subst h3
    clear HD HS h1
    go_wp2
    refine bodyPost_ret (v := .tuple #[.bool false, .int .u64 (IntKind.u64.wrap ((y : Int) - (x : Int))), .int .i64 0]) (by simp [results, Tryz.results26, go_sem]) rfl ⟨rfl, next hW1 (by assumption)⟩
  · have h1 := HD.out
    have h2 : wrap64 (y : Int) < wrap64 (x : Int) := by have := of_decide_eq_true h1.symm; rwa [IntWalk.i64_left, IntWalk.i64_left] at this
    have h3 := HS.out
    rw [if_pos rfl] at h3
    subst h3
    clear HD HS h1
    go_wp2
    refine bodyPost_ret (v := .tuple #[.bool true, .int .u64 (IntKind.u64.wrap ((x : Int) - (y : Int))), .int .i64 0]) (by simp [results, Tryz.results26, go_sem]) rfl ⟨rfl, next hW1 (by assumption)⟩
end
section
attribute [local go_sem] Go.World.cell?_alloc_some
def meA (p q : Ds) : Ds := mkA (addA p.s (limbs p.N) p.x q.s (limbs q.N) q.x).s (addA p.s (limbs p.N) p.x q.s (limbs q.N) q.x).N ((addA p.s (limbs p.N) p.x q.s (limbs q.N) q.x).x - 1)
theorem me_bd {p q : Ds} {b : Int} {K : Nat} (h1 : Dy p.s p.N p.x) (h2 : Dy q.s q.N q.x) (g1 : Bd p.N p.x b K) (g2 : Bd q.N q.x b K) (hK : K ≤ 100000) (hb1 : -100000 ≤ b) (hb2 : b ≤ 100000) :
 (addA p.s (limbs p.N) p.x q.s (limbs q.N) q.x).e = 0 ∧ -300000 ≤ (addA p.s (limbs p.N) p.x q.s (limbs q.N) q.x).x ∧ (addA p.s (limbs p.N) p.x q.s (limbs q.N) q.x).x ≤ 300000 ∧ (meA p q).e = 0 ∧ Dy (meA p q).s (meA p q).N (meA p q).x ∧ Bd (meA p q).N (meA p q).x (b - 1) (K + 1) := by
 obtain ⟨e0, d0, b0⟩ := sum_bd h1 h2 g1 g2 (by omega) (by omega) (by omega) _ rfl
 obtain ⟨l1, x1, x2⟩ := b0.small d0 (j := K + 1) (by omega)
 have hlow : (addA p.s (limbs p.N) p.x q.s (limbs q.N) q.x).N ≠ 0 → b - 1 ≤ (addA p.s (limbs p.N) p.x q.s (limbs q.N) q.x).x - 1 := fun h => by have := b0.low h; omega
 have hup : upW (addA p.s (limbs p.N) p.x q.s (limbs q.N) q.x).N ((addA p.s (limbs p.N) p.x q.s (limbs q.N) q.x).x - 1) (b - 1) = upW (addA p.s (limbs p.N) p.x q.s (limbs q.N) q.x).N (addA p.s (limbs p.N) p.x q.s (limbs q.N) q.x).x b := by
  unfold upW
  congr 2
  omega
 have e1 : (meA p q).e = 0 := by
  unfold meA
  by_cases h0 : (addA p.s (limbs p.N) p.x q.s (limbs q.N) q.x).N = 0
  · rw [h0, mkA_zero]; rfl
  · exact (mkA_ok (hlow h0) (by rw [hup]; exact b0.top) (by omega) (by omega) (by omega)).2
 have l2 : (limbs (addA p.s (limbs p.N) p.x q.s (limbs q.N) q.x).N).length ≤ 16384 := d0.len
 have hw := mkA_worth (s := (addA p.s (limbs p.N) p.x q.s (limbs q.N) q.x).s) l2 hlow e1
 refine ⟨e0, by omega, by omega, e1, hw.dy, hw.bd ?_⟩
 rw [wI_abs, hup]
 exact b0.top
theorem nearMean_any (p q : Ds) (a1 a2 : Option Addr) (n1 n2 c1 c2 : Nat) (w : World) (h1 : Sl w a1 n1 c1 (limbs p.N)) (h2 : Sl w a2 n2 c2 (limbs q.N)) (hT : Tab w) (he : (addA p.s (limbs p.N) p.x q.s (limbs q.N) q.x).e = 0) (x1 : -300000 ≤ (addA p.s (limbs p.N) p.x q.s (limbs q.N) q.x).x) (x2 : (addA p.s (limbs p.N) p.x q.s (limbs q.N) q.x).x ≤ 300000) :
 Calls Tryz.prog 82 #[.agg #[.bool p.s, .slice a1 n1 c1, .int .i64 p.x], .agg #[.bool q.s, .slice a2 n2 c2, .int .i64 q.x]] w (Dyn (meA p q) w) := by
 have kA : ∀ W, Below w.heap.size w W → Calls Tryz.prog 103 #[.agg #[.bool p.s, .slice a1 n1 c1, .int .i64 p.x], .agg #[.bool q.s, .slice a2 n2 c2, .int .i64 q.x]] W (Dyn (addA p.s (limbs p.N) p.x q.s (limbs q.N) q.x) W) := fun W hW => exAdd_any p.s q.s a1 a2 n1 n2 c1 c2 p.x q.x _ _ W (h1.below hW) (h2.below hW) (hT.below hW)
 have hM : ∀ D : Ds, mkA D.s D.N (D.x - 1) = ⟨mkS D.s (limbs D.N) (D.x - 1), mkN (limbs D.N) (D.x - 1), mkX (limbs D.N) (D.x - 1), mkE (limbs D.N) (D.x - 1)⟩ := fun D => rfl
 unfold meA
 rw [hM]
 generalize addA p.s (limbs p.N) p.x q.s (limbs q.N) q.x = D at *
 have hw1 : IntKind.i64.wrap (D.x - 1) = D.x - 1 := by rw [IntKind.wrap_i64]; omega
 have kM := fun ao n c W (j : Sl W ao n c (limbs D.N)) hT => exMake_any D.s ao n c (limbs D.N) (D.x - 1) W j hT
 unfold Made at kM
 generalize mkS D.s (limbs D.N) (D.x - 1) = rs at *
 generalize mkX (limbs D.N) (D.x - 1) = rx at *
 generalize mkE (limbs D.N) (D.x - 1) = re at *
 generalize mkN (limbs D.N) (D.x - 1) = rn at *
 obtain ⟨W3, hW3⟩ : ∃ W3 : World, W3 = ((w.alloc (.cells #[.bool p.s, .slice a1 n1 c1, .int .i64 p.x] 41)).alloc (.cells #[.bool q.s, .slice a2 n2 c2, .int .i64 q.x] 41)).alloc (.cells #[.bool false, .slice none 0 0, .int .i64 0] 41) := ⟨_, rfl⟩
 have hb3 : Below w.heap.size w W3 := hW3 ▸ more (more (more (Below.refl _ _) _) _) _
 have A3 : Box3 W3 w.heap.size (.bool p.s) (.slice a1 n1 c1) (.int .i64 p.x) := hW3 ▸ ((box3_new w _ _ _ _).alloc _).alloc _
 have B3 : Box3 W3 (w.heap.size + 1) (.bool q.s) (.slice a2 n2 c2) (.int .i64 q.x) := by
  have := (box3_new (w.alloc (.cells #[.bool p.s, .slice a1 n1 c1, .int .i64 p.x] 41)) (.bool q.s) (.slice a2 n2 c2) (.int .i64 q.x) 41).alloc (.cells #[.bool false, .slice none 0 0, .int .i64 0] 41)
  rw [World.size_alloc] at this
  exact hW3 ▸ this
 have R3 : Box3 W3 (w.heap.size + 2) (.bool false) (.slice none 0 0) (.int .i64 0) := by
  have := box3_new ((w.alloc (.cells #[.bool p.s, .slice a1 n1 c1, .int .i64 p.x] 41)).alloc (.cells #[.bool q.s, .slice a2 n2 c2, .int .i64 q.x] 41)) (.bool false) (.slice none 0 0) (.int .i64 0) 41
  rw [World.size_alloc, World.size_alloc] at this
  exact hW3 ▸ this
 have hT3 := hT.below hb3
 have hl : w.heap.size + 2 < W3.heap.size := World.block_lt_of_cell? W3 ⟨w.heap.size + 2, 0, none⟩ R3.c0
 have ⟨x0, x1', x2', _, _, _⟩ := A3
 have ⟨y0, y1, y2, _, _, _⟩ := B3
 clear h1 h2 hT hM x1 x2
 go_enter Tryz.func82, Tryz.ntmps82
 go_upto_region 1 with fail
 rw [← hW3]
 clear hW3
 go_wp2_with fail
 refine (kA W3 hb3).mono ?_
 rintro en wA ⟨da, dk, dc, rfl, dF, hbA⟩
 rw [he]
 have hs := more hbA (.cells #[.bool D.s, .slice da dk dc, .int .i64 D.x] 41)
 have V4 := next hb3 hs
 have R4 := R3.stay hs
 have hT4 := hT3.below hs
 have dN := box3_new wA (.bool D.s) (.slice da dk dc) (.int .i64 D.x) 41
 have dG := (dF.alloc (.cells #[.bool D.s, .slice da dk dc, .int .i64 D.x] 41)).sl
 have hl4 : W3.heap.size ≤ (wA.alloc (.cells #[.bool D.s, .slice da dk dc, .int .i64 D.x] 41)).heap.size := hs.size
 clear x0 x1' x2' y0 y1 y2 A3 B3 R3 hT3 hs hbA dF kA
 go_upto_region 2 with fail
 obtain ⟨dZ, hZ⟩ : ∃ q, q = wA.heap.size := ⟨_, rfl⟩
 rw [← hZ] at dN ⊢
 clear hZ
 generalize wA.alloc (.cells #[.bool D.s, .slice da dk dc, .int .i64 D.x] 41) = w4 at *
 have ⟨d0, d1, d2, _, _, _⟩ := dN
 go_wp2_with fail
 refine (kM _ _ _ w4 dG hT4).mono ?_
 rintro en w5 ⟨ma, mk, mc, rfl, mF, hb5⟩
 have R5 := R4.stay hb5
 have V5 := next V4 hb5
 have ⟨r0, r1, r2, _, _, _⟩ := R5
 obtain ⟨t0, t1, t2⟩ := R5.set (.bool rs) (.slice ma mk mc) (.int .i64 rx)
 go_wp2
 refine bodyPost_ret (v := .tuple #[.agg #[.bool rs, .slice ma mk mc, .int .i64 rx], .int .i64 re]) (by simp [results, Tryz.results82, go_sem, t0, t1, t2]) rfl ⟨ma, mk, mc, rfl, ?_, ((V5.setCell (by simp; omega) _).setCell (by simp; omega) _).setCell (by simp; omega) _⟩
 exact ((((mF.setCell (by simp; omega) _).setCell (by simp; omega) _).setCell (by simp; omega) _).mono (by omega))
def seM (m : Nat) (neg : Bool) : Nat := if m = 3 ∧ neg = true ∨ m = 4 ∧ neg = false then 2 else if m = 4 then 3 else m
theorem nearSeen_any (m : Nat) (neg : Bool) (w : World) (hm : m < 5) :
 Calls Tryz.prog 51 #[.int .u8 (m : Int), .bool neg] w fun en w' => en = .returned (.int .u8 (seM m neg : Int)) ∧ w = w' := by
 have hmm : m = 0 ∨ m = 1 ∨ m = 2 ∨ m = 3 ∨ m = 4 := by omega
 rcases hmm with rfl | rfl | rfl | rfl | rfl <;> cases neg
 all_goals
  go_enter Tryz.func51, Tryz.ntmps51
  go_wp2
  go_ret
  exact ⟨rfl, rfl⟩
end
section
attribute [local go_sem] Go.World.cell?_alloc_some
structure Box8 (w : World) (b : Nat) (v0 v1 v2 v3 v4 v5 v6 v7 : Value) : Prop where
 a : Box3 w b v0 v1 v2
 c3 : w.cell? ⟨b, 3, none⟩ = some v3
 c4 : w.cell? ⟨b, 4, none⟩ = some v4
 c5 : w.cell? ⟨b, 5, none⟩ = some v5
 c6 : w.cell? ⟨b, 6, none⟩ = some v6
 c7 : w.cell? ⟨b, 7, none⟩ = some v7
 z3 : w.frozen? ⟨b, 3, none⟩ = false
 z4 : w.frozen? ⟨b, 4, none⟩ = false
 z5 : w.frozen? ⟨b, 5, none⟩ = false
 z6 : w.frozen? ⟨b, 6, none⟩ = false
 z7 : w.frozen? ⟨b, 7, none⟩ = false
theorem Box8.stay {wp w' : World} {b : Nat} {v0 v1 v2 v3 v4 v5 v6 v7 : Value} (h : Box8 wp b v0 v1 v2 v3 v4 v5 v6 v7) (k : Below wp.heap.size wp w') : Box8 w' b v0 v1 v2 v3 v4 v5 v6 v7 :=
 ⟨h.a.stay k, (cfStay ⟨h.c3, h.z3⟩ k).1, (cfStay ⟨h.c4, h.z4⟩ k).1, (cfStay ⟨h.c5, h.z5⟩ k).1, (cfStay ⟨h.c6, h.z6⟩ k).1, (cfStay ⟨h.c7, h.z7⟩ k).1,
  (cfStay ⟨h.c3, h.z3⟩ k).2, (cfStay ⟨h.c4, h.z4⟩ k).2, (cfStay ⟨h.c5, h.z5⟩ k).2, (cfStay ⟨h.c6, h.z6⟩ k).2, (cfStay ⟨h.c7, h.z7⟩ k).2⟩
theorem box8_new (w : World) (v0 v1 v2 v3 v4 v5 v6 v7 : Value) (t : TypeId) : Box8 (w.alloc (.cells #[v0, v1, v2, v3, v4, v5, v6, v7] t)) w.heap.size v0 v1 v2 v3 v4 v5 v6 v7 :=
 ⟨⟨by simp, by simp, by simp, by simp [go_sem], by simp [go_sem], by simp [go_sem]⟩, by simp, by simp, by simp, by simp, by simp, by simp [go_sem], by simp [go_sem], by simp [go_sem], by simp [go_sem], by simp [go_sem]⟩
def set8 (w : World) (b : Nat) (u0 u1 u2 u3 u4 u5 u6 u7 : Value) : World := (((((((w.setCell ⟨b, 0, none⟩ u0).setCell ⟨b, 1, none⟩ u1).setCell ⟨b, 2, none⟩ u2).setCell ⟨b, 3, none⟩ u3).setCell ⟨b, 4, none⟩ u4).setCell ⟨b, 5, none⟩ u5).setCell ⟨b, 6, none⟩ u6).setCell ⟨b, 7, none⟩ u7
theorem Box8.set {w : World} {b : Nat} {v0 v1 v2 v3 v4 v5 v6 v7 : Value} (h : Box8 w b v0 v1 v2 v3 v4 v5 v6 v7) (u0 u1 u2 u3 u4 u5 u6 u7 : Value) :
 (set8 w b u0 u1 u2 u3 u4 u5 u6 u7).cell? ⟨b, 0, none⟩ = some u0 ∧ (set8 w b u0 u1 u2 u3 u4 u5 u6 u7).cell? ⟨b, 1, none⟩ = some u1 ∧ (set8 w b u0 u1 u2 u3 u4 u5 u6 u7).cell? ⟨b, 2, none⟩ = some u2 ∧ (set8 w b u0 u1 u2 u3 u4 u5 u6 u7).cell? ⟨b, 3, none⟩ = some u3 ∧ (set8 w b u0 u1 u2 u3 u4 u5 u6 u7).cell? ⟨b, 4, none⟩ = some u4 ∧ (set8 w b u0 u1 u2 u3 u4 u5 u6 u7).cell? ⟨b, 5, none⟩ = some u5 ∧ (set8 w b u0 u1 u2 u3 u4 u5 u6 u7).cell? ⟨b, 6, none⟩ = some u6 ∧ (set8 w b u0 u1 u2 u3 u4 u5 u6 u7).cell? ⟨b, 7, none⟩ = some u7 := by
 obtain ⟨⟨h0, h1, h2, _, _, _⟩, h3, h4, h5, h6, h7, _, _, _, _, _⟩ := h
 unfold set8
 refine ⟨?_, ?_, ?_, ?_, ?_, ?_, ?_, ?_⟩
 all_goals simp [World.cell?_setCell_other, cell_same, h0, h1, h2, h3, h4, h5, h6, h7]
theorem set8_below {w wp : World} {N b : Nat} (h : Below N w wp) (hb : N ≤ b) (u0 u1 u2 u3 u4 u5 u6 u7 : Value) : Below N w (set8 wp b u0 u1 u2 u3 u4 u5 u6 u7) :=
 (((((((h.setCell hb _).setCell hb _).setCell hb _).setCell hb _).setCell hb _).setCell hb _).setCell hb _).setCell hb _
theorem set8_fr {e : TypeId} {w : World} {base b : Nat} {ao : Option Addr} {n c : Nat} {xs : List Nat} (h : Fr e w base ao n c xs) (hb : b < base) (u0 u1 u2 u3 u4 u5 u6 u7 : Value) : Fr e (set8 w b u0 u1 u2 u3 u4 u5 u6 u7) base ao n c xs :=
 (((((((h.setCell hb _).setCell hb _).setCell hb _).setCell hb _).setCell hb _).setCell hb _).setCell hb _).setCell hb _
def spD (e f b : Nat) : Ds := ⟨false, 1, unI e f b, 0⟩
def faD (e f b : Nat) : Ds := addA (valS (e : Int) (f : Int) b) (limbs (valN (e : Int) (f : Int) b)) (valX (e : Int) (f : Int) b) false (limbs 1) (unI e f b)
def bfD (e f b : Nat) : Ds := if b = 0 then valD (e : Int) (f : Int) b else valD (e : Int) (f : Int) (b - 1)
def rcI (e f b m : Nat) : Ds := if m = 2 then valD (e : Int) (f : Int) b else if m = 3 then bfD e f b else meA (bfD e f b) (valD (e : Int) (f : Int) b)
def rcO (e f b m : Nat) : Ds := if m = 2 then faD e f b else if m = 3 then valD (e : Int) (f : Int) b else meA (valD (e : Int) (f : Int) b) (faD e f b)
def rci (b m : Nat) : Bool := if m = 2 then true else if m = 3 then decide (b = 0) else if m = 1 then true else decide (b % 2 = 0)
def rco (b m : Nat) : Bool := if m = 2 then false else if m = 3 then true else if m = 1 then false else decide (b % 2 = 0)
def Edg (I O : Ds) (i o : Bool) (w : World) (en : Ending) (w' : World) : Prop :=
 ∃ a1 n1 c1 a2 n2 c2, en = .returned (.tuple #[.agg #[.bool I.s, .slice a1 n1 c1, .int .i64 I.x, .bool O.s, .slice a2 n2 c2, .int .i64 O.x, .bool i, .bool o], .int .i64 0]) ∧ Fr 75 w' w.heap.size a1 n1 c1 (limbs I.N) ∧ Fr 75 w' w.heap.size a2 n2 c2 (limbs O.N) ∧ Below w.heap.size w w'
theorem mag_self {e f b : Nat} (hp : b < pw (e + f)) : mgN e f b = b := Nat.mod_eq_of_lt hp
theorem before_fin {e f b : Nat} (hp : b < pw (e + f)) (hx : exN e f b ≠ maskN e) : exN e f (b - 1) ≠ maskN e := by
 have h1 := fin_iff.1 hx
 rw [mag_self hp] at h1
 refine fin_iff.2 ?_
 rw [mag_self (by omega)]
 omega
theorem un_bd {e f b : Nat} (h : formE (e : Int) (f : Int) = 0) (_hx : exN e f b ≠ maskN e) : Dy false 1 (unI e f b) ∧ Bd 1 (unI e f b) (baseI e f) (f + 2 * biasN e) := by
 obtain ⟨q1, q2, q3, q4⟩ := formE_ok h
 obtain ⟨u1, u2⟩ := un_small (b := b) h
 have hm := mask_bias (e := e) (by omega)
 have hk := ex_mask e f b
 have hl : (limbs 1).length ≤ 16384 := by decide +kernel
 have hb0 : 1 ≤ biasN e := by
  unfold biasN
  have : 2 ^ 1 ≤ 2 ^ (e - 1) := Nat.pow_le_pow_right (by decide) (by omega)
  omega
 refine ⟨⟨fun h => absurd h (by decide), fun _ => rfl, by omega, by omega, hl⟩, ⟨fun _ => by unfold unI; omega, ?_⟩⟩
 unfold upW
 rw [Nat.one_mul]
 refine Nat.pow_lt_pow_right (by decide) ?_
 unfold unI
 omega
theorem reach_facts {e f b : Nat} (h : formE (e : Int) (f : Int) = 0) (hp : b < pw (e + f)) (hx : exN e f b ≠ maskN e) :
 (faD e f b).e = 0 ∧ Dy (faD e f b).s (faD e f b).N (faD e f b).x ∧ Bd (faD e f b).N (faD e f b).x (baseI e f) (f + 2 * biasN e + 1) ∧ Dy (bfD e f b).s (bfD e f b).N (bfD e f b).x ∧ Bd (bfD e f b).N (bfD e f b).x (baseI e f) (f + 2 * biasN e + 1) := by
 have hp1 : b < pw (1 + e + f) := by rw [pw_one_more]; omega
 obtain ⟨d1, g1⟩ := val_bd h hp1 hx
 obtain ⟨d2, g2⟩ := un_bd h hx
 obtain ⟨b1, b2, b3, b4⟩ := base_small h
 obtain ⟨e0, d3, g3⟩ := sum_bd d1 d2 g1 g2 (by omega) (by omega) (by omega) (faD e f b) rfl
 refine ⟨e0, d3, g3, ?_⟩
 unfold bfD
 by_cases h0 : b = 0
 · rw [if_pos h0]
   exact ⟨d1, g1.up (by omega)⟩
 · rw [if_neg h0]
   obtain ⟨d4, g4⟩ := val_bd h (show b - 1 < pw (1 + e + f) by omega) (before_fin hp hx)
   exact ⟨d4, g4.up (by omega)⟩
end
end Go.Proofs.YtfjgmpfpadfknaaGreatDoor
