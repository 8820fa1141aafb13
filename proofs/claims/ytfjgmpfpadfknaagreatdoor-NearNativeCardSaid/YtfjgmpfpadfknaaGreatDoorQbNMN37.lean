/-
  Plain: the fraction of a dyadic within bounds.
-/
import Derived.Test.YtfjgmpfpadfknaaGreatDoorQbNMN34
set_option maxHeartbeats 3000000
set_option maxRecDepth 100000
namespace Go.Proofs.YtfjgmpfpadfknaaGreatDoor
open Go.RowKit Go.Lb
section
set_option exponentiation.threshold 5000
theorem chk_lm6 {N : Nat} (h : (limbs N).length ≤ 16384) : chk (limbs N) = 0 := by
 unfold chk
 rw [if_neg (by omega), if_neg]
 rintro ⟨h1, h2⟩
 exact fine_top (fine_limbs N) (by omega) h2
theorem dchk6 {s : Bool} {N : Nat} {x : Int} (h : Dy s N x) : dchk s (limbs N) x = 0 := by
 unfold dchk
 have hc : chk (limbs N) = 0 := chk_lm6 h.len
 rw [if_neg (fun hh => hh hc)]
 by_cases h0 : N = 0
 · obtain ⟨h1, h2⟩ := h.zero h0
   subst h0
   rw [if_pos (by rw [limbs_zero]; rfl), if_neg (by rw [h1, h2]; decide)]
 · have ho := h.odd h0
   have hl : ¬ (limbs N).length = 0 := by rw [limbs_pos h0]; simp
   rw [if_neg hl, if_neg]
   rintro (h3 | h3)
   · have := (limbs_odd N)
     rcases this with ⟨h4, _⟩ | ⟨_, h4⟩
     · exact hl h4
     · omega
   · have h5 := of_decide_eq_true h3
     have := h.lo
     have := h.hi
     omega
theorem ra_up6 (n : Nat) (X : Int) : raN (limbs n) X = upN n X ∧ raD X = upD X := by
 unfold raN raD upN upD
 rw [val_limbs', show (max 0 X).toNat = X.toNat by omega, show (max 0 (-X)).toNat = (-X).toNat by omega]
 exact ⟨rfl, rfl⟩
theorem big6 {N K : Nat} (h : N < 2 ^ K) (hK : K ≤ 4000) : bigE N = 0 := by
 refine (bigE_ok (Nat.le_trans (limbs_length_le (k := 125) (Nat.lt_of_lt_of_le h ?_)) (by decide))).1
 rw [show (4294967296 : Nat) = 2 ^ 32 by decide, ← Nat.pow_mul]
 exact Nat.pow_le_pow_right (by decide) hK
theorem rat6 {s : Bool} {N : Nat} {X b : Int} {K : Nat} (h : Dy s N X) (g : Bd N X b K) (hb : -2000 ≤ b) (hb0 : b ≤ 0) (hK : K ≤ 4000) (w : World) : RatA s (limbs N) X w = Rtn s (upN N X) (upD X) 0 w := by
 obtain ⟨e1, e2⟩ := ra_up6 N X
 have hd := dchk6 h
 have u1 : upN N X < 2 ^ K := by
  refine Nat.lt_of_le_of_lt ?_ g.top
  unfold upN upW
  exact Nat.mul_le_mul_left _ (Nat.pow_le_pow_right (by decide) (by omega))
 have hX : -2000 ≤ X := by
  by_cases h0 : N = 0
  · have := (h.zero h0).2; omega
  · have := g.low h0; omega
 have u2 : upD X < 2 ^ 2001 := by
  unfold upD
  exact Nat.pow_lt_pow_right (by decide) (by omega)
 have hB : raB s (limbs N) X = true := by
  unfold raB
  rw [e1, e2]
  exact decide_eq_true ⟨hd, big6 u1 hK, big6 u2 (by decide)⟩
 unfold RatA raE
 rw [hB, if_pos rfl, if_pos rfl, if_pos rfl, e1, e2, if_neg (by simp [hd])]
 rfl
theorem mean_bds {e f b : Nat} (h : formE (e : Int) (f : Int) = 0) (hp : b < pw (e + f)) (hx : exN e f b ≠ maskN e) (m : Nat) :
 Dy (rcI e f b m).s (rcI e f b m).N (rcI e f b m).x ∧ Bd (rcI e f b m).N (rcI e f b m).x (baseI e f - 1) 4000 ∧ Dy (rcO e f b m).s (rcO e f b m).N (rcO e f b m).x ∧ Bd (rcO e f b m).N (rcO e f b m).x (baseI e f - 1) 4000 := by
 have hp1 : b < pw (1 + e + f) := by rw [pw_one_more]; omega
 obtain ⟨d1, g1⟩ := val_bd h hp1 hx
 obtain ⟨b1, b2, b3, b4⟩ := base_small h
 obtain ⟨e0, d3, g3, d4, g4⟩ := reach_facts h hp hx
 have g1' := g1.up (show f + 2 * biasN e ≤ f + 2 * biasN e + 1 by omega)
 obtain ⟨_, _, _, _, p1, q1⟩ := me_bd (p := bfD e f b) (q := valD (e : Int) (f : Int) b) d4 d1 g4 g1' (by omega) (by omega) (by omega)
 obtain ⟨_, _, _, _, p2, q2⟩ := me_bd (p := valD (e : Int) (f : Int) b) (q := faD e f b) d1 d3 g1' g3 (by omega) (by omega) (by omega)
 have down : ∀ {N : Nat} {x : Int} {K : Nat}, Bd N x (baseI e f) K → K ≤ 3999 → Bd N x (baseI e f - 1) 4000 := fun {N x K} g hK => by
  refine ⟨fun hn => by have := g.low hn; omega, ?_⟩
  by_cases hn : N = 0
  · subst hn; unfold upW; rw [Nat.zero_mul]; exact Nat.two_pow_pos _
  · have h1 := g.low hn
    have h2 := g.top
    unfold upW at h2 ⊢
    rw [show (x - (baseI e f - 1)).toNat = (x - baseI e f).toNat + 1 by omega, Nat.pow_succ, ← Nat.mul_assoc]
    have h3 : 2 ^ K ≤ 2 ^ 3999 := Nat.pow_le_pow_right (by decide) hK
    rw [show (2 : Nat) ^ 4000 = 2 ^ 3999 * 2 from Nat.pow_succ ..]
    exact Nat.mul_lt_mul_of_pos_right (Nat.lt_of_lt_of_le h2 h3) (by decide)
 have q1' := q1.up (show f + 2 * biasN e + 1 + 1 ≤ 4000 by omega)
 have q2' := q2.up (show f + 2 * biasN e + 1 + 1 ≤ 4000 by omega)
 have v1 := down g1 (by omega)
 have v3 := down g3 (by omega)
 have v4 := down g4 (by omega)
 unfold rcI rcO
 by_cases m2 : m = 2
 · rw [if_pos m2, if_pos m2]; exact ⟨d1, v1, d3, v3⟩
 · rw [if_neg m2, if_neg m2]
   by_cases m3 : m = 3
   · rw [if_pos m3, if_pos m3]; exact ⟨d4, v4, d1, v1⟩
   · rw [if_neg m3, if_neg m3]; exact ⟨p1, q1', p2, q2'⟩
end
section
attribute [local go_sem] Go.World.cell?_alloc_some
def RtnQ (q : Rat) (w : World) (en : Ending) (w' : World) : Prop := Rtn (decide (q.num < 0)) q.num.natAbs q.den 0 w en w'
theorem told_ok (b base : Nat) (q : Rat) (w : World) (h : Rq 75 w base b q) (l1 : ln q.num.natAbs ≤ 16384) (l2 : ln q.den ≤ 16384) :
 Calls Tryz.prog 94 #[.pointer (some ⟨b, 0, none⟩)] w (RtnQ q w) := by
 have hs : nzB (decide (q.num < 0)) q.num.natAbs = decide (q.num < 0) := nzB_nat _ _ rfl
 unfold RtnQ
 rw [← hs]
 exact rtTold_yes b base _ _ _ w h (Nat.le_trans l1 (by decide)) (Nat.le_trans l2 (by decide)) (decide_eq_false (by unfold ln at l1; omega)) (decide_eq_false (by unfold ln at l2; omega))
theorem subEnter (args : Array Value) (w : World) : Sem.run Tryz.prog (callFunc 106 args) w = .ok (.enter 106 args) w := by kernel_rfl
theorem sub_len (x y : Rat) : ln (x - y).num.natAbs ≤ ln x.num.natAbs + ln x.den + ln y.num.natAbs + ln y.den + 1 ∧ ln (x - y).den ≤ ln x.den + ln y.den := by
 have hd : x.den * y.den ≠ 0 := Nat.mul_ne_zero x.den_nz y.den_nz
 have e : x - y = mkRat (x.num * y.den - y.num * x.den) (x.den * y.den) := Rat.sub_def' x y
 obtain ⟨h1, h2⟩ := mk_len (x.num * y.den - y.num * x.den) hd
 rw [e]
 have k1 : (x.num * y.den - y.num * x.den).natAbs ≤ x.num.natAbs * y.den + y.num.natAbs * x.den := by
  refine Nat.le_trans (Int.natAbs_sub_le _ _) ?_
  rw [Int.natAbs_mul, Int.natAbs_mul, Int.natAbs_natCast, Int.natAbs_natCast]
  exact Nat.le_refl _
 have k2 := ln_mono k1
 have k3 := ln_add' (x.num.natAbs * y.den) (y.num.natAbs * x.den)
 have k4 := ln_mul x.num.natAbs y.den
 have k5 := ln_mul y.num.natAbs x.den
 have k6 := ln_mul x.den y.den
 have k7 : ln (x.num.natAbs * y.den + y.num.natAbs * x.den) ≤ ln x.num.natAbs + ln x.den + ln y.num.natAbs + ln y.den + 1 := ln_add (by omega) (by omega)
 omega
theorem box3_row {w w' : World} {b z : Nat} {u v x : Value} (h : Box3 w b u v x) (hg : w.grownBy w' (some z)) (hne : b ≠ z) : Box3 w' b u v x := by
 have hb : w'.heap[b]? = w.heap[b]? := hg.block b h.lt (fun e => hne (by cases e; rfl))
 exact ⟨(World.cell?_of_block hb).trans h.c0, (World.cell?_of_block hb).trans h.c1, (World.cell?_of_block hb).trans h.c2, (World.frozen?_of_block hb).trans h.z0, (World.frozen?_of_block hb).trans h.z1, (World.frozen?_of_block hb).trans h.z2⟩
theorem rtOf_sub (w0 : World) (z : Nat) (s t : Bool) (a1 a2 b1 b2 : Option Addr) (n1 n2 m1 m2 c1 c2 d1 d2 : Nat) (xs ys us vs : List Nat) (w : World) (h1 : Sl w a1 n1 c1 xs) (h2 : Sl w a2 n2 c2 ys) (h3 : Sl w b1 m1 d1 us) (h4 : Sl w b2 m2 d2 vs) (hT : Tab w) (hr : ratB s xs ys = true) (ht : ratB t us vs = true)
 (hw : Below w0.heap.size w0 w) (hz : w0.heap.size ≤ z) (hR : Res3 w z) (hH : Hd 75 w z) (l1 : n1 ≤ 1000) (l2 : n2 ≤ 1000) (l3 : m1 ≤ 1000) (l4 : m2 ≤ 1000) :
 Calls Tryz.prog 92 #[.agg #[.bool s, .slice a1 n1 c1, .slice a2 n2 c2], .agg #[.bool t, .slice b1 m1 d1, .slice b2 m2 d2], .func (.func 106) #[.pointer (some ⟨z, 0, none⟩)] #[]] w (RtnQ (sgQ' s (val xs) (val ys) - sgQ' t (val us) (val vs)) w0) := by
 obtain ⟨W3, hW3⟩ : ∃ W3 : World, W3 = ((w.alloc (.cells #[.bool s, .slice a1 n1 c1, .slice a2 n2 c2] 30)).alloc (.cells #[.bool t, .slice b1 m1 d1, .slice b2 m2 d2] 30)).alloc (.cells #[.bool false, .slice none 0 0, .slice none 0 0] 30) := ⟨_, rfl⟩
 have hb3 : Below w.heap.size w W3 := hW3 ▸ more (more (more (Below.refl _ _) _) _) _
 have X3 : Box3 W3 w.heap.size (.bool s) (.slice a1 n1 c1) (.slice a2 n2 c2) := hW3 ▸ ((box3_new w _ _ _ _).alloc _).alloc _
 have Y3 : Box3 W3 (w.heap.size + 1) (.bool t) (.slice b1 m1 d1) (.slice b2 m2 d2) := by
  have := (box3_new (w.alloc (.cells #[.bool s, .slice a1 n1 c1, .slice a2 n2 c2] 30)) (.bool t) (.slice b1 m1 d1) (.slice b2 m2 d2) 30).alloc (.cells #[.bool false, .slice none 0 0, .slice none 0 0] 30)
  rw [World.size_alloc] at this
  exact hW3 ▸ this
 have R3 : Box3 W3 (w.heap.size + 2) (.bool false) (.slice none 0 0) (.slice none 0 0) := by
  have := box3_new ((w.alloc (.cells #[.bool s, .slice a1 n1 c1, .slice a2 n2 c2] 30)).alloc (.cells #[.bool t, .slice b1 m1 d1, .slice b2 m2 d2] 30)) (.bool false) (.slice none 0 0) (.slice none 0 0) 30
  rw [World.size_alloc, World.size_alloc] at this
  exact hW3 ▸ this
 have tA := taken_ok (h1.below hb3) (h2.below hb3) (hT.below hb3) hr
 have tB : ∀ W, Below w.heap.size w W → Calls Tryz.prog 75 #[.agg #[.bool t, .slice b1 m1 d1, .slice b2 m2 d2]] W _ := fun W hW => taken_ok (h3.below hW) (h4.below hW) (hT.below hW) ht
 obtain ⟨_, _, hD, hG, hs, _, _⟩ := rat_facts5 h1 h2 hr
 obtain ⟨_, _, hD', hG', hs', _, _⟩ := rat_facts5 h3 h4 ht
 obtain ⟨q1, q2, _⟩ := mk_low hD hG hs
 obtain ⟨r1, r2, _⟩ := mk_low hD' hG' hs'
 have lN : ln (val xs) ≤ 1000 := Nat.le_trans (ln_le (val_lt h1.ok)) (by rw [h1.len]; exact l1)
 have lD : ln (val ys) ≤ 1000 := Nat.le_trans (ln_le (val_lt h2.ok)) (by rw [h2.len]; exact l2)
 have lM : ln (val us) ≤ 1000 := Nat.le_trans (ln_le (val_lt h3.ok)) (by rw [h3.len]; exact l3)
 have lE : ln (val vs) ≤ 1000 := Nat.le_trans (ln_le (val_lt h4.ok)) (by rw [h4.len]; exact l4)
 obtain ⟨sl1, sl2⟩ := sub_len (sgQ' s (val xs) (val ys)) (sgQ' t (val us) (val vs))
 rw [q1, q2, r1, r2] at sl1
 rw [q2, r2] at sl2
 have hzl := hR.lt
 have hSb : ∀ (W : World) (B1 B2 z1 z2 : Nat), Below w.heap.size w W → Rq 75 W B1 z1 (sgQ' s (val xs) (val ys)) → Rq 75 W B2 z2 (sgQ' t (val us) (val vs)) → Calls Tryz.prog 106 #[.pointer (some ⟨z, 0, none⟩), .pointer (some ⟨z1, 0, none⟩), .pointer (some ⟨z2, 0, none⟩)] W (StQ 75 z w0.heap.size (sgQ' s (val xs) (val ys) - sgQ' t (val us) (val vs)) W) := fun W B1 B2 z1 z2 hW x y => bgRSub_any z w0.heap.size B1 B2 z1 z2 _ _ W (hR.stay hW) (hH.stay hzl hW) hz x y (by rw [q1]; omega) (by rw [q2]; omega) (by rw [r1]; omega) (by rw [r2]; omega) (hT.below hW)
 have hTo : ∀ (W : World), Rq 75 W w0.heap.size z (sgQ' s (val xs) (val ys) - sgQ' t (val us) (val vs)) → Calls Tryz.prog 94 #[.pointer (some ⟨z, 0, none⟩)] W (RtnQ (sgQ' s (val xs) (val ys) - sgQ' t (val us) (val vs)) W) := fun W h => told_ok z _ _ W h (by omega) (by omega)
 have hEn := subEnter
 generalize sgQ' s (val xs) (val ys) - sgQ' t (val us) (val vs) = qd at *
 generalize sgQ' s (val xs) (val ys) = qx at *
 generalize sgQ' t (val us) (val vs) = qy at *
 clear q1 q2 r1 r2 hD hG hs hD' hG' hs' l1 l2 l3 l4 lN lD lM lE h1 h2 h3 h4 hr ht hT sl1 sl2 hR hH
 have ⟨x0, x1, x2, _, _, _⟩ := X3
 go_enter Tryz.func92, Tryz.ntmps92
 go_wp2_with fail
 rw [← hW3]
 clear hW3
 refine tA.mono ?_
 rintro en w4 ⟨z1, rfl, Q1, hb4⟩
 have V4 := next hb3 hb4
 have Y4 := Y3.stay hb4
 have R4 := R3.stay hb4
 clear x0 x1 x2 X3 Y3 R3 tA hb3 hb4
 have ⟨y0, y1, y2, _, _, _⟩ := Y4
 go_wp2_with fail
 refine (tB w4 V4).mono ?_
 rintro en w5 ⟨z2, rfl, Q2, hb5⟩
 have V5 := next V4 hb5
 have R5 := R4.stay hb5
 have Q1' := Q1.stay hb5
 clear y0 y1 y2 Y4 R4 tB hb5 V4 Q1
 go_wp2_with fail
 refine (hSb w5 _ _ z1 z2 V5 Q1' Q2).mono ?_
 rintro en w6 ⟨rfl, Q6, hg6⟩
 have hwz := V5.size
 have U6 : Below w0.heap.size w0 w6 := (next hw V5).grown hg6 (next hw V5).size (by intro k hk; cases hk; exact hz)
 have R6 := box3_row R5 hg6 (by omega)
 clear hSb Q1' Q2 R5
 go_wp2_with fail
 refine (hTo w6 Q6).mono ?_
 rintro en w7 ⟨a3, n3, f3, a4, n4, f4, rfl, F3, F4, hap, hb7⟩
 have U7 := next U6 hb7
 have R7 := R6.stay hb7
 have ⟨r0, r1, r2, _, _, _⟩ := R7
 have hz6 := U6.size
 have hz7 := R6.lt
 have hzz := hw.size
 clear R6 hTo Q6
 go_wp2
 obtain ⟨t0, t1, t2⟩ := R7.set (.bool (decide (qd.num < 0))) (.slice a3 n3 f3) (.slice a4 n4 f4)
 refine bodyPost_ret (v := .tuple #[.agg #[.bool (decide (qd.num < 0)), .slice a3 n3 f3, .slice a4 n4 f4], .int .i64 0]) (by simp [results, Tryz.results92, go_sem, t0, t1, t2]) rfl ?_
 exact ⟨_, _, _, _, _, _, rfl, (((F3.setCell (by simp; omega) _).setCell (by simp; omega) _).setCell (by simp; omega) _).mono hz6, (((F4.setCell (by simp; omega) _).setCell (by simp; omega) _).setCell (by simp; omega) _).mono hz6, hap, ((U7.setCell (by simp; omega) _).setCell (by simp; omega) _).setCell (by simp; omega) _⟩
def WhoQ (q : Rat) (w : World) (en : Ending) (w' : World) : Prop :=
 ∃ a1 n1 c1 a2 n2 c2, en = .returned (.agg #[.bool (decide (q.num < 0)), .slice a1 n1 c1, .slice a2 n2 c2]) ∧ Fr 75 w' w.heap.size a1 n1 c1 (limbs q.num.natAbs) ∧ Fr 75 w' w.heap.size a2 n2 c2 (limbs q.den) ∧ Below w.heap.size w w'
theorem rtWholeN_ok (n : Int) (w : World) (hn : -2147483648 ≤ n) (hn2 : n ≤ 2147483647) :
 Calls Tryz.prog 96 #[.int .i64 n] w (WhoQ ((n : Int) : Rat) w) := by
 obtain ⟨W1, hW1⟩ : ∃ W1 : World, W1 = w.alloc (.cells #[.bool false, .slice none 0 0, .slice none 0 0] 30) := ⟨_, rfl⟩
 have hb1 : Below w.heap.size w W1 := hW1 ▸ more (Below.refl _ _) _
 have R1 : Box3 W1 w.heap.size (.bool false) (.slice none 0 0) (.slice none 0 0) := hW1 ▸ box3_new w _ _ _ _
 have hSI := bgRSetInt64_any W1.heap.size W1.heap.size n (W1.alloc (.cells #[.bool false, .slice none 0 0, .slice none 0 0] 131)) (res_new W1 _ _ _ _) (Nat.le_refl _) (by omega)
 have l1 : ln ((n : Int) : Rat).num.natAbs ≤ 16384 := by rw [Rat.num_intCast]; exact Nat.le_trans (ln_small (by omega)) (by decide)
 have l2 : ln ((n : Int) : Rat).den ≤ 16384 := by rw [Rat.den_intCast, ln_one]; decide
 have hTo : ∀ (W : World) b B, Rq 75 W B b ((n : Int) : Rat) → Calls Tryz.prog 94 #[.pointer (some ⟨b, 0, none⟩)] W (RtnQ ((n : Int) : Rat) W) := fun W b B h => told_ok b B _ W h l1 l2
 generalize ((n : Int) : Rat) = q at *
 clear l1 l2
 go_enter Tryz.func96, Tryz.ntmps96
 go_upto_region 1 with fail
 rw [← hW1]
 clear hW1
 go_wp2_with fail
 refine hSI.mono ?_
 rintro en w3 hS3
 obtain ⟨b, rfl, Q3, hb3⟩ := hS3.mk
 have R3 := R1.stay hb3
 go_wp2_with fail
 refine (hTo w3 b _ Q3).mono ?_
 rintro en w4 ⟨a3, n3, f3, a4, n4, f4, rfl, F3, F4, hap, hb4⟩
 have V4 := next (next hb1 hb3) hb4
 have R4 := (R3.stay hb4).alloc (.cells #[.bool (decide (q.num < 0)), .slice a3 n3 f3, .slice a4 n4 f4] 30)
 have N4 := box3_new w4 (.bool (decide (q.num < 0))) (.slice a3 n3 f3) (.slice a4 n4 f4) 30
 have V5 := more V4 (.cells #[.bool (decide (q.num < 0)), .slice a3 n3 f3, .slice a4 n4 f4] 30)
 have G3 := F3.alloc (.cells #[.bool (decide (q.num < 0)), .slice a3 n3 f3, .slice a4 n4 f4] 30)
 have G4 := F4.alloc (.cells #[.bool (decide (q.num < 0)), .slice a3 n3 f3, .slice a4 n4 f4] 30)
 have hz1 := R1.lt
 have hz3 := hb3.size
 have hz0 := hb1.size
 clear hSI hTo Q3 R1 R3 F3 F4
 go_upto_region 2 with fail
 obtain ⟨q4, hq4⟩ : ∃ q, q = w4.heap.size := ⟨_, rfl⟩
 rw [← hq4] at N4 ⊢
 clear hq4 V4 hb3 hb4
 generalize w4.alloc (.cells #[.bool (decide (q.num < 0)), .slice a3 n3 f3, .slice a4 n4 f4] 30) = w5 at R4 N4 V5 G3 G4 ⊢
 have ⟨r0, r1, r2, _, _, _⟩ := R4
 have ⟨m0, m1, m2, _, _, _⟩ := N4
 go_wp2
 obtain ⟨t0, t1, t2⟩ := R4.set (.bool (decide (q.num < 0))) (.slice a3 n3 f3) (.slice a4 n4 f4)
 refine bodyPost_ret (v := .agg #[.bool (decide (q.num < 0)), .slice a3 n3 f3, .slice a4 n4 f4]) (by simp [results, Tryz.results96, go_sem, t0, t1, t2]) rfl ?_
 exact ⟨_, _, _, _, _, _, rfl, (((G3.setCell (by simp; omega) _).setCell (by simp; omega) _).setCell (by simp; omega) _).mono (by omega), (((G4.setCell (by simp; omega) _).setCell (by simp; omega) _).setCell (by simp; omega) _).mono (by omega), ((V5.setCell (Nat.le_refl _) _).setCell (Nat.le_refl _) _).setCell (Nat.le_refl _) _⟩
end
section
attribute [local go_sem] Go.World.cell?_alloc_some
theorem rtNeg_ok (s : Bool) (a1 a2 : Option Addr) (n1 n2 c1 c2 : Nat) (xs ys : List Nat) (w : World) (h1 : Sl w a1 n1 c1 xs) (h2 : Sl w a2 n2 c2 ys) (hT : Tab w) (hr : ratB s xs ys = true) (l1 : n1 ≤ 1000) (l2 : n2 ≤ 1000) :
 Calls Tryz.prog 53 #[.agg #[.bool s, .slice a1 n1 c1, .slice a2 n2 c2]] w (RtnQ (-(sgQ' s (val xs) (val ys))) w) := by
 obtain ⟨W2, hW2⟩ : ∃ W2 : World, W2 = (w.alloc (.cells #[.bool s, .slice a1 n1 c1, .slice a2 n2 c2] 30)).alloc (.cells #[.bool false, .slice none 0 0, .slice none 0 0] 30) := ⟨_, rfl⟩
 have hb2 : Below w.heap.size w W2 := hW2 ▸ more (more (Below.refl _ _) _) _
 have X2 : Box3 W2 w.heap.size (.bool s) (.slice a1 n1 c1) (.slice a2 n2 c2) := hW2 ▸ (box3_new w _ _ _ _).alloc _
 have R2 : Box3 W2 (w.heap.size + 1) (.bool false) (.slice none 0 0) (.slice none 0 0) := by
  have := box3_new (w.alloc (.cells #[.bool s, .slice a1 n1 c1, .slice a2 n2 c2] 30)) (.bool false) (.slice none 0 0) (.slice none 0 0) 30
  rw [World.size_alloc] at this
  exact hW2 ▸ this
 have hZ : ∀ W, Calls Tryz.prog 96 #[.int .i64 0] W (WhoQ 0 W) := fun W => rtWholeN_ok 0 W (by decide) (by decide)
 have hq0 : (0 : Rat).num.natAbs = 0 ∧ (0 : Rat).den = 1 ∧ decide ((0 : Rat).num < 0) = false := by decide
 have hr0 : ratB false (limbs 0) (limbs 1) = true := by decide +kernel
 have hl0 : (limbs 0).length = 0 ∧ (limbs 1).length = 1 ∧ val (limbs 0) = 0 ∧ val (limbs 1) = 1 := by decide +kernel
 have hs0 : sgQ' false 0 1 = 0 := by decide +kernel
 have hO : ∀ (W : World) (z : Nat) (b1 b2 : Option Addr) (m1 m2 d1 d2 : Nat), Below W2.heap.size W2 W → W2.heap.size ≤ z → Res3 W z → Hd 75 W z → Sl W b1 m1 d1 (limbs (0 : Rat).num.natAbs) → Sl W b2 m2 d2 (limbs (0 : Rat).den) →
  Calls Tryz.prog 92 #[.agg #[.bool (decide ((0 : Rat).num < 0)), .slice b1 m1 d1, .slice b2 m2 d2], .agg #[.bool s, .slice a1 n1 c1, .slice a2 n2 c2], .func (.func 106) #[.pointer (some ⟨z, 0, none⟩)] #[]] W (RtnQ (-(sgQ' s (val xs) (val ys))) W2) := fun W z b1 b2 m1 m2 d1 d2 hW hz hR hH k1 k2 => by
  rw [hq0.1] at k1
  rw [hq0.2.1] at k2
  have := rtOf_sub W2 z false s b1 b2 a1 a2 m1 m2 n1 n2 d1 d2 c1 c2 (limbs 0) (limbs 1) xs ys W k1 k2 (h1.below (next hb2 hW)) (h2.below (next hb2 hW)) (hT.below (next hb2 hW)) hr0 hr hW hz hR hH (by rw [← k1.len, hl0.1]; decide) (by rw [← k2.len, hl0.2.1]; decide) l1 l2
  rw [hl0.2.2.1, hl0.2.2.2, hs0, Rat.sub_eq_add_neg, Rat.zero_add] at this
  rw [hq0.2.2]
  exact this
 generalize -(sgQ' s (val xs) (val ys)) = qd at *
 generalize (0 : Rat) = q0 at *
 clear hq0 hr0 hl0 hs0 h1 h2 hT hr l1 l2
 have ⟨x0, x1, x2, _, _, _⟩ := X2
 go_enter Tryz.func53, Tryz.ntmps53
 go_upto_region 1 with fail
 rw [← hW2]
 clear hW2
 go_region_with (first
  | (go_at_call 96; (with_reducible refine (hZ _).mono ?_); rintro en wA ⟨b1, m1, d1, b2, m2, d2, rfl, G1, G2, hbA⟩; have VA : Below W2.heap.size W2 wA := (by first | exact hbA | exact undrew hbA | exact next (more (Below.refl _ _) _) hbA | exact next (more (Below.refl _ _) _).drew hbA); have ⟨u0, u1, u2, _, _, _⟩ := X2.stay VA; (try have Z := (res_new W2 131 (.bool false) (.slice none 0 0) (.slice none 0 0)).stay (by first | exact hbA | exact undrew hbA)); (try have HZ := (hd_new (e := 75) (t := 131) W2 #[.bool false, .slice none 0 0, .slice none 0 0] (by decide)).stay (by simp) (by first | exact hbA | exact undrew hbA)))
  | (go_at_call 92; (first | (with_reducible refine (hO _ W2.heap.size _ _ _ _ _ _ VA (Nat.le_refl _) Z HZ G1.sl G2.sl).mono ?_) | (with_reducible refine (hO _ wA.heap.size _ _ _ _ _ _ (more VA _) VA.size (res_new wA _ _ _ _) (hd_new wA _ (by decide)) (G1.alloc _).sl (G2.alloc _).sl).mono ?_)); rintro en wB ⟨a3, n3, f3, a4, n4, f4, rfl, F3, F4, hap, hbB⟩; have RB := R2.stay hbB; have ⟨y0, y1, y2, y3, y4, y5⟩ := RB))
 all_goals
  have V5 := next hb2 hbB
  have hz2 := hb2.size
  have hz5 := R2.lt
  go_wp2
  obtain ⟨t0, t1, t2⟩ := RB.set (.bool (decide (qd.num < 0))) (.slice a3 n3 f3) (.slice a4 n4 f4)
  refine bodyPost_ret (v := .tuple #[.agg #[.bool (decide (qd.num < 0)), .slice a3 n3 f3, .slice a4 n4 f4], .int .i64 0]) (by simp [results, Tryz.results53, go_sem, t0, t1, t2]) rfl ?_
  exact ⟨_, _, _, _, _, _, rfl, (((F3.setCell (by simp; omega) _).setCell (by simp; omega) _).setCell (by simp; omega) _).mono hz2, (((F4.setCell (by simp; omega) _).setCell (by simp; omega) _).setCell (by simp; omega) _).mono hz2, hap, ((V5.setCell (by simp) _).setCell (by simp) _).setCell (by simp) _⟩
end
end Go.Proofs.YtfjgmpfpadfknaaGreatDoor
