/-
  Plain: the fraction of a dyadic within bounds.
-/
import Derived.Test.YtpmncmglmobjoaaGreatDoorQbTMT34
set_option maxHeartbeats 3000000
set_option maxRecDepth 100000
namespace Go.Proofs.YtpmncmglmobjoaaGreatDoor
open Go.RowKit Go.Lb
section
set_option exponentiation.threshold 5000
theorem chk_lm6 {N : Nat} (h : (limbs N).length ≤ 16384) : chk (limbs N) = 0 := by
 unfold chk
 rw [if_neg (by omega), if_neg]
 rintro ⟨h1, h2⟩
 exact fine_top (fine_limbs N) (by omega) h2
theorem dchk6 {s : Bool} {N : Nat} {x : Int} (h : Dy s N x) : dchk s (limbs N) x = 0 := by
 unfold dchk
 have hc : chk (limbs N) = 0 := chk_lm6 h.len
 rw [if_neg (fun hh => hh hc)]
 by_cases h0 : N = 0
 · obtain ⟨h1, h2⟩ := h.zero h0
   subst h0
   rw [if_pos (by rw [limbs_zero]; rfl), if_neg (by rw [h1, h2]; decide)]
 · have ho := h.odd h0
   have hl : ¬ (limbs N).length = 0 := by rw [limbs_pos h0]; simp
   rw [if_neg hl, if_neg]
   rintro (h3 | h3)
   · have := (limbs_odd N)
     rcases this with ⟨h4, _⟩ | ⟨_, h4⟩
     · exact hl h4
     · omega
   · have h5 := of_decide_eq_true h3
     have := h.lo
     have := h.hi
     omega
theorem ra_up6 (n : Nat) (X : Int) : raN (limbs n) X = upN n X ∧ raD X = upD X := by
 unfold raN raD upN upD
 rw [val_limbs', show (max 0 X).toNat = X.toNat by omega, show (max 0 (-X)).toNat = (-X).toNat by omega]
 exact ⟨rfl, rfl⟩
theorem big6 {N K : Nat} (h : N < 2 ^ K) (hK : K ≤ 4000) : bigE N = 0 := by
 refine (bigE_ok (Nat.le_trans (limbs_length_le (k := 125) (Nat.lt_of_lt_of_le h ?_)) (by decide))).1
 rw [show (4294967296 : Nat) = 2 ^ 32 by decide, ← Nat.pow_mul]
 exact Nat.pow_le_pow_right (by decide) hK
theorem rat6 {s : Bool} {N : Nat} {X b : Int} {K : Nat} (h : Dy s N X) (g : Bd N X b K) (hb : -2000 ≤ b) (hb0 : b ≤ 0) (hK : K ≤ 4000) (w : World) : RatA s (limbs N) X w = Rtn s (upN N X) (upD X) 0 w := by
 obtain ⟨e1, e2⟩ := ra_up6 N X
 have hd := dchk6 h
 have u1 : upN N X < 2 ^ K := by
  refine Nat.lt_of_le_of_lt ?_ g.top
  unfold upN upW
  exact Nat.mul_le_mul_left _ (Nat.pow_le_pow_right (by decide) (by omega))
 have hX : -2000 ≤ X := by
  by_cases h0 : N = 0
  · have := (h.zero h0).2; omega
  · have := g.low h0; omega
 have u2 : upD X < 2 ^ 2001 := by
  unfold upD
  exact Nat.pow_lt_pow_right (by decide) (by omega)
 have hB : raB s (limbs N) X = true := by
  unfold raB
  rw [e1, e2]
  exact decide_eq_true ⟨hd, big6 u1 hK, big6 u2 (by decide)⟩
 unfold RatA raE
 rw [hB, if_pos rfl, if_pos rfl, if_pos rfl, e1, e2, if_neg (by simp [hd])]
 rfl
theorem mean_bds {e f b : Nat} (h : formE (e : Int) (f : Int) = 0) (hp : b < pw (e + f)) (hx : exN e f b ≠ maskN e) (m : Nat) :
 Dy (rcI e f b m).s (rcI e f b m).N (rcI e f b m).x ∧ Bd (rcI e f b m).N (rcI e f b m).x (baseI e f - 1) 4000 ∧ Dy (rcO e f b m).s (rcO e f b m).N (rcO e f b m).x ∧ Bd (rcO e f b m).N (rcO e f b m).x (baseI e f - 1) 4000 := by
 have hp1 : b < pw (1 + e + f) := by rw [pw_one_more]; omega
 obtain ⟨d1, g1⟩ := val_bd h hp1 hx
 obtain ⟨b1, b2, b3, b4⟩ := base_small h
 obtain ⟨e0, d3, g3, d4, g4⟩ := reach_facts h hp hx
 have g1' := g1.up (show f + 2 * biasN e ≤ f + 2 * biasN e + 1 by omega)
 obtain ⟨_, _, _, _, p1, q1⟩ := me_bd (p := bfD e f b) (q := valD (e : Int) (f : Int) b) d4 d1 g4 g1' (by omega) (by omega) (by omega)
 obtain ⟨_, _, _, _, p2, q2⟩ := me_bd (p := valD (e : Int) (f : Int) b) (q := faD e f b) d1 d3 g1' g3 (by omega) (by omega) (by omega)
 have down : ∀ {N : Nat} {x : Int} {K : Nat}, Bd N x (baseI e f) K → K ≤ 3999 → Bd N x (baseI e f - 1) 4000 := fun {N x K} g hK => by
  refine ⟨fun hn => by have := g.low hn; omega, ?_⟩
  by_cases hn : N = 0
  · subst hn; unfold upW; rw [Nat.zero_mul]; exact Nat.two_pow_pos _
  · have h1 := g.low hn
    have h2 := g.top
    unfold upW at h2 ⊢
    rw [show (x - (baseI e f - 1)).toNat = (x - baseI e f).toNat + 1 by omega, Nat.pow_succ, ← Nat.mul_assoc]
    have h3 : 2 ^ K ≤ 2 ^ 3999 := Nat.pow_le_pow_right (by decide) hK
    rw [show (2 : Nat) ^ 4000 = 2 ^ 3999 * 2 from Nat.pow_succ ..]
    exact Nat.mul_lt_mul_of_pos_right (Nat.lt_of_lt_of_le h2 h3) (by decide)
 have q1' := q1.up (show f + 2 * biasN e + 1 + 1 ≤ 4000 by omega)
 have q2' := q2.up (show f + 2 * biasN e + 1 + 1 ≤ 4000 by omega)
 have v1 := down g1 (by omega)
 have v3 := down g3 (by omega)
 have v4 := down g4 (by omega)
 unfold rcI rcO
 by_cases m2 : m = 2
 · rw [if_pos m2, if_pos m2]; exact ⟨d1, v1, d3, v3⟩
 · rw [if_neg m2, if_neg m2]
   by_cases m3 : m = 3
   · rw [if_pos m3, if_pos m3]; exact ⟨d4, v4, d1, v1⟩
   · rw [if_neg m3, if_neg m3]; exact ⟨p1, q1', p2, q2'⟩
end
section
attribute [local go_sem] Go.World.cell?_alloc_some
theorem ra_rq {w : World} {base b N D : Nat} {s : Bool} (h : Ra 40 w base b s N D) (hD : D ≠ 0) (hG : Nat.gcd N D = 1) (hs : s = true → N ≠ 0) : Rq 40 w base b (sgQ' s N D) := by
 obtain ⟨q1, q2, q3⟩ := mk_low hD hG hs
 unfold Rq
 rw [q1, q2, q3]
 exact h
theorem rat_facts5 {w : World} {a1 a2 : Option Addr} {n1 n2 c1 c2 : Nat} {s : Bool} {xs ys : List Nat} (h1 : Sl w a1 n1 c1 xs) (h2 : Sl w a2 n2 c2 ys) (hr : ratB s xs ys = true) :
 Fine xs ∧ Fine ys ∧ val ys ≠ 0 ∧ Nat.gcd (val xs) (val ys) = 1 ∧ (s = true → val xs ≠ 0) ∧ n1 ≤ 16384 ∧ n2 ≤ 16384 := by
 obtain ⟨hx, hy, hl, hG, hs⟩ : chk xs = 0 ∧ chk ys = 0 ∧ ys.length ≠ 0 ∧ Nat.gcd (val xs) (val ys) = 1 ∧ (s = true → val xs ≠ 0) := of_decide_eq_true hr
 exact ⟨fine_of_chk h1.ok hx, fine_of_chk h2.ok hy, fun h => hl ((val_zero_iff h2.ok hy).1 h), hG, hs, by rw [← h1.len]; exact chk_zero_len hx, by rw [← h2.len]; exact chk_zero_len hy⟩
theorem taken_ok {s : Bool} {a1 a2 : Option Addr} {n1 n2 c1 c2 : Nat} {xs ys : List Nat} {w : World} (h1 : Sl w a1 n1 c1 xs) (h2 : Sl w a2 n2 c2 ys) (hT : Tab w) (hr : ratB s xs ys = true) :
 Calls Tryz.prog 81 #[.agg #[.bool s, .slice a1 n1 c1, .slice a2 n2 c2]] w fun en w' => ∃ b, en = .returned (.tuple #[.pointer (some ⟨b, 0, none⟩), .int .i64 0]) ∧ Rq 40 w' w.heap.size b (sgQ' s (val xs) (val ys)) ∧ Below w.heap.size w w' := by
 obtain ⟨_, _, hD, hG, hs, _, _⟩ := rat_facts5 h1 h2 hr
 refine (rtTaken_any s a1 a2 n1 n2 c1 c2 xs ys w h1 h2 hT).mono ?_
 rintro en w' (⟨_, b, rfl, hR, hb⟩ | ⟨hn, _⟩)
 · exact ⟨b, rfl, ra_rq hR hD hG hs, hb⟩
 · rw [hr] at hn; cases hn
end
section
attribute [local go_sem] Go.World.cell?_alloc_some
def RtnQ (q : Rat) (w : World) (en : Ending) (w' : World) : Prop := Rtn (decide (q.num < 0)) q.num.natAbs q.den 0 w en w'
theorem told_ok (b base : Nat) (q : Rat) (w : World) (h : Rq 40 w base b q) (l1 : ln q.num.natAbs ≤ 16384) (l2 : ln q.den ≤ 16384) :
 Calls Tryz.prog 82 #[.pointer (some ⟨b, 0, none⟩)] w (RtnQ q w) := by
 have hs : nzB (decide (q.num < 0)) q.num.natAbs = decide (q.num < 0) := nzB_nat _ _ rfl
 unfold RtnQ
 rw [← hs]
 exact rtTold_yes b base _ _ _ w h (Nat.le_trans l1 (by decide)) (Nat.le_trans l2 (by decide)) (decide_eq_false (by unfold ln at l1; omega)) (decide_eq_false (by unfold ln at l2; omega))
theorem subEnter (args : Array Value) (w : World) : Sem.run Tryz.prog (callFunc 44 args) w = .ok (.enter 44 args) w := by kernel_rfl
theorem sub_len (x y : Rat) : ln (x - y).num.natAbs ≤ ln x.num.natAbs + ln x.den + ln y.num.natAbs + ln y.den + 1 ∧ ln (x - y).den ≤ ln x.den + ln y.den := by
 have hd : x.den * y.den ≠ 0 := Nat.mul_ne_zero x.den_nz y.den_nz
 have e : x - y = mkRat (x.num * y.den - y.num * x.den) (x.den * y.den) := Rat.sub_def' x y
 obtain ⟨h1, h2⟩ := mk_len (x.num * y.den - y.num * x.den) hd
 rw [e]
 have k1 : (x.num * y.den - y.num * x.den).natAbs ≤ x.num.natAbs * y.den + y.num.natAbs * x.den := by
  refine Nat.le_trans (Int.natAbs_sub_le _ _) ?_
  rw [Int.natAbs_mul, Int.natAbs_mul, Int.natAbs_natCast, Int.natAbs_natCast]
  exact Nat.le_refl _
 have k2 := ln_mono k1
 have k3 := ln_add' (x.num.natAbs * y.den) (y.num.natAbs * x.den)
 have k4 := ln_mul x.num.natAbs y.den
 have k5 := ln_mul y.num.natAbs x.den
 have k6 := ln_mul x.den y.den
 have k7 : ln (x.num.natAbs * y.den + y.num.natAbs * x.den) ≤ ln x.num.natAbs + ln x.den + ln y.num.natAbs + ln y.den + 1 := ln_add (by omega) (by omega)
 omega
theorem box3_row {w w' : World} {b z : Nat} {u v x : Value} (h : Box3 w b u v x) (hg : w.grownBy w' (some z)) (hne : b ≠ z) : Box3 w' b u v x := by
 have hb : w'.heap[b]? = w.heap[b]? := hg.block b h.lt (fun e => hne (by cases e; rfl))
 exact ⟨(World.cell?_of_block hb).trans h.c0, (World.cell?_of_block hb).trans h.c1, (World.cell?_of_block hb).trans h.c2, (World.frozen?_of_block hb).trans h.z0, (World.frozen?_of_block hb).trans h.z1, (World.frozen?_of_block hb).trans h.z2⟩
theorem rtOf_sub (w0 : World) (z : Nat) (s t : Bool) (a1 a2 b1 b2 : Option Addr) (n1 n2 m1 m2 c1 c2 d1 d2 : Nat) (xs ys us vs : List Nat) (w : World) (h1 : Sl w a1 n1 c1 xs) (h2 : Sl w a2 n2 c2 ys) (h3 : Sl w b1 m1 d1 us) (h4 : Sl w b2 m2 d2 vs) (hT : Tab w) (hr : ratB s xs ys = true) (ht : ratB t us vs = true)
 (hw : Below w0.heap.size w0 w) (hz : w0.heap.size ≤ z) (hR : Res3 w z) (hH : Hd 40 w z) (l1 : n1 ≤ 1000) (l2 : n2 ≤ 1000) (l3 : m1 ≤ 1000) (l4 : m2 ≤ 1000) :
 Calls Tryz.prog 42 #[.agg #[.bool s, .slice a1 n1 c1, .slice a2 n2 c2], .agg #[.bool t, .slice b1 m1 d1, .slice b2 m2 d2], .func (.func 44) #[.pointer (some ⟨z, 0, none⟩)] #[]] w (RtnQ (sgQ' s (val xs) (val ys) - sgQ' t (val us) (val vs)) w0) := by
 obtain ⟨W3, hW3⟩ : ∃ W3 : World, W3 = ((w.alloc (.cells #[.bool s, .slice a1 n1 c1, .slice a2 n2 c2] 29)).alloc (.cells #[.bool t, .slice b1 m1 d1, .slice b2 m2 d2] 29)).alloc (.cells #[.bool false, .slice none 0 0, .slice none 0 0] 29) := ⟨_, rfl⟩
 have hb3 : Below w.heap.size w W3 := hW3 ▸ more (more (more (Below.refl _ _) _) _) _
 have X3 : Box3 W3 w.heap.size (.bool s) (.slice a1 n1 c1) (.slice a2 n2 c2) := hW3 ▸ ((box3_new w _ _ _ _).alloc _).alloc _
 have Y3 : Box3 W3 (w.heap.size + 1) (.bool t) (.slice b1 m1 d1) (.slice b2 m2 d2) := by
  have := (box3_new (w.alloc (.cells #[.bool s, .slice a1 n1 c1, .slice a2 n2 c2] 29)) (.bool t) (.slice b1 m1 d1) (.slice b2 m2 d2) 29).alloc (.cells #[.bool false, .slice none 0 0, .slice none 0 0] 29)
  rw [World.size_alloc] at this
  exact hW3 ▸ this
 have R3 : Box3 W3 (w.heap.size + 2) (.bool false) (.slice none 0 0) (.slice none 0 0) := by
  have := box3_new ((w.alloc (.cells #[.bool s, .slice a1 n1 c1, .slice a2 n2 c2] 29)).alloc (.cells #[.bool t, .slice b1 m1 d1, .slice b2 m2 d2] 29)) (.bool false) (.slice none 0 0) (.slice none 0 0) 29
  rw [World.size_alloc, World.size_alloc] at this
  exact hW3 ▸ this
 have tA := taken_ok (h1.below hb3) (h2.below hb3) (hT.below hb3) hr
 have tB : ∀ W, Below w.heap.size w W → Calls Tryz.prog 81 #[.agg #[.bool t, .slice b1 m1 d1, .slice b2 m2 d2]] W _ := fun W hW => taken_ok (h3.below hW) (h4.below hW) (hT.below hW) ht
 obtain ⟨_, _, hD, hG, hs, _, _⟩ := rat_facts5 h1 h2 hr
 obtain ⟨_, _, hD', hG', hs', _, _⟩ := rat_facts5 h3 h4 ht
 obtain ⟨q1, q2, _⟩ := mk_low hD hG hs
 obtain ⟨r1, r2, _⟩ := mk_low hD' hG' hs'
 have lN : ln (val xs) ≤ 1000 := Nat.le_trans (ln_le (val_lt h1.ok)) (by rw [h1.len]; exact l1)
 have lD : ln (val ys) ≤ 1000 := Nat.le_trans (ln_le (val_lt h2.ok)) (by rw [h2.len]; exact l2)
 have lM : ln (val us) ≤ 1000 := Nat.le_trans (ln_le (val_lt h3.ok)) (by rw [h3.len]; exact l3)
 have lE : ln (val vs) ≤ 1000 := Nat.le_trans (ln_le (val_lt h4.ok)) (by rw [h4.len]; exact l4)
 obtain ⟨sl1, sl2⟩ := sub_len (sgQ' s (val xs) (val ys)) (sgQ' t (val us) (val vs))
 rw [q1, q2, r1, r2] at sl1
 rw [q2, r2] at sl2
 have hzl := hR.lt
 have hSb : ∀ (W : World) (B1 B2 z1 z2 : Nat), Below w.heap.size w W → Rq 40 W B1 z1 (sgQ' s (val xs) (val ys)) → Rq 40 W B2 z2 (sgQ' t (val us) (val vs)) → Calls Tryz.prog 44 #[.pointer (some ⟨z, 0, none⟩), .pointer (some ⟨z1, 0, none⟩), .pointer (some ⟨z2, 0, none⟩)] W (StQ 40 z w0.heap.size (sgQ' s (val xs) (val ys) - sgQ' t (val us) (val vs)) W) := fun W B1 B2 z1 z2 hW x y => bgRSub_any z w0.heap.size B1 B2 z1 z2 _ _ W (hR.stay hW) (hH.stay hzl hW) hz x y (by rw [q1]; omega) (by rw [q2]; omega) (by rw [r1]; omega) (by rw [r2]; omega) (hT.below hW)
 have hTo : ∀ (W : World), Rq 40 W w0.heap.size z (sgQ' s (val xs) (val ys) - sgQ' t (val us) (val vs)) → Calls Tryz.prog 82 #[.pointer (some ⟨z, 0, none⟩)] W (RtnQ (sgQ' s (val xs) (val ys) - sgQ' t (val us) (val vs)) W) := fun W h => told_ok z _ _ W h (by omega) (by omega)
 have hEn := subEnter
 generalize sgQ' s (val xs) (val ys) - sgQ' t (val us) (val vs) = qd at *
 generalize sgQ' s (val xs) (val ys) = qx at *
 generalize sgQ' t (val us) (val vs) = qy at *
 clear q1 q2 r1 r2 hD hG hs hD' hG' hs' l1 l2 l3 l4 lN lD lM lE h1 h2 h3 h4 hr ht hT sl1 sl2 hR hH
 have ⟨x0, x1, x2, _, _, _⟩ := X3
 go_enter Tryz.func42, Tryz.ntmps42
 go_wp2_with fail
 rw [← hW3]
 clear hW3
 refine tA.mono ?_
 rintro en w4 ⟨z1, rfl, Q1, hb4⟩
 have V4 := next hb3 hb4
 have Y4 := Y3.stay hb4
 have R4 := R3.stay hb4
 clear x0 x1 x2 X3 Y3 R3 tA hb3 hb4
 have ⟨y0, y1, y2, _, _, _⟩ := Y4
 go_wp2_with fail
 refine (tB w4 V4).mono ?_
 rintro en w5 ⟨z2, rfl, Q2, hb5⟩
 have V5 := next V4 hb5
 have R5 := R4.stay hb5
 have Q1' := Q1.stay hb5
 clear y0 y1 y2 Y4 R4 tB hb5 V4 Q1
 go_wp2_with fail
 refine (hSb w5 _ _ z1 z2 V5 Q1' Q2).mono ?_
 rintro en w6 ⟨rfl, Q6, hg6⟩
 have hwz := V5.size
 have U6 : Below w0.heap.size w0 w6 := (next hw V5).grown hg6 (next hw V5).size (by intro k hk; cases hk; exact hz)
 have R6 := box3_row R5 hg6 (by omega)
 clear hSb Q1' Q2 R5
 go_wp2_with fail
 refine (hTo w6 Q6).mono ?_
 rintro en w7 ⟨a3, n3, f3, a4, n4, f4, rfl, F3, F4, hap, hb7⟩
 have U7 := next U6 hb7
 have R7 := R6.stay hb7
 have ⟨r0, r1, r2, _, _, _⟩ := R7
 have hz6 := U6.size
 have hz7 := R6.lt
 have hzz := hw.size
 clear R6 hTo Q6
 go_wp2
 obtain ⟨t0, t1, t2⟩ := R7.set (.bool (decide (qd.num < 0))) (.slice a3 n3 f3) (.slice a4 n4 f4)
 refine bodyPost_ret (v := .tuple #[.agg #[.bool (decide (qd.num < 0)), .slice a3 n3 f3, .slice a4 n4 f4], .int .i64 0]) (by simp [results, Tryz.results42, go_sem, t0, t1, t2]) rfl ?_
 exact ⟨_, _, _, _, _, _, rfl, (((F3.setCell (by simp; omega) _).setCell (by simp; omega) _).setCell (by simp; omega) _).mono hz6, (((F4.setCell (by simp; omega) _).setCell (by simp; omega) _).setCell (by simp; omega) _).mono hz6, hap, ((U7.setCell (by simp; omega) _).setCell (by simp; omega) _).setCell (by simp; omega) _⟩
def WhoQ (q : Rat) (w : World) (en : Ending) (w' : World) : Prop :=
 ∃ a1 n1 c1 a2 n2 c2, en = .returned (.agg #[.bool (decide (q.num < 0)), .slice a1 n1 c1, .slice a2 n2 c2]) ∧ Fr 40 w' w.heap.size a1 n1 c1 (limbs q.num.natAbs) ∧ Fr 40 w' w.heap.size a2 n2 c2 (limbs q.den) ∧ Below w.heap.size w w'
theorem rtWholeN_ok (n : Int) (w : World) (hn : -2147483648 ≤ n) (hn2 : n ≤ 2147483647) :
 Calls Tryz.prog 43 #[.int .i64 n] w (WhoQ ((n : Int) : Rat) w) := by
 obtain ⟨W1, hW1⟩ : ∃ W1 : World, W1 = w.alloc (.cells #[.bool false, .slice none 0 0, .slice none 0 0] 29) := ⟨_, rfl⟩
 have hb1 : Below w.heap.size w W1 := hW1 ▸ more (Below.refl _ _) _
 have R1 : Box3 W1 w.heap.size (.bool false) (.slice none 0 0) (.slice none 0 0) := hW1 ▸ box3_new w _ _ _ _
 have hSI := bgRSetInt64_any W1.heap.size W1.heap.size n (W1.alloc (.cells #[.bool false, .slice none 0 0, .slice none 0 0] 88)) (res_new W1 _ _ _ _) (Nat.le_refl _) (by omega)
 have l1 : ln ((n : Int) : Rat).num.natAbs ≤ 16384 := by rw [Rat.num_intCast]; exact Nat.le_trans (ln_small (by omega)) (by decide)
 have l2 : ln ((n : Int) : Rat).den ≤ 16384 := by rw [Rat.den_intCast, ln_one]; decide
 have hTo : ∀ (W : World) b B, Rq 40 W B b ((n : Int) : Rat) → Calls Tryz.prog 82 #[.pointer (some ⟨b, 0, none⟩)] W (RtnQ ((n : Int) : Rat) W) := fun W b B h => told_ok b B _ W h l1 l2
 generalize ((n : Int) : Rat) = q at *
 clear l1 l2
 go_enter Tryz.func43, Tryz.ntmps43
 go_upto_region 1 with fail
 rw [← hW1]
 clear hW1
 go_wp2_with fail
 refine hSI.mono ?_
 rintro en w3 hS3
 obtain ⟨b, rfl, Q3, hb3⟩ := hS3.mk
 have R3 := R1.stay hb3
 go_wp2_with fail
 refine (hTo w3 b _ Q3).mono ?_
 rintro en w4 ⟨a3, n3, f3, a4, n4, f4, rfl, F3, F4, hap, hb4⟩
 have V4 := next (next hb1 hb3) hb4
 have R4 := (R3.stay hb4).alloc (.cells #[.bool (decide (q.num < 0)), .slice a3 n3 f3, .slice a4 n4 f4] 29)
 have N4 := box3_new w4 (.bool (decide (q.num < 0))) (.slice a3 n3 f3) (.slice a4 n4 f4) 29
 have V5 := more V4 (.cells #[.bool (decide (q.num < 0)), .slice a3 n3 f3, .slice a4 n4 f4] 29)
 have G3 := F3.alloc (.cells #[.bool (decide (q.num < 0)), .slice a3 n3 f3, .slice a4 n4 f4] 29)
 have G4 := F4.alloc (.cells #[.bool (decide (q.num < 0)), .slice a3 n3 f3, .slice a4 n4 f4] 29)
 have hz1 := R1.lt
 have hz3 := hb3.size
 have hz0 := hb1.size
 clear hSI hTo Q3 R1 R3 F3 F4
 go_upto_region 2 with fail
 obtain ⟨q4, hq4⟩ : ∃ q, q = w4.heap.size := ⟨_, rfl⟩
 rw [← hq4] at N4 ⊢
 clear hq4 V4 hb3 hb4
 generalize w4.alloc (.cells #[.bool (decide (q.num < 0)), .slice a3 n3 f3, .slice a4 n4 f4] 29) = w5 at R4 N4 V5 G3 G4 ⊢
 have ⟨r0, r1, r2, _, _, _⟩ := R4
 have ⟨m0, m1, m2, _, _, _⟩ := N4
 go_wp2
 obtain ⟨t0, t1, t2⟩ := R4.set (.bool (decide (q.num < 0))) (.slice a3 n3 f3) (.slice a4 n4 f4)
 refine bodyPost_ret (v := .agg #[.bool (decide (q.num < 0)), .slice a3 n3 f3, .slice a4 n4 f4]) (by simp [results, Tryz.results43, go_sem, t0, t1, t2]) rfl ?_
 exact ⟨_, _, _, _, _, _, rfl, (((G3.setCell (by simp; omega) _).setCell (by simp; omega) _).setCell (by simp; omega) _).mono (by omega), (((G4.setCell (by simp; omega) _).setCell (by simp; omega) _).setCell (by simp; omega) _).mono (by omega), ((V5.setCell (Nat.le_refl _) _).setCell (Nat.le_refl _) _).setCell (Nat.le_refl _) _⟩
end
section
attribute [local go_sem] Go.World.cell?_alloc_some
theorem rtNeg_ok (s : Bool) (a1 a2 : Option Addr) (n1 n2 c1 c2 : Nat) (xs ys : List Nat) (w : World) (h1 : Sl w a1 n1 c1 xs) (h2 : Sl w a2 n2 c2 ys) (hT : Tab w) (hr : ratB s xs ys = true) (l1 : n1 ≤ 1000) (l2 : n2 ≤ 1000) :
 Calls Tryz.prog 20 #[.agg #[.bool s, .slice a1 n1 c1, .slice a2 n2 c2]] w (RtnQ (-(sgQ' s (val xs) (val ys))) w) := by
 obtain ⟨W2, hW2⟩ : ∃ W2 : World, W2 = (w.alloc (.cells #[.bool s, .slice a1 n1 c1, .slice a2 n2 c2] 29)).alloc (.cells #[.bool false, .slice none 0 0, .slice none 0 0] 29) := ⟨_, rfl⟩
 have hb2 : Below w.heap.size w W2 := hW2 ▸ more (more (Below.refl _ _) _) _
 have X2 : Box3 W2 w.heap.size (.bool s) (.slice a1 n1 c1) (.slice a2 n2 c2) := hW2 ▸ (box3_new w _ _ _ _).alloc _
 have R2 : Box3 W2 (w.heap.size + 1) (.bool false) (.slice none 0 0) (.slice none 0 0) := by
  have := box3_new (w.alloc (.cells #[.bool s, .slice a1 n1 c1, .slice a2 n2 c2] 29)) (.bool false) (.slice none 0 0) (.slice none 0 0) 29
  rw [World.size_alloc] at this
  exact hW2 ▸ this
 have hZ : ∀ W, Calls Tryz.prog 43 #[.int .i64 0] W (WhoQ 0 W) := fun W => rtWholeN_ok 0 W (by decide) (by decide)
 have hq0 : (0 : Rat).num.natAbs = 0 ∧ (0 : Rat).den = 1 ∧ decide ((0 : Rat).num < 0) = false := by decide
 have hr0 : ratB false (limbs 0) (limbs 1) = true := by decide +kernel
 have hl0 : (limbs 0).length = 0 ∧ (limbs 1).length = 1 ∧ val (limbs 0) = 0 ∧ val (limbs 1) = 1 := by decide +kernel
 have hs0 : sgQ' false 0 1 = 0 := by decide +kernel
 have hO : ∀ (W : World) (z : Nat) (b1 b2 : Option Addr) (m1 m2 d1 d2 : Nat), Below W2.heap.size W2 W → W2.heap.size ≤ z → Res3 W z → Hd 40 W z → Sl W b1 m1 d1 (limbs (0 : Rat).num.natAbs) → Sl W b2 m2 d2 (limbs (0 : Rat).den) →
  Calls Tryz.prog 42 #[.agg #[.bool (decide ((0 : Rat).num < 0)), .slice b1 m1 d1, .slice b2 m2 d2], .agg #[.bool s, .slice a1 n1 c1, .slice a2 n2 c2], .func (.func 44) #[.pointer (some ⟨z, 0, none⟩)] #[]] W (RtnQ (-(sgQ' s (val xs) (val ys))) W2) := fun W z b1 b2 m1 m2 d1 d2 hW hz hR hH k1 k2 => by
  rw [hq0.1] at k1
  rw [hq0.2.1] at k2
  have := rtOf_sub W2 z false s b1 b2 a1 a2 m1 m2 n1 n2 d1 d2 c1 c2 (limbs 0) (limbs 1) xs ys W k1 k2 (h1.below (next hb2 hW)) (h2.below (next hb2 hW)) (hT.below (next hb2 hW)) hr0 hr hW hz hR hH (by rw [← k1.len, hl0.1]; decide) (by rw [← k2.len, hl0.2.1]; decide) l1 l2
  rw [hl0.2.2.1, hl0.2.2.2, hs0, Rat.sub_eq_add_neg, Rat.zero_add] at this
  rw [hq0.2.2]
  exact this
 generalize -(sgQ' s (val xs) (val ys)) = qd at *
 generalize (0 : Rat) = q0 at *
 clear hq0 hr0 hl0 hs0 h1 h2 hT hr l1 l2
 have ⟨x0, x1, x2, _, _, _⟩ := X2
 go_enter Tryz.func20, Tryz.ntmps20
 go_upto_region 1 with fail
 rw [← hW2]
 clear hW2
 go_region_with (first
  | (go_at_call 43; (with_reducible refine (hZ _).mono ?_); rintro en wA ⟨b1, m1, d1, b2, m2, d2, rfl, G1, G2, hbA⟩; have VA : Below W2.heap.size W2 wA := (by first | exact hbA | exact undrew hbA | exact next (more (Below.refl _ _) _) hbA | exact next (more (Below.refl _ _) _).drew hbA); have ⟨u0, u1, u2, _, _, _⟩ := X2.stay VA; (try have Z := (res_new W2 88 (.bool false) (.slice none 0 0) (.slice none 0 0)).stay (by first | exact hbA | exact undrew hbA)); (try have HZ := (hd_new (e := 40) (t := 88) W2 #[.bool false, .slice none 0 0, .slice none 0 0] (by decide)).stay (by simp) (by first | exact hbA | exact undrew hbA)))
  | (go_at_call 42; (first | (with_reducible refine (hO _ W2.heap.size _ _ _ _ _ _ VA (Nat.le_refl _) Z HZ G1.sl G2.sl).mono ?_) | (with_reducible refine (hO _ wA.heap.size _ _ _ _ _ _ (more VA _) VA.size (res_new wA _ _ _ _) (hd_new wA _ (by decide)) (G1.alloc _).sl (G2.alloc _).sl).mono ?_)); rintro en wB ⟨a3, n3, f3, a4, n4, f4, rfl, F3, F4, hap, hbB⟩; have RB := R2.stay hbB; have ⟨y0, y1, y2, y3, y4, y5⟩ := RB))
 all_goals
  have V5 := next hb2 hbB
  have hz2 := hb2.size
  have hz5 := R2.lt
  go_wp2
  obtain ⟨t0, t1, t2⟩ := RB.set (.bool (decide (qd.num < 0))) (.slice a3 n3 f3) (.slice a4 n4 f4)
  refine bodyPost_ret (v := .tuple #[.agg #[.bool (decide (qd.num < 0)), .slice a3 n3 f3, .slice a4 n4 f4], .int .i64 0]) (by simp [results, Tryz.results20, go_sem, t0, t1, t2]) rfl ?_
  exact ⟨_, _, _, _, _, _, rfl, (((F3.setCell (by simp; omega) _).setCell (by simp; omega) _).setCell (by simp; omega) _).mono hz2, (((F4.setCell (by simp; omega) _).setCell (by simp; omega) _).setCell (by simp; omega) _).mono hz2, hap, ((V5.setCell (by simp) _).setCell (by simp) _).setCell (by simp) _⟩
end
section
set_option exponentiation.threshold 5000
def ngD (g : Bool) (D : Ds) : Ds := ⟨g && decide (D.N ≠ 0), D.N, D.x, 0⟩
theorem ng_dy {g : Bool} {D : Ds} (h : Dy false D.N D.x) : Dy (ngD g D).s (ngD g D).N (ngD g D).x :=
 ⟨fun h0 => ⟨by show (g && decide (D.N ≠ 0)) = false; rw [show D.N = 0 from h0]; simp, (h.zero h0).2⟩, h.odd, h.lo, h.hi, h.len⟩
theorem ng_wI (g : Bool) (D : Ds) (b : Int) : wI (ngD g D).s (ngD g D).N (ngD g D).x b = sgI g (upW D.N D.x b) := by
 show wI (g && decide (D.N ≠ 0)) D.N D.x b = _
 by_cases h0 : D.N = 0
 · rw [h0, wI_zero, upW_zero]; exact (sgI_zero.2 rfl).symm
 · rw [decide_eq_true h0, Bool.and_true]; rfl
theorem sgI_add (g : Bool) (m n : Nat) : sgI g (m + n) = sgI g m + sgI g n := by
 unfold sgI
 cases g <;> simp <;> omega
theorem dy_same {D E : Ds} {b : Int} {v w : Int} (h : Wo D b v) (k : Wo E b w) (hv : v = w) (he : D.e = E.e) : D = E := by
 obtain ⟨h1, h2, h3⟩ := dy_one h.dy k.dy h.low k.low (by rw [h.wo, k.wo, hv])
 cases D; cases E
 simp at h1 h2 h3 he
 subst h1 h2 h3 he
 rfl
theorem ng_wo {g : Bool} {D : Ds} {b : Int} (h : Dy false D.N D.x) (hb : D.N ≠ 0 → b ≤ D.x) : Wo (ngD g D) b (sgI g (upW D.N D.x b)) := ⟨ng_dy h, hb, ng_wI g D b⟩
theorem nonneg_wo {D : Ds} {b : Int} {n : Nat} (h : Wo D b (n : Int)) : D.s = false ∧ upW D.N D.x b = n := by
 have h1 := h.wo
 have h2 := wI_abs D.s D.N D.x b
 rw [h1] at h2
 have h3 : upW D.N D.x b = n := by omega
 refine ⟨?_, h3⟩
 by_cases h0 : D.N = 0
 · exact (h.dy.zero h0).1
 · cases hs : D.s
   · rfl
   · exfalso
     have hp := upW_pos (x := D.x) (b := b) h0
     rw [hs] at h1
     unfold wI sgI at h1
     rw [if_pos rfl] at h1
     omega
theorem ng_add {g : Bool} {P Q : Ds} {b : Int} {K : Nat} (h1 : Dy false P.N P.x) (h2 : Dy false Q.N Q.x) (g1 : Bd P.N P.x b K) (g2 : Bd Q.N Q.x b K) (hK : K + 1 ≤ 524288) (hb1 : -1073741824 ≤ b) (hb2 : b + K + 1 ≤ 1073741824) :
 addA (ngD g P).s (limbs P.N) P.x (ngD g Q).s (limbs Q.N) Q.x = ngD g (addA false (limbs P.N) P.x false (limbs Q.N) Q.x) ∧ (addA false (limbs P.N) P.x false (limbs Q.N) Q.x).s = false := by
 obtain ⟨e0, d0, b0⟩ := sum_bd h1 h2 g1 g2 hK hb1 hb2 _ rfl
 obtain ⟨e1, d1, b1⟩ := sum_bd (ng_dy (g := g) h1) (ng_dy (g := g) h2) g1 g2 hK hb1 hb2 _ rfl
 have w0 := addA_worth h1 h2 g1.low g2.low e0
 have w1 := addA_worth (ng_dy (g := g) h1) (ng_dy (g := g) h2) g1.low g2.low e1
 rw [ng_wI, ng_wI, ← sgI_add] at w1
 have w0' : Wo (addA false (limbs P.N) P.x false (limbs Q.N) Q.x) b ((upW P.N P.x b + upW Q.N Q.x b : Nat) : Int) := by
  have : wI false P.N P.x b + wI false Q.N Q.x b = ((upW P.N P.x b + upW Q.N Q.x b : Nat) : Int) := by unfold wI sgI; simp
  rw [← this]; exact w0
 obtain ⟨hs, hu⟩ := nonneg_wo w0'
 rw [hs] at d0
 refine ⟨dy_same w1 (ng_wo (g := g) d0 b0.low) ?_ e1, hs⟩
 rw [hu]
theorem ng_half {g : Bool} {D : Ds} {b : Int} {K : Nat} (h : Dy false D.N D.x) (hb : Bd D.N D.x b K) (hK : K ≤ 524287) (h1 : -1000000 ≤ b) (h2 : b + K ≤ 1000000) :
 mulA (ngD g D).s (limbs D.N) D.x false (limbs 1) (-1) = ngD g (mkA false D.N (D.x - 1)) ∧ (mkA false D.N (D.x - 1)).s = false := by
 have hl1 : (limbs 1).length ≤ 16384 := by decide +kernel
 have d1 : Dy false 1 (-1) := ⟨fun h => absurd h (by decide), fun _ => rfl, by omega, by omega, hl1⟩
 have u1 : upW 1 (-1) (-1) = 1 := by unfold upW; simp
 have g1 : Bd 1 (-1) (-1) 1 := ⟨fun _ => Int.le_refl _, by rw [u1]; decide⟩
 have e1 := mulA_ok (ng_dy (g := g) h) d1 hb g1 (by omega) (by omega) (by omega)
 have w1 := mulA_worth (ng_dy (g := g) h) d1 hb.low g1.low e1
 rw [ng_wI] at w1
 have w1' : wI false 1 (-1) (-1) = 1 := by unfold wI; rw [u1]; rfl
 rw [w1', Int.mul_one] at w1
 have hup : upW D.N (D.x - 1) (b + -1) = upW D.N D.x b := by
  unfold upW
  congr 2
  omega
 have hlow : D.N ≠ 0 → b + -1 ≤ D.x - 1 := fun h => by have := hb.low h; omega
 have e2 : (mkA false D.N (D.x - 1)).e = 0 := by
  by_cases h0 : D.N = 0
  · rw [h0, mkA_zero]; rfl
  · exact (mkA_ok (b := b + -1) (hlow h0) (by rw [hup]; exact hb.top) (by omega) (by omega) (by omega)).2
 have w2 := mkA_worth (s := false) h.len hlow e2
 have w3 : Wo (mkA false D.N (D.x - 1)) (b + -1) ((upW D.N D.x b : Nat) : Int) := by
  have : wI false D.N (D.x - 1) (b + -1) = ((upW D.N D.x b : Nat) : Int) := by unfold wI sgI; rw [hup]; simp
  rw [← this]; exact w2
 obtain ⟨hs, hu⟩ := nonneg_wo w3
 have d2 := w3.dy
 rw [hs] at d2
 refine ⟨dy_same w1 (ng_wo (g := g) d2 w3.low) (by rw [hu]) e1, hs⟩
theorem ex_of_mg {e f a b : Nat} (h : mgN e f a = mgN e f b) : exN e f a = exN e f b ∧ frN f a = frN f b := by
 have hp := pw_pos f
 have la : frN f a < pw f := by rw [frN_eq]; exact Nat.mod_lt _ hp
 have lb : frN f b < pw f := by rw [frN_eq]; exact Nat.mod_lt _ hp
 rw [mg_parts, mg_parts] at h
 have h1 : exN e f a = exN e f b := by
  have e1 : (exN e f a * pw f + frN f a) / pw f = exN e f a := by rw [Nat.mul_comm, Nat.mul_add_div hp, Nat.div_eq_of_lt la, Nat.add_zero]
  have e2 : (exN e f b * pw f + frN f b) / pw f = exN e f b := by rw [Nat.mul_comm, Nat.mul_add_div hp, Nat.div_eq_of_lt lb, Nat.add_zero]
  rw [← e1, h, e2]
 exact ⟨h1, by rw [h1] at h; omega⟩
theorem mg_mg (e f b : Nat) : mgN e f (mgN e f b) = mgN e f b := Nat.mod_mod _ _
theorem sg_mg (e f b : Nat) : sgB e f (mgN e f b) = false := by
 have h := mg_lt e f b
 have hl : mgN e f b < pw (1 + e + f) := by rw [pw_one_more]; omega
 have := @sg_iff e f (mgN e f b) hl
 rw [this]
 exact decide_eq_false (by omega)
theorem val_turned {e f b : Nat} (hf : formE (e : Int) (f : Int) = 0) (hb : b < pw (1 + e + f)) (hx : exN e f b ≠ maskN e) :
 valD (e : Int) (f : Int) b = ngD (sgB e f b) (valD (e : Int) (f : Int) (mgN e f b)) ∧ (valD (e : Int) (f : Int) (mgN e f b)).s = false ∧ exN e f (mgN e f b) ≠ maskN e := by
 obtain ⟨q1, q2, q3, q4⟩ := formE_ok hf
 obtain ⟨x1, x2⟩ := ex_of_mg (mg_mg e f b)
 have hm : mgN e f b < pw (1 + e + f) := by have := mg_lt e f b; rw [pw_one_more]; omega
 have hx' : exN e f (mgN e f b) ≠ maskN e := by rw [x1]; exact hx
 obtain ⟨e1, w1⟩ := valD_ok (fits_bits hf hb) hx (by omega) (by omega)
 obtain ⟨e2, w2⟩ := valD_ok (fits_bits hf hm) hx' (by omega) (by omega)
 have hg : gN e f (mgN e f b) = gN e f b := by unfold gN vN vX; rw [x1, x2]
 rw [sg_mg, hg] at w2
 have w2' : Wo (valD (e : Int) (f : Int) (mgN e f b)) (baseI e f) ((gN e f b : Nat) : Int) := w2
 obtain ⟨hs, hu⟩ := nonneg_wo w2'
 have d2 := w2'.dy
 rw [hs] at d2
 exact ⟨dy_same w1 (ng_wo (g := sgB e f b) d2 w2'.low) (by rw [hu]) e1, hs, hx'⟩
theorem mg_less {e f b : Nat} (hb : b < pw (1 + e + f)) (h0 : mgN e f b ≠ 0) : mgN e f (b - 1) = mgN e f b - 1 ∧ sgB e f (b - 1) = sgB e f b ∧ b - 1 < pw (1 + e + f) := by
 have hm := mg_lt e f b
 have h1 := mg_eq hb
 obtain ⟨k1, k2, k3⟩ := sg_mk (e := e) (f := f) (M := mgN e f b - 1) (by omega) (sgB e f b)
 have h2 : b - 1 = mgN e f b - 1 + if sgB e f b = true then pw (e + f) else 0 := by omega
 rw [h2]
 exact ⟨k3, k2, k1⟩
theorem ref_reach {e f b : Nat} (hf : formE (e : Int) (f : Int) = 0) (hb : b < pw (1 + e + f)) (hx : exN e f b ≠ maskN e) :
 addA (valS (e : Int) (f : Int) b) (limbs (valN (e : Int) (f : Int) b)) (valX (e : Int) (f : Int) b) (sgB e f b) (limbs 1) (unI e f b) = ngD (sgB e f b) (faD e f (mgN e f b)) ∧
 (faD e f (mgN e f b)).s = false ∧ (bfD e f (mgN e f b)).s = false ∧ (valD (e : Int) (f : Int) (mgN e f b)).s = false ∧
 (if mgN e f b ≠ 0 then valD (e : Int) (f : Int) (b - 1) else valD (e : Int) (f : Int) b) = ngD (sgB e f b) (bfD e f (mgN e f b)) := by
 obtain ⟨v1, v2, v3⟩ := val_turned hf hb hx
 have hm := mg_lt e f b
 have hm1 : mgN e f b < pw (1 + e + f) := by rw [pw_one_more]; omega
 obtain ⟨d1, g1⟩ := val_bd hf hm1 v3
 obtain ⟨d2, g2⟩ := un_bd hf v3
 obtain ⟨b1, b2, b3, b4⟩ := base_small hf
 have hu : unI e f b = unI e f (mgN e f b) := by unfold unI; rw [(ex_of_mg (mg_mg e f b)).1]
 have d1' : Dy false (valD (e : Int) (f : Int) (mgN e f b)).N (valD (e : Int) (f : Int) (mgN e f b)).x := by rw [← v2]; exact d1
 obtain ⟨a1, a2⟩ := ng_add (g := sgB e f b) (P := valD (e : Int) (f : Int) (mgN e f b)) (Q := spD e f (mgN e f b)) d1' d2 g1 g2 (by omega) (by omega) (by omega)
 have hfa : faD e f (mgN e f b) = addA false (limbs (valN (e : Int) (f : Int) (mgN e f b))) (valX (e : Int) (f : Int) (mgN e f b)) false (limbs 1) (unI e f (mgN e f b)) := by
  unfold faD
  rw [show valS (e : Int) (f : Int) (mgN e f b) = false from v2]
 have hv : valS (e : Int) (f : Int) b = (ngD (sgB e f b) (valD (e : Int) (f : Int) (mgN e f b))).s ∧ valN (e : Int) (f : Int) b = valN (e : Int) (f : Int) (mgN e f b) ∧ valX (e : Int) (f : Int) b = valX (e : Int) (f : Int) (mgN e f b) :=
  ⟨congrArg Ds.s v1, congrArg Ds.N v1, congrArg Ds.x v1⟩
 refine ⟨?_, ?_, ?_, v2, ?_⟩
 · rw [hv.1, hv.2.1, hv.2.2, hu, hfa]
   have hq : (ngD (sgB e f b) (spD e f (mgN e f b))).s = sgB e f b := by unfold ngD spD; simp
   rw [hq] at a1
   exact a1
 · rw [hfa]; exact a2
 · unfold bfD
   by_cases h0 : mgN e f b = 0
   · rw [if_pos h0]; exact v2
   · rw [if_neg h0]
     obtain ⟨m1, m2, m3⟩ := mg_less hb h0
     have hp2 : mgN e f b - 1 < pw (1 + e + f) := by omega
     have hx2 := before_fin hm v3
     have := (val_turned hf hp2 hx2).2.1
     rwa [mag_self (by omega)] at this
 · unfold bfD
   by_cases h0 : mgN e f b = 0
   · rw [if_neg (by simp [h0]), if_pos h0]; exact v1
   · rw [if_pos h0, if_neg h0]
     obtain ⟨m1, m2, m3⟩ := mg_less hb h0
     have hx2 := before_fin hm v3
     have hx3 : exN e f (b - 1) ≠ maskN e := by
      rw [(ex_of_mg (a := b - 1) (b := mgN e f b - 1) (by rw [m1]; exact (mag_self (by omega)).symm)).1]
      exact hx2
     have := (val_turned hf m3 hx3).1
     rwa [m1, m2] at this
theorem mean_s {P Q : Ds} {b : Int} {K : Nat} (h1 : Dy false P.N P.x) (h2 : Dy false Q.N Q.x) (s1 : P.s = false) (s2 : Q.s = false) (g1 : Bd P.N P.x b K) (g2 : Bd Q.N Q.x b K) (hK : K + 1 ≤ 100000) (hb1 : -100000 ≤ b) (hb2 : b ≤ 100000) :
 (meA P Q).s = false ∧ ∀ g, mulA (addA (ngD g P).s (limbs P.N) P.x (ngD g Q).s (limbs Q.N) Q.x).s (limbs (addA (ngD g P).s (limbs P.N) P.x (ngD g Q).s (limbs Q.N) Q.x).N) (addA (ngD g P).s (limbs P.N) P.x (ngD g Q).s (limbs Q.N) Q.x).x false (limbs 1) (-1) = ngD g (meA P Q) := by
 obtain ⟨e0, d0, b0⟩ := sum_bd h1 h2 g1 g2 (by omega) (by omega) (by omega) _ rfl
 have ha := fun g => ng_add (g := g) h1 h2 g1 g2 (by omega) (by omega) (by omega)
 have hs := (ha true).2
 rw [hs] at d0
 have hh := fun g => ng_half (g := g) d0 b0 (by omega) (by omega) (by omega)
 have hm : meA P Q = mkA false (addA false (limbs P.N) P.x false (limbs Q.N) Q.x).N ((addA false (limbs P.N) P.x false (limbs Q.N) Q.x).x - 1) := by
  unfold meA
  rw [s1, s2, hs]
 refine ⟨by rw [hm]; exact (hh true).2, fun g => ?_⟩
 rw [(ha g).1, hm]
 exact (hh g).1
theorem rc_s {e f b : Nat} (hf : formE (e : Int) (f : Int) = 0) (hp : b < pw (e + f)) (hx : exN e f b ≠ maskN e) (m : Nat) :
 (rcI e f b m).s = false ∧ (rcO e f b m).s = false ∧ Dy false (valD (e : Int) (f : Int) b).N (valD (e : Int) (f : Int) b).x ∧ Dy false (bfD e f b).N (bfD e f b).x ∧ Dy false (faD e f b).N (faD e f b).x ∧
 (∀ g, mulA (addA (ngD g (bfD e f b)).s (limbs (bfD e f b).N) (bfD e f b).x (ngD g (valD (e : Int) (f : Int) b)).s (limbs (valN (e : Int) (f : Int) b)) (valX (e : Int) (f : Int) b)).s (limbs (addA (ngD g (bfD e f b)).s (limbs (bfD e f b).N) (bfD e f b).x (ngD g (valD (e : Int) (f : Int) b)).s (limbs (valN (e : Int) (f : Int) b)) (valX (e : Int) (f : Int) b)).N) (addA (ngD g (bfD e f b)).s (limbs (bfD e f b).N) (bfD e f b).x (ngD g (valD (e : Int) (f : Int) b)).s (limbs (valN (e : Int) (f : Int) b)) (valX (e : Int) (f : Int) b)).x false (limbs 1) (-1) = ngD g (meA (bfD e f b) (valD (e : Int) (f : Int) b))) ∧
 (∀ g, mulA (addA (ngD g (valD (e : Int) (f : Int) b)).s (limbs (valN (e : Int) (f : Int) b)) (valX (e : Int) (f : Int) b) (ngD g (faD e f b)).s (limbs (faD e f b).N) (faD e f b).x).s (limbs (addA (ngD g (valD (e : Int) (f : Int) b)).s (limbs (valN (e : Int) (f : Int) b)) (valX (e : Int) (f : Int) b) (ngD g (faD e f b)).s (limbs (faD e f b).N) (faD e f b).x).N) (addA (ngD g (valD (e : Int) (f : Int) b)).s (limbs (valN (e : Int) (f : Int) b)) (valX (e : Int) (f : Int) b) (ngD g (faD e f b)).s (limbs (faD e f b).N) (faD e f b).x).x false (limbs 1) (-1) = ngD g (meA (valD (e : Int) (f : Int) b) (faD e f b))) := by
 have hp1 : b < pw (1 + e + f) := by rw [pw_one_more]; omega
 obtain ⟨_, hf1, hf2, hf3, _⟩ := ref_reach hf hp1 hx
 rw [mag_self hp] at hf1 hf2 hf3
 obtain ⟨d1, g1⟩ := val_bd hf hp1 hx
 obtain ⟨b1, b2, b3, b4⟩ := base_small hf
 obtain ⟨_, d3, g3, d4, g4⟩ := reach_facts hf hp hx
 have g1' := g1.up (show f + 2 * biasN e ≤ f + 2 * biasN e + 1 by omega)
 have d1' : Dy false (valD (e : Int) (f : Int) b).N (valD (e : Int) (f : Int) b).x := by rw [← hf3]; exact d1
 rw [hf1] at d3
 rw [hf2] at d4
 obtain ⟨k1, k2⟩ := mean_s d4 d1' hf2 hf3 g4 g1' (by omega) (by omega) (by omega)
 obtain ⟨k3, k4⟩ := mean_s d1' d3 hf3 hf1 g1' g3 (by omega) (by omega) (by omega)
 refine ⟨?_, ?_, d1', d4, d3, k2, k4⟩
 · unfold rcI
   by_cases m2 : m = 2
   · rw [if_pos m2]; exact hf3
   · rw [if_neg m2]
     by_cases m3 : m = 3
     · rw [if_pos m3]; exact hf2
     · rw [if_neg m3]; exact k1
 · unfold rcO
   by_cases m2 : m = 2
   · rw [if_pos m2]; exact hf1
   · rw [if_neg m2]
     by_cases m3 : m = 3
     · rw [if_pos m3]; exact hf3
     · rw [if_neg m3]; exact k3
theorem up_cop {s : Bool} {N : Nat} {X : Int} (h : Dy s N X) : Nat.gcd (upN N X) (upD X) = 1 := by
 unfold upN upD
 by_cases h0 : 0 ≤ X
 · rw [show (-X).toNat = 0 by omega, Nat.pow_zero, Nat.gcd_one_right]
 · by_cases hN : N = 0
   · have := (h.zero hN).2
     omega
   · rw [show X.toNat = 0 by omega, Nat.pow_zero, Nat.mul_one]
     have h2 : Nat.Coprime N 2 := by
      have := h.odd hN
      unfold Nat.Coprime
      rw [Nat.gcd_comm, Nat.gcd_rec, this]
      rfl
     exact Nat.Coprime.pow_right _ h2
theorem neg_low {N D : Nat} (hD : D ≠ 0) (hG : Nat.gcd N D = 1) : (-(sgQ' false N D)).num.natAbs = N ∧ (-(sgQ' false N D)).den = D ∧ decide ((-(sgQ' false N D)).num < 0) = decide (N ≠ 0) := by
 have h1 : -(sgQ' false N D) = sgQ' (decide (N ≠ 0)) N D := by
  unfold sgQ'
  rw [Rat.neg_mkRat]
  by_cases h0 : N = 0
  · rw [h0]; simp
  · rw [if_neg (by decide), if_pos (by simpa using h0)]
 rw [h1]
 exact mk_low hD hG (fun h => of_decide_eq_true h)
theorem low6 {N : Nat} {X b : Int} {K : Nat} (h : Dy false N X) (g : Bd N X b K) (hb : -2000 ≤ b) (hb0 : b ≤ 0) (hK : K ≤ 4000) :
 ratB false (limbs (upN N X)) (limbs (upD X)) = true ∧ (limbs (upN N X)).length ≤ 1000 ∧ (limbs (upD X)).length ≤ 1000 ∧
 (-(sgQ' false (upN N X) (upD X))).num.natAbs = upN N X ∧ (-(sgQ' false (upN N X) (upD X))).den = upD X ∧ decide ((-(sgQ' false (upN N X) (upD X))).num < 0) = decide (N ≠ 0) := by
 have u1 : upN N X < 2 ^ K := by
  refine Nat.lt_of_le_of_lt ?_ g.top
  unfold upN upW
  exact Nat.mul_le_mul_left _ (Nat.pow_le_pow_right (by decide) (by omega))
 have hX : -2000 ≤ X := by
  by_cases h0 : N = 0
  · have := (h.zero h0).2; omega
  · have := g.low h0; omega
 have u2 : upD X < 2 ^ 2001 := by
  unfold upD
  exact Nat.pow_lt_pow_right (by decide) (by omega)
 have l1 : (limbs (upN N X)).length ≤ 1000 := Nat.le_trans (len_pow (k := 125) u1 (by omega)) (by decide)
 have l2 : (limbs (upD X)).length ≤ 1000 := Nat.le_trans (len_pow (k := 63) u2 (by decide)) (by decide)
 have hc := up_cop h
 obtain ⟨n1, n2, n3⟩ := neg_low (upD_pos X) hc
 have hz : decide (upN N X ≠ 0) = decide (N ≠ 0) := by
  refine decide_eq_decide.2 ⟨fun hh h0 => hh (by unfold upN; rw [h0, Nat.zero_mul]), fun hh => ?_⟩
  unfold upN
  exact Nat.mul_ne_zero hh (Nat.ne_of_gt (Nat.two_pow_pos _))
 refine ⟨?_, l1, l2, n1, n2, n3.trans hz⟩
 unfold ratB
 refine decide_eq_true ⟨chk_lm6 (by omega), chk_lm6 (by omega), ?_, ?_, fun h => by cases h⟩
 · rw [limbs_pos (upD_pos X)]; simp
 · rw [val_limbs', val_limbs']; exact hc
end
end Go.Proofs.YtpmncmglmobjoaaGreatDoor
