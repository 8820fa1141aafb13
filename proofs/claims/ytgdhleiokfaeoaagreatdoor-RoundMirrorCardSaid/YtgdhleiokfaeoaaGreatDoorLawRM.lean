/-
  The walk of the law RoundMirror: it answers true, whatever it is asked; nothing that was there has turned.
-/
import Derived.Test.YtgdhleiokfaeoaaGreatDoorRtL
import Derived.Test.YtgdhleiokfaeoaaGreatDoorRtN
import Derived.Test.YtgdhleiokfaeoaaGreatDoorMirM
import Derived.Test.YtgdhleiokfaeoaaGreatDoorOrdW
import Derived.Test.YtgdhleiokfaeoaaGreatDoorAliv5
namespace Go.Proofs.YtgdhleiokfaeoaaGreatDoor
open Go.RowKit Go.Lb

attribute [local go_sem] Go.World.cell?_alloc_some

theorem mir_get {m : Nat} (hm : m < 5) (h : m < [Value.int .u8 0, .int .u8 1, .int .u8 2, .int .u8 4, .int .u8 3].length) : [Value.int .u8 0, .int .u8 1, .int .u8 2, .int .u8 4, .int .u8 3][m] = .int .u8 (mirM m : Int) := by
  have hmm : m = 0 ∨ m = 1 ∨ m = 2 ∨ m = 3 ∨ m = 4 := by omega
  rcases hmm with rfl | rfl | rfl | rfl | rfl <;> rfl

theorem mir_lt {m : Nat} (hm : m < 5) : mirM m < 5 := by unfold mirM; split <;> (try split) <;> omega

theorem sgb_lt (E F N D : Nat) (s neg : Bool) (m : Nat) : sgBits E F N D s neg m < 2 * 2 ^ (E + F) := by
  have h1 := fl_lt (E := E) (F := F) N D s m
  have h2 := Nat.two_pow_pos (E + F)
  unfold sgBits
  split
  · split <;> omega
  · split <;> omega

theorem turn_xor {E F b S : Nat} (hS : S = 2 ^ (E + F)) (h : b < 2 * 2 ^ (E + F)) (hl : E + F ≤ 63) : bits BinOp.xor IntKind.u64 (b : Int) (S : Int) = (turnN E F b : Int) := by
  have e2 : 2 ^ (E + F) ≤ 2 ^ 63 := Nat.pow_le_pow_right (by decide) (by omega)
  have e3 : (2 : Nat) ^ 63 = 9223372036854775808 := by decide
  rw [u64_xor_nat _ _ (by omega) (by omega), hS, xor_turn h]
  rfl

/-- An answer of round's Ratio and Scaled of a fraction by its worth. -/
theorem rd_rat {E F m : Nat} {a1 a2 : Option Addr} {n1 n2 c1 c2 : Nat} (q : Rat) (n : Int) (neg : Bool) (W : World) (h1 : Sl W a1 n1 c1 (limbs q.num.natAbs)) (h2 : Sl W a2 n2 c2 (limbs q.den)) (hT : Tab W) (l1 : ln q.num.natAbs ≤ 400) (l2 : ln q.den ≤ 400) (hf : formE (E : Int) (F : Int) = 0) (hm : m < 5) :
    (Calls Tryz.prog 17 #[.agg #[.int .i64 (E : Int), .int .i64 (F : Int)], .agg #[.bool (decide (q.num < 0)), .slice a1 n1 c1, .slice a2 n2 c2], .int .i64 n, .bool neg, .int .u8 (m : Int)] W fun en w' => en = .returned (.tuple #[.int .u64 (sgBits E F (scnN q.num.natAbs q.den n) (scnD q.num.natAbs q.den n) (decide (q.num < 0)) neg m : Int), .int .u8 (sgFlags E F (scnN q.num.natAbs q.den n) (scnD q.num.natAbs q.den n) (decide (q.num < 0)) m : Int), .int .i64 0]) ∧ Below W.heap.size W w') ∧
    (Calls Tryz.prog 14 #[.agg #[.int .i64 (E : Int), .int .i64 (F : Int)], .agg #[.bool (decide (q.num < 0)), .slice a1 n1 c1, .slice a2 n2 c2], .bool neg, .int .u8 (m : Int)] W fun en w' => en = .returned (.tuple #[.int .u64 (sgBits E F q.num.natAbs q.den (decide (q.num < 0)) neg m : Int), .int .u8 (sgFlags E F q.num.natAbs q.den (decide (q.num < 0)) m : Int), .int .i64 0]) ∧ Below W.heap.size W w') := by
  have hr := rat_limbs q (by omega) (by omega)
  have e1 : n1 ≤ 400 := by rw [← h1.len]; exact l1
  have e2 : n2 ≤ 400 := by rw [← h2.len]; exact l2
  have A := rdScaled_any a1 a2 n1 n2 c1 c2 m (E : Int) (F : Int) n (decide (q.num < 0)) neg _ _ W h1 h2 hT e1 e2
  have B := rdRatio_any a1 a2 n1 n2 c1 c2 m (E : Int) (F : Int) (decide (q.num < 0)) neg _ _ W h1 h2 hT e1 e2
  obtain ⟨p1, p2, p3⟩ := sc_rat hf hr hm n neg
  obtain ⟨_, q2, q3⟩ := sc_rat hf hr hm 0 neg
  obtain ⟨_, _, _, _, z1, z2⟩ := scn_one q.num.natAbs q.den
  rw [p1, p2, p3, val_limbs', val_limbs'] at A
  rw [p1, q2, q3, val_limbs', val_limbs', z1, z2] at B
  exact ⟨A, B⟩

set_option maxRecDepth 100000 in
set_option maxHeartbeats 4000000 in
theorem roundMirror_any (e f : Int) (s : Bool) (a1 a2 : Option Addr) (n1 n2 c1 c2 m : Nat) (xs ys : List Nat) (w : World) (h1 : Sl w a1 n1 c1 xs) (h2 : Sl w a2 n2 c2 ys) (hT : Tab w) :
    Calls Tryz.prog 8 #[.agg #[.int .i64 e, .int .i64 f], .agg #[.bool s, .slice a1 n1 c1, .slice a2 n2 c2], .int .u8 (m : Int)] w fun en w' => en = .returned (.bool true) ∧ Below w.heap.size w w' := by
  obtain ⟨W2, hW2⟩ : ∃ W2 : World, W2 = (w.alloc (.cells #[.int .i64 e, .int .i64 f] 23)).alloc (.cells #[.bool s, .slice a1 n1 c1, .slice a2 n2 c2] 28) := ⟨_, rfl⟩
  have hb2 : Below w.heap.size w W2 := hW2 ▸ more (more (Below.refl _ _) _) _
  have f0 : W2.cell? ⟨w.heap.size, 0, none⟩ = some (.int .i64 e) := by rw [hW2]; simp [World.cell?_alloc_some]
  have f1 : W2.cell? ⟨w.heap.size, 1, none⟩ = some (.int .i64 f) := by rw [hW2]; simp [World.cell?_alloc_some]
  have X2 : Box3 W2 (w.heap.size + 1) (.bool s) (.slice a1 n1 c1) (.slice a2 n2 c2) := by
    have := box3_new (w.alloc (.cells #[.int .i64 e, .int .i64 f] 23)) (.bool s) (.slice a1 n1 c1) (.slice a2 n2 c2) 28
    rw [World.size_alloc] at this
    exact hW2 ▸ this
  have hA := alive5_any W2 (hT.below hb2)
  have k1 : ∀ W, Below w.heap.size w W → Calls Tryz.prog 26 #[.agg #[.int .i64 e, .int .i64 f], .agg #[.bool s, .slice a1 n1 c1, .slice a2 n2 c2]] W _ := fun W hW => asked5_any e f s a1 a2 n1 n2 c1 c2 xs ys W (h1.below hW) (h2.below hW) (hT.below hW)
  go_enter Tryz.func8, Tryz.ntmps8
  go_wp2_with fail
  rw [← hW2]
  clear hW2
  refine hA.mono ?_
  rintro en w4 ⟨rfl, hb4⟩
  have V4 := next hb2 hb4
  have X4 := X2.stay hb4
  have g0 := cellStay f0 hb4
  have g1 := cellStay f1 hb4
  clear hA X2 f0 f1 hb4 hb2
  have ⟨x0, x1, x2, _, _, _⟩ := X4
  go_wp2_with fail
  with_reducible refine (k1 w4 V4).mono ?_
  rintro en w5 ⟨rfl, hb5⟩
  have V5 := next V4 hb5
  have X5 := X4.stay hb5
  have p0 := cellStay g0 hb5
  have p1 := cellStay g1 hb5
  clear x0 x1 x2 X4 g0 g1 hb5 V4 k1
  by_cases ha : askB e f s xs ys n1 n2 = true
  · rw [ha]
    by_cases hm : 4 < m
    · have hm4 : (m : Int) > 4 := by omega
      go_wp2
      go_ret
      exact ⟨rfl, V5⟩
    · have hm4 : ¬ (m : Int) > 4 := by omega
      obtain ⟨hf, hr, l1, l2⟩ := of_decide_eq_true ha
      clear ha
      obtain ⟨e1, e2, e3, e4⟩ := formE_ok hf
      obtain ⟨E, rfl⟩ : ∃ E : Nat, e = (E : Int) := ⟨e.toNat, by omega⟩
      obtain ⟨F, rfl⟩ : ∃ F : Nat, f = (F : Int) := ⟨f.toNat, by omega⟩
      obtain ⟨_, _, hD, hG, hs, _, _⟩ := rat_facts5 h1 h2 hr
      have hm5 : m < 5 := by omega
      obtain ⟨⟨y1, y2⟩, ⟨t1, t2⟩, ⟨t3, t4⟩⟩ := mirror_facts (E := E) (F := F) hm5 hD hG hs
      obtain ⟨q1, q2, q3⟩ := mk_low hD hG hs
      have lN : ln (val xs) ≤ 60 := Nat.le_trans (ln_le (val_lt h1.ok)) (by rw [h1.len]; exact l1)
      have lD : ln (val ys) ≤ 60 := Nat.le_trans (ln_le (val_lt h2.ok)) (by rw [h2.len]; exact l2)
      obtain ⟨tl1, tl2⟩ := tn_len (sgQ' s (val xs) (val ys)) 1
      rw [q1] at tl1
      rw [q2] at tl2
      have l11 : (1 : Int).natAbs = 1 := rfl
      have cN : ∀ W, Below w.heap.size w W → Calls Tryz.prog 32 #[.agg #[.bool s, .slice a1 n1 c1, .slice a2 n2 c2]] W _ := fun W hW => rtNeg_ok s a1 a2 n1 n2 c1 c2 xs ys W (h1.below hW) (h2.below hW) (hT.below hW) hr (by omega) (by omega)
      have cK : ∀ W, Below w.heap.size w W → Calls Tryz.prog 33 #[.agg #[.bool s, .slice a1 n1 c1, .slice a2 n2 c2], .int .u32 10, .int .i64 1] W (RtnW (tnQ (sgQ' s (val xs) (val ys)) 1) W) := fun W hW => by
        by_cases h0 : val xs = 0
        · exact rtScale_zero 1 (.inl rfl) s a1 a2 n1 n2 c1 c2 xs ys W (h1.below hW) (h2.below hW) (hT.below hW) hr h0
        · exact rtScale_up s a1 a2 n1 n2 c1 c2 xs ys W (h1.below hW) (h2.below hW) (hT.below hW) hr h0 (by omega) (by omega)
      have cY : ∀ W a3 a4 n3 n4 c3 c4, Below w.heap.size w W → Sl W a3 n3 c3 (limbs (-(sgQ' s (val xs) (val ys))).num.natAbs) → Sl W a4 n4 c4 (limbs (-(sgQ' s (val xs) (val ys))).den) → Calls Tryz.prog 14 #[.agg #[.int .i64 (E : Int), .int .i64 (F : Int)], .agg #[.bool (decide ((-(sgQ' s (val xs) (val ys))).num < 0)), .slice a3 n3 c3, .slice a4 n4 c4], .bool true, .int .u8 (mirM m : Int)] W _ := fun W a3 a4 n3 n4 c3 c4 hW j1 j2 => (rd_rat _ 0 true W j1 j2 (hT.below hW) (by rw [Rat.neg_num, Int.natAbs_neg, q1]; omega) (by rw [Rat.neg_den, q2]; omega) hf (mir_lt hm5)).2
      have cT : ∀ W a3 a4 n3 n4 c3 c4, Below w.heap.size w W → Sl W a3 n3 c3 (limbs (tnQ (sgQ' s (val xs) (val ys)) 1).num.natAbs) → Sl W a4 n4 c4 (limbs (tnQ (sgQ' s (val xs) (val ys)) 1).den) → Calls Tryz.prog 17 #[.agg #[.int .i64 (E : Int), .int .i64 (F : Int)], .agg #[.bool (decide ((tnQ (sgQ' s (val xs) (val ys)) 1).num < 0)), .slice a3 n3 c3, .slice a4 n4 c4], .int .i64 (-1), .bool false, .int .u8 (m : Int)] W _ := fun W a3 a4 n3 n4 c3 c4 hW j1 j2 => (rd_rat _ (-1) false W j1 j2 (hT.below hW) (by omega) (by omega) hf hm5).1
      have cU : ∀ W a3 a4 n3 n4 c3 c4, Below w.heap.size w W → Sl W a3 n3 c3 (limbs (tnQ (sgQ' s (val xs) (val ys)) 1).num.natAbs) → Sl W a4 n4 c4 (limbs (tnQ (sgQ' s (val xs) (val ys)) 1).den) → Calls Tryz.prog 14 #[.agg #[.int .i64 (E : Int), .int .i64 (F : Int)], .agg #[.bool (decide ((tnQ (sgQ' s (val xs) (val ys)) 1).num < 0)), .slice a3 n3 c3, .slice a4 n4 c4], .bool false, .int .u8 (m : Int)] W _ := fun W a3 a4 n3 n4 c3 c4 hW j1 j2 => (rd_rat _ 0 false W j1 j2 (hT.below hW) (by omega) (by omega) hf hm5).2
      have cA : ∀ W, Below w.heap.size w W → Calls Tryz.prog 14 #[.agg #[.int .i64 (E : Int), .int .i64 (F : Int)], .agg #[.bool s, .slice a1 n1 c1, .slice a2 n2 c2], .bool false, .int .u8 (m : Int)] W _ := fun W hW => rdRatio_any a1 a2 n1 n2 c1 c2 m (E : Int) (F : Int) s false xs ys W (h1.below hW) (h2.below hW) (hT.below hW) (by omega) (by omega)
      have cB : ∀ W, Below w.heap.size w W → Calls Tryz.prog 17 #[.agg #[.int .i64 (E : Int), .int .i64 (F : Int)], .agg #[.bool s, .slice a1 n1 c1, .slice a2 n2 c2], .int .i64 1, .bool false, .int .u8 (m : Int)] W _ := fun W hW => rdScaled_any a1 a2 n1 n2 c1 c2 m (E : Int) (F : Int) 1 s false xs ys W (h1.below hW) (h2.below hW) (hT.below hW) (by omega) (by omega)
      obtain ⟨r1, r2, r3⟩ := sc_rat hf hr hm5 0 false
      obtain ⟨_, r5, r6⟩ := sc_rat hf hr hm5 1 false
      obtain ⟨u1, u2, _, _, u5, u6⟩ := scn_one (val xs) (val ys)
      obtain ⟨_, _, v3, v4, _, _⟩ := scn_one (tnQ (sgQ' s (val xs) (val ys)) 1).num.natAbs (tnQ (sgQ' s (val xs) (val ys)) 1).den
      rw [u5, u6] at r2 r3
      rw [u1, u2] at r5 r6
      simp only [r1, r2, r3] at cA
      simp only [r1, r5, r6] at cB
      simp only [v3, v4, t1, t2] at cT
      simp only [t3, t4] at cU
      simp only [y1, y2] at cY
      obtain ⟨S, hS⟩ : ∃ S, S = 2 ^ (E + F) := ⟨_, rfl⟩
      obtain ⟨k, hk⟩ : ∃ k : Nat, (E : Int) + (F : Int) = (k : Int) := ⟨E + F, by omega⟩
      have hkk : k = E + F := by omega
      have hk2 : k ≤ 63 := by omega
      have hx := turn_xor hS (sgb_lt E F (val xs) (val ys) s false m) (by omega)
      have hw1 : IntKind.u64.wrap (2 ^ k) = (S : Int) := by
        have e2 : 2 ^ (E + F) ≤ 2 ^ 63 := Nat.pow_le_pow_right (by decide) (by omega)
        have e3 : (2 : Nat) ^ 63 = 9223372036854775808 := by decide
        have c1 : (2 : Int) ^ (E + F) = ((2 ^ (E + F) : Nat) : Int) := by simp
        rw [hkk, c1, ← hS, IntKind.wrap_u64]
        omega
      have hg := mir_get hm5
      generalize -(sgQ' s (val xs) (val ys)) = qy at *
      generalize tnQ (sgQ' s (val xs) (val ys)) 1 = qt at *
      generalize turnN E F (sgBits E F (val xs) (val ys) s false m) = tb at *
      generalize sgBits E F (val xs) (val ys) s false m = bb at *
      generalize sgFlags E F (val xs) (val ys) s m = gg at *
      generalize sgBits E F (val xs * 10) (val ys) s false m = b1 at *
      generalize sgFlags E F (val xs * 10) (val ys) s m = g1 at *
      generalize mirM m = mm at *
      clear y1 y2 t1 t2 t3 t4 q1 q2 q3 tl1 tl2 lN lD l11 r1 r2 r3 r5 r6 u1 u2 u5 u6 v3 v4 hS hkk h1 h2 hT hr hf hD hG hs l1 l2 e1 e2 e3 e4 hm
      have hm0 : (m : Int) < 5 := by omega
      have ⟨x0, x1, x2, _, _, _⟩ := X5
      go_upto_region 6 with fail
      clear hg
      have V6 := more V5 (.cells #[.int .u8 0, .int .u8 1, .int .u8 2, .int .u8 4, .int .u8 3] 5)
      have X6 := X5.alloc (.cells #[.int .u8 0, .int .u8 1, .int .u8 2, .int .u8 4, .int .u8 3] 5)
      have q0 := cellStay p0 (more (Below.refl _ _) (.cells #[.int .u8 0, .int .u8 1, .int .u8 2, .int .u8 4, .int .u8 3] 5))
      have q1 := cellStay p1 (more (Below.refl _ _) (.cells #[.int .u8 0, .int .u8 1, .int .u8 2, .int .u8 4, .int .u8 3] 5))
      clear x0 x1 x2 X5 p0 p1 V5
      generalize w5.alloc (.cells #[.int .u8 0, .int .u8 1, .int .u8 2, .int .u8 4, .int .u8 3] 5) = w6 at *
      have ⟨x0, x1, x2, _, _, _⟩ := X6
      go_wp2_with fail
      with_reducible refine (cN w6 V6).mono ?_
      rintro en w7 ⟨a3, n3, c3, a4, n4, c4, rfl, F3, F4, _, hb7⟩
      have V8 := more (next V6 hb7) (.cells #[.bool (decide (qy.num < 0)), .slice a3 n3 c3, .slice a4 n4 c4] 28)
      have X8 := (X6.stay hb7).alloc (.cells #[.bool (decide (qy.num < 0)), .slice a3 n3 c3, .slice a4 n4 c4] 28)
      have Y8 := box3_new w7 (.bool (decide (qy.num < 0))) (.slice a3 n3 c3) (.slice a4 n4 c4) 28
      have p0 := cellStay q0 (more hb7 (.cells #[.bool (decide (qy.num < 0)), .slice a3 n3 c3, .slice a4 n4 c4] 28))
      have p1 := cellStay q1 (more hb7 (.cells #[.bool (decide (qy.num < 0)), .slice a3 n3 c3, .slice a4 n4 c4] 28))
      have G3 := (F3.alloc (.cells #[.bool (decide (qy.num < 0)), .slice a3 n3 c3, .slice a4 n4 c4] 28)).sl
      have G4 := (F4.alloc (.cells #[.bool (decide (qy.num < 0)), .slice a3 n3 c3, .slice a4 n4 c4] 28)).sl
      clear x0 x1 x2 X6 q0 q1 V6 hb7 cN F3 F4
      go_upto_region 7 with fail
      obtain ⟨Y, hY⟩ : ∃ q, q = w7.heap.size := ⟨_, rfl⟩
      rw [← hY] at Y8 ⊢
      clear hY
      generalize w7.alloc (.cells #[.bool (decide (qy.num < 0)), .slice a3 n3 c3, .slice a4 n4 c4] 28) = w8 at *
      have ⟨x0, x1, x2, _, _, _⟩ := X8
      go_wp2_with fail
      with_reducible refine (cK w8 V8).mono ?_
      rintro en w9 ⟨b3, m3, d3, b4, m4, d4, rfl, F3, F4, hb9⟩
      have V10 := more (next V8 hb9) (.cells #[.bool (decide (qt.num < 0)), .slice b3 m3 d3, .slice b4 m4 d4] 28)
      have X10 := (X8.stay hb9).alloc (.cells #[.bool (decide (qt.num < 0)), .slice b3 m3 d3, .slice b4 m4 d4] 28)
      have Y10 := (Y8.stay hb9).alloc (.cells #[.bool (decide (qt.num < 0)), .slice b3 m3 d3, .slice b4 m4 d4] 28)
      have Z10 := box3_new w9 (.bool (decide (qt.num < 0))) (.slice b3 m3 d3) (.slice b4 m4 d4) 28
      have q0 := cellStay p0 (more hb9 (.cells #[.bool (decide (qt.num < 0)), .slice b3 m3 d3, .slice b4 m4 d4] 28))
      have q1 := cellStay p1 (more hb9 (.cells #[.bool (decide (qt.num < 0)), .slice b3 m3 d3, .slice b4 m4 d4] 28))
      have J3 := G3.below (more hb9 (.cells #[.bool (decide (qt.num < 0)), .slice b3 m3 d3, .slice b4 m4 d4] 28))
      have J4 := G4.below (more hb9 (.cells #[.bool (decide (qt.num < 0)), .slice b3 m3 d3, .slice b4 m4 d4] 28))
      have G3 := (F3.alloc (.cells #[.bool (decide (qt.num < 0)), .slice b3 m3 d3, .slice b4 m4 d4] 28)).sl
      have G4 := (F4.alloc (.cells #[.bool (decide (qt.num < 0)), .slice b3 m3 d3, .slice b4 m4 d4] 28)).sl
      clear x0 x1 x2 X8 Y8 p0 p1 V8 hb9 cK F3 F4
      go_upto_region 8 with fail
      obtain ⟨Z, hZ⟩ : ∃ q, q = w9.heap.size := ⟨_, rfl⟩
      rw [← hZ] at Z10 ⊢
      clear hZ
      generalize w9.alloc (.cells #[.bool (decide (qt.num < 0)), .slice b3 m3 d3, .slice b4 m4 d4] 28) = w10 at *
      have ⟨x0, x1, x2, _, _, _⟩ := X10
      go_wp2_with fail
      with_reducible refine (cA w10 V10).mono ?_
      rintro en w11 ⟨rfl, hb⟩
      have V11 := next V10 hb
      have X11 := X10.stay hb
      have Y11 := Y10.stay hb
      have Z11 := Z10.stay hb
      have p0 := cellStay q0 hb
      have p1 := cellStay q1 hb
      replace J3 := J3.below hb
      replace J4 := J4.below hb
      replace G3 := G3.below hb
      replace G4 := G4.below hb
      clear x0 x1 x2 X10 Y10 Z10 q0 q1 V10 hb cA
      have ⟨x0, x1, x2, _, _, _⟩ := Y11
      go_wp2_with fail
      with_reducible refine (cY w11 _ _ _ _ _ _ V11 J3 J4).mono ?_
      rintro en w12 ⟨rfl, hb⟩
      have V12 := next V11 hb
      have X12 := X11.stay hb
      have Z12 := Z11.stay hb
      have q0 := cellStay p0 hb
      have q1 := cellStay p1 hb
      replace G3 := G3.below hb
      replace G4 := G4.below hb
      clear x0 x1 x2 X11 Y11 Z11 p0 p1 V11 J3 J4 hb cY
      have ⟨x0, x1, x2, _, _, _⟩ := Z12
      go_wp2_with fail
      with_reducible refine (cT w12 _ _ _ _ _ _ V12 G3 G4).mono ?_
      rintro en w13 ⟨rfl, hb⟩
      have V13 := next V12 hb
      have X13 := X12.stay hb
      have Z13 := Z12.stay hb
      have p0 := cellStay q0 hb
      have p1 := cellStay q1 hb
      replace G3 := G3.below hb
      replace G4 := G4.below hb
      clear x0 x1 x2 X12 Z12 q0 q1 V12 hb cT
      have ⟨x0, x1, x2, _, _, _⟩ := Z13
      go_wp2_with fail
      with_reducible refine (cU w13 _ _ _ _ _ _ V13 G3 G4).mono ?_
      rintro en w14 ⟨rfl, hb⟩
      have V14 := next V13 hb
      have X14 := X13.stay hb
      have q0 := cellStay p0 hb
      have q1 := cellStay p1 hb
      clear x0 x1 x2 X13 Z13 p0 p1 V13 G3 G4 hb cU
      have ⟨x0, x1, x2, _, _, _⟩ := X14
      go_wp2_with fail
      with_reducible refine (cB w14 V14).mono ?_
      rintro en w15 ⟨rfl, hb⟩
      have V15 := next V14 hb
      have p0 := cellStay q0 hb
      have p1 := cellStay q1 hb
      clear x0 x1 x2 X14 q0 q1 V14 hb cB
      go_wp2
      go_ret
      exact ⟨by simp, V15⟩
  · have ha' : askB e f s xs ys n1 n2 = false := by simpa using ha
    rw [ha']
    go_wp2
    go_ret
    exact ⟨rfl, V5⟩

end Go.Proofs.YtgdhleiokfaeoaaGreatDoor
