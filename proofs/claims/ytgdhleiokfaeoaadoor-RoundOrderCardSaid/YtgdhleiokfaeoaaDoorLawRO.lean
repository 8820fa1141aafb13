/-
  The walk of the law RoundOrder: it answers true, whatever it is asked; nothing that was there has turned.
-/
import Derived.Test.YtgdhleiokfaeoaaDoorOrdW
import Derived.Test.YtgdhleiokfaeoaaDoorAliv5
namespace Go.Proofs.YtgdhleiokfaeoaaDoor
open Go.RowKit Go.Lb

attribute [local go_sem] Go.World.cell?_alloc_some

theorem sgQ_num (s : Bool) {N D : Nat} (hD : D ≠ 0) (hG : Nat.gcd N D = 1) (hs : s = true → N ≠ 0) : (sgQ' s N D).num = if s = true then -(N : Int) else (N : Int) := by
  obtain ⟨q1, _, q3⟩ := mk_low hD hG hs
  cases s
  · have := of_decide_eq_false q3
    simp only [Bool.false_eq_true, if_false]
    omega
  · have := of_decide_eq_true q3
    simp only [if_true]
    omega

theorem cmp_ord {s t : Bool} {N D N' D' : Nat} (hD : D ≠ 0) (hG : Nat.gcd N D = 1) (hs : s = true → N ≠ 0) (hD' : D' ≠ 0) (hG' : Nat.gcd N' D' = 1) (hs' : t = true → N' ≠ 0) :
    cmpQ (sgQ' s N D) (sgQ' t N' D') = if ordZ s N D t N' D' < 0 then -1 else if 0 < ordZ s N D t N' D' then 1 else 0 := by
  have e1 := sgQ_num s hD hG hs
  have e2 := sgQ_num t hD' hG' hs'
  obtain ⟨_, q2, _⟩ := mk_low hD hG hs
  obtain ⟨_, r2, _⟩ := mk_low hD' hG' hs'
  have ho : ordZ s N D t N' D' = (sgQ' s N D).num * ((sgQ' t N' D').den : Int) - (sgQ' t N' D').num * ((sgQ' s N D).den : Int) := by
    rw [e1, e2, q2, r2]
    unfold ordZ
    cases s <;> cases t <;> simp [Int.neg_mul, Int.sub_neg]
  rw [cmpQ_cross, ho]
  generalize (sgQ' s N D).num * ((sgQ' t N' D').den : Int) = X
  generalize (sgQ' t N' D').num * ((sgQ' s N D).den : Int) = Y
  by_cases h1 : X < Y
  · rw [if_pos h1, if_pos (show X - Y < 0 by omega)]
  · rw [if_neg h1, if_neg (show ¬ X - Y < 0 by omega)]
    by_cases h2 : Y < X
    · rw [if_pos h2, if_pos (show 0 < X - Y by omega)]
    · rw [if_neg h2, if_neg (show ¬ 0 < X - Y by omega)]

theorem ord_turn (s : Bool) (N D : Nat) (t : Bool) (N' D' : Nat) : ordZ t N' D' s N D = -ordZ s N D t N' D' := by
  unfold ordZ
  omega

/-- Two keys stand as two fractions do. -/
theorem order_keys {E F : Nat} {s t : Bool} {N D N' D' : Nat} (hD : D ≠ 0) (hG : Nat.gcd N D = 1) (hs : s = true → N ≠ 0) (hD' : D' ≠ 0) (hG' : Nat.gcd N' D' = 1) (hs' : t = true → N' ≠ 0) (m : Nat) :
    (cmpQ (sgQ' s N D) (sgQ' t N' D') = 0 ∧ keyZ E F (sgBits E F N D s false m) = keyZ E F (sgBits E F N' D' t false m)) ∨ (cmpQ (sgQ' s N D) (sgQ' t N' D') = -1 ∧ keyZ E F (sgBits E F N D s false m) ≤ keyZ E F (sgBits E F N' D' t false m)) ∨
    (cmpQ (sgQ' s N D) (sgQ' t N' D') = 1 ∧ keyZ E F (sgBits E F N' D' t false m) ≤ keyZ E F (sgBits E F N D s false m)) := by
  rw [cmp_ord hD hG hs hD' hG' hs']
  have ht := ord_turn s N D t N' D'
  by_cases h1 : ordZ s N D t N' D' < 0
  · rw [if_pos h1]
    exact .inr (.inl ⟨rfl, key_mono hD hD' m hs hs' (by omega)⟩)
  · rw [if_neg h1]
    by_cases h2 : 0 < ordZ s N D t N' D'
    · rw [if_pos h2]
      exact .inr (.inr ⟨rfl, key_mono hD' hD m hs' hs (by omega)⟩)
    · rw [if_neg h2]
      have a := key_mono (E := E) (F := F) hD hD' m hs hs' (by omega)
      have b := key_mono (E := E) (F := F) hD' hD m hs' hs (by omega)
      exact .inl ⟨rfl, by omega⟩

theorem sg_lt (E F N D : Nat) (s neg : Bool) (m : Nat) : sgBits E F N D s neg m < 2 * 2 ^ (E + F) := by
  have h1 := fl_lt (E := E) (F := F) N D s m
  have h2 := Nat.two_pow_pos (E + F)
  unfold sgBits
  split
  · split <;> omega
  · split <;> omega

theorem near_zero5 (b : Nat) : nearZ 0 b = 0 := by unfold nearZ; omega
theorem scn_zero5 (N D : Nat) : scnN N D 0 = N ∧ scnD N D 0 = D := by
  unfold scnN scnD
  rw [near_zero5]
  simp

/-- round's Ratio of what may be asked. -/
theorem rdRatio_ask {E F m : Nat} {s : Bool} {xs ys : List Nat} (hf : formE (E : Int) (F : Int) = 0) (hr : ratB s xs ys = true) (hm : ¬ 4 < m) : scErr (E : Int) (F : Int) s xs ys m = 0 ∧ scBits (E : Int) (F : Int) s xs ys 0 false m = sgBits E F (val xs) (val ys) s false m := by
  have hE : scErr (E : Int) (F : Int) s xs ys m = 0 := by unfold scErr; rw [if_neg (by simp [hf]), if_neg (by simp [hr]), if_neg hm]
  obtain ⟨z1, z2⟩ := scn_zero5 (val xs) (val ys)
  refine ⟨hE, ?_⟩
  unfold scBits
  rw [if_pos hE, z1, z2, Int.toNat_natCast, Int.toNat_natCast]

set_option maxRecDepth 100000 in
set_option maxHeartbeats 4000000 in
theorem roundOrder_any (e f : Int) (s t : Bool) (a1 a2 b1 b2 : Option Addr) (n1 n2 m1 m2 c1 c2 d1 d2 m : Nat) (xs ys us vs : List Nat) (w : World) (h1 : Sl w a1 n1 c1 xs) (h2 : Sl w a2 n2 c2 ys) (h3 : Sl w b1 m1 d1 us) (h4 : Sl w b2 m2 d2 vs) (hT : Tab w) :
    Calls Tryd.prog 5 #[.agg #[.int .i64 e, .int .i64 f], .agg #[.bool s, .slice a1 n1 c1, .slice a2 n2 c2], .agg #[.bool t, .slice b1 m1 d1, .slice b2 m2 d2], .int .u8 (m : Int)] w fun en w' => en = .returned (.bool true) ∧ Below w.heap.size w w' := by
  obtain ⟨W3, hW3⟩ : ∃ W3 : World, W3 = ((w.alloc (.cells #[.int .i64 e, .int .i64 f] 33)).alloc (.cells #[.bool s, .slice a1 n1 c1, .slice a2 n2 c2] 27)).alloc (.cells #[.bool t, .slice b1 m1 d1, .slice b2 m2 d2] 27) := ⟨_, rfl⟩
  have hb3 : Below w.heap.size w W3 := hW3 ▸ more (more (more (Below.refl _ _) _) _) _
  have f0 : W3.cell? ⟨w.heap.size, 0, none⟩ = some (.int .i64 e) := by rw [hW3]; simp [World.cell?_alloc_some]
  have f1 : W3.cell? ⟨w.heap.size, 1, none⟩ = some (.int .i64 f) := by rw [hW3]; simp [World.cell?_alloc_some]
  have X3 : Box3 W3 (w.heap.size + 1) (.bool s) (.slice a1 n1 c1) (.slice a2 n2 c2) := by
    have := (box3_new (w.alloc (.cells #[.int .i64 e, .int .i64 f] 33)) (.bool s) (.slice a1 n1 c1) (.slice a2 n2 c2) 27).alloc (.cells #[.bool t, .slice b1 m1 d1, .slice b2 m2 d2] 27)
    rw [World.size_alloc] at this
    exact hW3 ▸ this
  have Y3 : Box3 W3 (w.heap.size + 2) (.bool t) (.slice b1 m1 d1) (.slice b2 m2 d2) := by
    have := box3_new ((w.alloc (.cells #[.int .i64 e, .int .i64 f] 33)).alloc (.cells #[.bool s, .slice a1 n1 c1, .slice a2 n2 c2] 27)) (.bool t) (.slice b1 m1 d1) (.slice b2 m2 d2) 27
    rw [World.size_alloc, World.size_alloc] at this
    exact hW3 ▸ this
  have hA := alive5_any W3 (hT.below hb3)
  have k1 : ∀ W, Below w.heap.size w W → Calls Tryd.prog 14 #[.agg #[.int .i64 e, .int .i64 f], .agg #[.bool s, .slice a1 n1 c1, .slice a2 n2 c2]] W _ := fun W hW => asked5_any e f s a1 a2 n1 n2 c1 c2 xs ys W (h1.below hW) (h2.below hW) (hT.below hW)
  have k2 : ∀ W, Below w.heap.size w W → Calls Tryd.prog 14 #[.agg #[.int .i64 e, .int .i64 f], .agg #[.bool t, .slice b1 m1 d1, .slice b2 m2 d2]] W _ := fun W hW => asked5_any e f t b1 b2 m1 m2 d1 d2 us vs W (h3.below hW) (h4.below hW) (hT.below hW)
  go_enter Tryd.func5, Tryd.ntmps5
  go_wp2_with fail
  rw [← hW3]
  clear hW3
  refine hA.mono ?_
  rintro en w4 ⟨rfl, hb4⟩
  have V4 := next hb3 hb4
  have X4 := X3.stay hb4
  have Y4 := Y3.stay hb4
  have g0 := cellStay f0 hb4
  have g1 := cellStay f1 hb4
  clear hA X3 Y3 f0 f1 hb4 hb3
  have ⟨x0, x1, x2, _, _, _⟩ := X4
  go_wp2_with fail
  with_reducible refine (k1 w4 V4).mono ?_
  rintro en w5 ⟨rfl, hb5⟩
  have V5 := next V4 hb5
  have X5 := X4.stay hb5
  have Y5 := Y4.stay hb5
  have p0 := cellStay g0 hb5
  have p1 := cellStay g1 hb5
  clear x0 x1 x2 X4 Y4 g0 g1 hb5 V4 k1
  have ⟨y0, y1, y2, _, _, _⟩ := Y5
  go_wp2_with fail
  with_reducible refine (k2 w5 V5).mono ?_
  rintro en w6 ⟨rfl, hb6⟩
  have V6 := next V5 hb6
  have X6 := X5.stay hb6
  have Y6 := Y5.stay hb6
  have q0 := cellStay p0 hb6
  have q1 := cellStay p1 hb6
  clear y0 y1 y2 X5 Y5 p0 p1 hb6 V5 k2
  by_cases ha : askB e f s xs ys n1 n2 = true
  · by_cases hb : askB e f t us vs m1 m2 = true
    · by_cases hm : 4 < m
      · have hm4 : (m : Int) > 4 := by omega
        rw [ha, hb]
        go_wp2
        go_ret
        exact ⟨rfl, V6⟩
      · have hm4 : ¬ (m : Int) > 4 := by omega
        rw [ha, hb]
        obtain ⟨hf, hr, l1, l2⟩ := of_decide_eq_true ha
        obtain ⟨_, ht, l3, l4⟩ := of_decide_eq_true hb
        clear ha hb
        obtain ⟨e1, e2, f1, f2⟩ := formE_ok hf
        obtain ⟨E, rfl⟩ : ∃ E : Nat, e = (E : Int) := ⟨e.toNat, by omega⟩
        obtain ⟨F, rfl⟩ : ∃ F : Nat, f = (F : Int) := ⟨f.toNat, by omega⟩
        obtain ⟨_, _, hD, hG, hs, _, _⟩ := rat_facts5 h1 h2 hr
        obtain ⟨_, _, hD', hG', hs', _, _⟩ := rat_facts5 h3 h4 ht
        have ok := order_keys (E := E) (F := F) hD hG hs hD' hG' hs' m
        obtain ⟨r1, r2⟩ := rdRatio_ask hf hr hm
        obtain ⟨r3, r4⟩ := rdRatio_ask hf ht hm
        have cC := rtCmp_ok s t a1 a2 b1 b2 n1 n2 m1 m2 c1 c2 d1 d2 xs ys us vs w6 (h1.below V6) (h2.below V6) (h3.below V6) (h4.below V6) (hT.below V6) hr ht
        have cX : ∀ W, Below w.heap.size w W → Calls Tryd.prog 9 #[.agg #[.int .i64 (E : Int), .int .i64 (F : Int)], .agg #[.bool s, .slice a1 n1 c1, .slice a2 n2 c2], .bool false, .int .u8 (m : Int)] W _ := fun W hW => rdRatio_any a1 a2 n1 n2 c1 c2 m (E : Int) (F : Int) s false xs ys W (h1.below hW) (h2.below hW) (hT.below hW) (by omega) (by omega)
        have cY : ∀ W, Below w.heap.size w W → Calls Tryd.prog 9 #[.agg #[.int .i64 (E : Int), .int .i64 (F : Int)], .agg #[.bool t, .slice b1 m1 d1, .slice b2 m2 d2], .bool false, .int .u8 (m : Int)] W _ := fun W hW => rdRatio_any b1 b2 m1 m2 d1 d2 m (E : Int) (F : Int) t false us vs W (h3.below hW) (h4.below hW) (hT.below hW) (by omega) (by omega)
        simp only [r1, r2] at cX
        simp only [r3, r4] at cY
        have s1 := sg_lt E F (val xs) (val ys) s false m
        have s2 := sg_lt E F (val us) (val vs) t false m
        have kA : ∀ W, Calls Tryd.prog 16 #[.agg #[.int .i64 (E : Int), .int .i64 (F : Int)], .int .u64 (sgBits E F (val xs) (val ys) s false m : Int)] W _ := fun W => key5_any E F _ W (by omega) (by omega) s1
        have kB : ∀ W, Calls Tryd.prog 16 #[.agg #[.int .i64 (E : Int), .int .i64 (F : Int)], .int .u64 (sgBits E F (val us) (val vs) t false m : Int)] W _ := fun W => key5_any E F _ W (by omega) (by omega) s2
        generalize sgBits E F (val xs) (val ys) s false m = bx at *
        generalize sgBits E F (val us) (val vs) t false m = by' at *
        generalize scFlags (E : Int) (F : Int) s xs ys 0 m = gx at *
        generalize scFlags (E : Int) (F : Int) t us vs 0 m = gy at *
        generalize cmpQ (sgQ' s (val xs) (val ys)) (sgQ' t (val us) (val vs)) = cv at *
        generalize keyZ E F bx = kx at *
        generalize keyZ E F by' = ky at *
        clear r1 r2 r3 r4 hD hG hs hD' hG' hs' hf hr ht l1 l2 l3 l4 s1 s2 h1 h2 h3 h4 hT hm e1 e2 f1 f2
        have ⟨x0, x1, x2, _, _, _⟩ := X6
        have ⟨y0, y1, y2, _, _, _⟩ := Y6
        go_wp2_with fail
        with_reducible refine cC.mono ?_
        rintro en w7 ⟨rfl, hb7⟩
        have V7 := next V6 hb7
        have X7 := X6.stay hb7
        have Y7 := Y6.stay hb7
        have p0 := cellStay q0 hb7
        have p1 := cellStay q1 hb7
        clear x0 x1 x2 y0 y1 y2 X6 Y6 q0 q1 hb7 V6 cC
        have ⟨x0, x1, x2, _, _, _⟩ := X7
        go_wp2_with fail
        with_reducible refine (cX w7 V7).mono ?_
        rintro en w8 ⟨rfl, hb8⟩
        have V8 := next V7 hb8
        have Y8 := Y7.stay hb8
        have q0 := cellStay p0 hb8
        have q1 := cellStay p1 hb8
        clear x0 x1 x2 X7 Y7 p0 p1 hb8 V7 cX
        have ⟨y0, y1, y2, _, _, _⟩ := Y8
        go_wp2_with fail
        with_reducible refine (cY w8 V8).mono ?_
        rintro en w9 ⟨rfl, hb9⟩
        have V9 := next V8 hb9
        have p0 := cellStay q0 hb9
        have p1 := cellStay q1 hb9
        clear y0 y1 y2 Y8 q0 q1 hb9 V8 cY
        go_wp2_with fail
        with_reducible refine (kA w9).mono ?_
        rintro en w10 ⟨rfl, hb10⟩
        have V10 := next V9 hb10
        have q0 := cellStay p0 hb10
        have q1 := cellStay p1 hb10
        clear p0 p1 hb10 V9 kA
        go_wp2_with fail
        with_reducible refine (kB w10).mono ?_
        rintro en w11 ⟨rfl, hb11⟩
        have V11 := next V10 hb11
        clear q0 q1 hb11 V10 kB
        rcases ok with ⟨rfl, rfl⟩ | ⟨rfl, hle⟩ | ⟨rfl, hle⟩
        · go_wp2
          go_ret
          exact ⟨by first | rfl | simp, V11⟩
        · go_wp2
          go_ret
          exact ⟨by first | rfl | simp [hle], V11⟩
        · have hge : kx ≥ ky := hle
          go_wp2
          go_ret
          exact ⟨by first | rfl | simp [hle], V11⟩
    · have hb' : askB e f t us vs m1 m2 = false := by simpa using hb
      rw [ha, hb']
      go_wp2
      go_ret
      exact ⟨rfl, V6⟩
  · have ha' : askB e f s xs ys n1 n2 = false := by simpa using ha
    rw [ha']
    go_wp2
    go_ret
    exact ⟨rfl, V6⟩

end Go.Proofs.YtgdhleiokfaeoaaDoor
