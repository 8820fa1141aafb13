/-
  The law ExactRing answers true.
-/
import Derived.Test.YtmiheaoojmgalaaDoorAlive
import Derived.Test.YtmiheaoojmgalaaDoorRingL
namespace Go.Proofs.YtmiheaoojmgalaaDoor
open Go.RowKit Go.Lb

set_option maxRecDepth 100000 in
set_option maxHeartbeats 1600000 in
theorem ring_no (s t : Bool) (a1 a2 : Option Addr) (n1 n2 c1 c2 : Nat) (x y : Int) (xs ys : List Nat) (w : World) (h1 : Sl w a1 n1 c1 xs) (h2 : Sl w a2 n2 c2 ys) (hT : Tab w) (hd : ¬ (dchk s xs x = 0 ∧ dchk t ys y = 0)) :
    Calls Tryd.prog 6 #[.agg #[.bool s, .slice a1 n1 c1, .int .i64 x], .agg #[.bool t, .slice a2 n2 c2, .int .i64 y]] w fun e w' => e = .returned (.bool true) ∧ Below w.heap.size w w' := by
  have cK : ∀ W : World, Sl W a1 n1 c1 xs → Calls Tryd.prog 26 #[.agg #[.bool s, .slice a1 n1 c1, .int .i64 x]] W fun e w' => e = .returned (.int .i64 (dchk s xs x)) ∧ Below W.heap.size W w' := fun W g => dyCheck_any s a1 n1 c1 x _ W g
  have cL : ∀ W : World, Sl W a2 n2 c2 ys → Calls Tryd.prog 26 #[.agg #[.bool t, .slice a2 n2 c2, .int .i64 y]] W fun e w' => e = .returned (.int .i64 (dchk t ys y)) ∧ Below W.heap.size W w' := fun W g => dyCheck_any t a2 n2 c2 y _ W g
  generalize dchk s xs x = D at hd cK
  generalize dchk t ys y = E at hd cL
  go_enter Tryd.func6, Tryd.ntmps6
  go_wp2_with fail
  have A := (box3_new w (.bool s) (.slice a1 n1 c1) (.int .i64 x) 37).alloc (.cells #[.bool t, .slice a2 n2 c2, .int .i64 y] 37)
  have B := box3_new (w.alloc (.cells #[.bool s, .slice a1 n1 c1, .int .i64 x] 37)) (.bool t) (.slice a2 n2 c2) (.int .i64 y) 37
  have a0 := (h1.alloc (.cells #[.bool s, .slice a1 n1 c1, .int .i64 x] 37)).alloc (.cells #[.bool t, .slice a2 n2 c2, .int .i64 y] 37)
  rw [World.size_alloc] at B
  have b0 := (h2.alloc (.cells #[.bool s, .slice a1 n1 c1, .int .i64 x] 37)).alloc (.cells #[.bool t, .slice a2 n2 c2, .int .i64 y] 37)
  have hW := more (more (Below.refl w.heap.size w) (.cells #[.bool s, .slice a1 n1 c1, .int .i64 x] 37)) (.cells #[.bool t, .slice a2 n2 c2, .int .i64 y] 37)
  replace hT := hT.below hW
  clear h1 h2
  generalize (w.alloc (.cells #[.bool s, .slice a1 n1 c1, .int .i64 x] 37)).alloc (.cells #[.bool t, .slice a2 n2 c2, .int .i64 y] 37) = w0 at A B a0 b0 hW hT ⊢
  refine (alive_any _ hT).mono ?_
  rintro en w1 ⟨rfl, hV⟩
  replace A := A.stay hV
  replace B := B.stay hV
  replace hW := next hW hV
  have A_0 := A.c0
  have A_1 := A.c1
  have A_2 := A.c2
  go_wp2_with fail
  refine (cK _ (a0.below hV)).mono ?_
  rintro en w2 ⟨rfl, hV2⟩
  replace hW := next hW hV2
  replace B := B.stay hV2
  have B_0 := B.c0
  have B_1 := B.c1
  have B_2 := B.c2
  by_cases h : D = 0
  · subst h
    have hE : ¬ E = 0 := fun h => hd ⟨rfl, h⟩
    have hE' : (E == 0) = false := by simp [hE]
    go_wp2_with fail
    refine (cL _ ((b0.below hV).below hV2)).mono ?_
    rintro en w3 ⟨rfl, hV3⟩
    replace hW := next hW hV3
    go_wp2
    go_ret
    exact ⟨rfl, hW⟩
  · have hD' : (D == 0) = false := by simp [h]
    go_wp2
    go_ret
    exact ⟨rfl, hW⟩

set_option maxRecDepth 100000 in
set_option maxHeartbeats 4000000 in
theorem ring_yes (s t : Bool) (a1 a2 : Option Addr) (n1 n2 c1 c2 : Nat) (x y : Int) (N O : Nat) (w : World) (h1 : Sl w a1 n1 c1 (limbs N)) (h2 : Sl w a2 n2 c2 (limbs O)) (hT : Tab w) (k1 : Dy s N x) (k2 : Dy t O y) :
    Calls Tryd.prog 6 #[.agg #[.bool s, .slice a1 n1 c1, .int .i64 x], .agg #[.bool t, .slice a2 n2 c2, .int .i64 y]] w fun e w' => e = .returned (.bool true) ∧ Below w.heap.size w w' := by
  have q1 := k1.chk
  have q2 := k2.chk
  obtain ⟨r1, r2, r3⟩ := ring_sub k1 k2 _ rfl
  have cA : ∀ W : World, Sl W a1 n1 c1 (limbs N) → Sl W a2 n2 c2 (limbs O) → Tab W → Calls Tryd.prog 20 #[.agg #[.bool s, .slice a1 n1 c1, .int .i64 x], .agg #[.bool t, .slice a2 n2 c2, .int .i64 y]] W (Dyn (addA s (limbs N) x t (limbs O) y) W) := fun W g1 g2 g3 => exAdd_any s t a1 a2 n1 n2 c1 c2 x y _ _ W g1 g2 g3
  have cB : ∀ W : World, Sl W a1 n1 c1 (limbs N) → Sl W a2 n2 c2 (limbs O) → Tab W → Calls Tryd.prog 20 #[.agg #[.bool t, .slice a2 n2 c2, .int .i64 y], .agg #[.bool s, .slice a1 n1 c1, .int .i64 x]] W (Dyn (addA s (limbs N) x t (limbs O) y) W) := fun W g1 g2 g3 => by rw [ring_add k1 k2]; exact exAdd_any t s a2 a1 n2 n1 c2 c1 y x _ _ W g2 g1 g3
  have cM : ∀ W : World, Sl W a1 n1 c1 (limbs N) → Sl W a2 n2 c2 (limbs O) → Tab W → Calls Tryd.prog 27 #[.agg #[.bool s, .slice a1 n1 c1, .int .i64 x], .agg #[.bool t, .slice a2 n2 c2, .int .i64 y]] W (Dyn (mulA s (limbs N) x t (limbs O) y) W) := fun W g1 g2 g3 => exMul_any s t a1 a2 n1 n2 c1 c2 x y _ _ W g1 g2 g3
  have cO : ∀ W : World, Sl W a1 n1 c1 (limbs N) → Sl W a2 n2 c2 (limbs O) → Tab W → Calls Tryd.prog 27 #[.agg #[.bool t, .slice a2 n2 c2, .int .i64 y], .agg #[.bool s, .slice a1 n1 c1, .int .i64 x]] W (Dyn (mulA s (limbs N) x t (limbs O) y) W) := fun W g1 g2 g3 => by rw [ring_mul k1 k2]; exact exMul_any t s a2 a1 n2 n1 c2 c1 y x _ _ W g2 g1 g3
  have cP : ∀ W : World, Sl W a1 n1 c1 (limbs N) → Calls Tryd.prog 29 #[.agg #[.bool s, .slice a1 n1 c1, .int .i64 x]] W (Dyn (negA s (limbs N) x) W) := fun W g => exNeg_any s a1 n1 c1 x _ W g
  have cQ : ∀ W : World, Sl W a2 n2 c2 (limbs O) → Calls Tryd.prog 29 #[.agg #[.bool t, .slice a2 n2 c2, .int .i64 y]] W (Dyn (negA t (limbs O) y) W) := fun W g => exNeg_any t a2 n2 c2 y _ W g
  have cZ : ∀ (W : World) (a : Option Addr) (n c : Nat), Sl W a1 n1 c1 (limbs N) → Sl W a n c (limbs (negA s (limbs N) x).N) → Tab W → Calls Tryd.prog 20 #[.agg #[.bool s, .slice a1 n1 c1, .int .i64 x], .agg #[.bool (negA s (limbs N) x).s, .slice a n c, .int .i64 (negA s (limbs N) x).x]] W (Dyn (noA 0) W) := fun W a n c g1 g2 g3 => by rw [← ring_zero k1]; exact exAdd_any s _ a1 a n1 n c1 c x _ _ _ W g1 g2 g3
  have cF : ∀ (W : World) (a : Option Addr) (n c : Nat), Sl W a1 n1 c1 (limbs N) → Sl W a n c (limbs (negA t (limbs O) y).N) → Tab W → Calls Tryd.prog 20 #[.agg #[.bool s, .slice a1 n1 c1, .int .i64 x], .agg #[.bool (negA t (limbs O) y).s, .slice a n c, .int .i64 (negA t (limbs O) y).x]] W (Dyn (addA s (limbs N) x (negA t (limbs O) y).s (limbs (negA t (limbs O) y).N) (negA t (limbs O) y).x) W) := fun W a n c g1 g2 g3 => exAdd_any s _ a1 a n1 n c1 c x _ _ _ W g1 g2 g3
  have cC : ∀ W : World, Sl W a1 n1 c1 (limbs N) → Sl W a2 n2 c2 (limbs O) → Calls Tryd.prog 22 #[.agg #[.bool s, .slice a1 n1 c1, .int .i64 x], .agg #[.bool t, .slice a2 n2 c2, .int .i64 y]] W fun e w' => e = .returned (.tuple #[.int .i64 (cmpA s (limbs N) x t (limbs O) y), .int .i64 0]) ∧ Below W.heap.size W w' := fun W g1 g2 => by have := exCmp_any s t a1 a2 n1 n2 c1 c2 x y _ _ W g1 g2; rwa [r3] at this
  have e1 := (negA_dy' k1).2
  have e2 := (negA_dy' k2).2
  generalize hR : addA s (limbs N) x (negA t (limbs O) y).s (limbs (negA t (limbs O) y).N) (negA t (limbs O) y).x = R at r1 r2 cF
  generalize negA s (limbs N) x = P at cP cZ e1
  generalize negA t (limbs O) y = Q at cQ cF e2 hR
  clear hR
  generalize addA s (limbs N) x t (limbs O) y = D at cA cB
  generalize mulA s (limbs N) x t (limbs O) y = M at cM cO
  generalize cmpA s (limbs N) x t (limbs O) y = cv at cC r2
  obtain ⟨Z, hZ⟩ : ∃ Z, Z = noA 0 := ⟨_, rfl⟩
  rw [← hZ] at cZ
  have zE : Z.e = 0 := by rw [hZ]; rfl
  have hZ' := Lib.hid hZ
  clear hZ
  go_enter Tryd.func6, Tryd.ntmps6
  go_wp2_with fail
  have A := (box3_new w (.bool s) (.slice a1 n1 c1) (.int .i64 x) 37).alloc (.cells #[.bool t, .slice a2 n2 c2, .int .i64 y] 37)
  have B := box3_new (w.alloc (.cells #[.bool s, .slice a1 n1 c1, .int .i64 x] 37)) (.bool t) (.slice a2 n2 c2) (.int .i64 y) 37
  have a0 := (h1.alloc (.cells #[.bool s, .slice a1 n1 c1, .int .i64 x] 37)).alloc (.cells #[.bool t, .slice a2 n2 c2, .int .i64 y] 37)
  rw [World.size_alloc] at B
  have b0 := (h2.alloc (.cells #[.bool s, .slice a1 n1 c1, .int .i64 x] 37)).alloc (.cells #[.bool t, .slice a2 n2 c2, .int .i64 y] 37)
  have hW := more (more (Below.refl w.heap.size w) (.cells #[.bool s, .slice a1 n1 c1, .int .i64 x] 37)) (.cells #[.bool t, .slice a2 n2 c2, .int .i64 y] 37)
  replace hT := hT.below hW
  clear h1 h2
  generalize (w.alloc (.cells #[.bool s, .slice a1 n1 c1, .int .i64 x] 37)).alloc (.cells #[.bool t, .slice a2 n2 c2, .int .i64 y] 37) = w0 at A B a0 b0 hW hT ⊢
  go_wp2_with fail
  refine (alive_any _ hT).mono ?_
  rintro en w1 ⟨rfl, hV⟩
  replace A := A.stay hV
  replace a0 := a0.below hV
  replace B := B.stay hV
  replace b0 := b0.below hV
  replace hT := hT.below hV
  replace hW := next hW hV
  clear hV
  have A_0 := A.c0
  have A_1 := A.c1
  have A_2 := A.c2
  go_wp2_with fail
  clear A_0 A_1 A_2
  refine (dyCheck_any s a1 n1 c1 x _ _ a0).mono ?_
  rintro en w2 ⟨rfl, hV⟩
  replace A := A.stay hV
  replace a0 := a0.below hV
  replace B := B.stay hV
  replace b0 := b0.below hV
  replace hT := hT.below hV
  replace hW := next hW hV
  clear hV
  rw [q1]
  have B_0 := B.c0
  have B_1 := B.c1
  have B_2 := B.c2
  go_wp2_with fail
  clear B_0 B_1 B_2
  refine (dyCheck_any t a2 n2 c2 y _ _ b0).mono ?_
  rintro en w3 ⟨rfl, hV⟩
  replace A := A.stay hV
  replace a0 := a0.below hV
  replace B := B.stay hV
  replace b0 := b0.below hV
  replace hT := hT.below hV
  replace hW := next hW hV
  clear hV
  rw [q2]
  have A_0 := A.c0
  have A_1 := A.c1
  have A_2 := A.c2
  have B_0 := B.c0
  have B_1 := B.c1
  have B_2 := B.c2
  go_wp2_with fail
  clear A_0 A_1 A_2 B_0 B_1 B_2
  refine (cA _ a0 b0 hT).mono ?_
  rintro en v4 ⟨a4, n4, k4, rfl, hF4, hb4⟩
  replace A := A.stay hb4
  replace a0 := a0.below hb4
  replace B := B.stay hb4
  replace b0 := b0.below hb4
  replace hT := hT.below hb4
  replace hW := next hW hb4
  have hV := more (Below.refl v4.heap.size v4) (.cells #[.bool D.s, .slice a4 n4 k4, .int .i64 D.x] 37)
  have d4 := box3_new v4 (.bool D.s) (.slice a4 n4 k4) (.int .i64 D.x) 37
  have f4 := hF4.sl.alloc (.cells #[.bool D.s, .slice a4 n4 k4, .int .i64 D.x] 37)
  replace A := A.stay hV
  replace a0 := a0.below hV
  replace B := B.stay hV
  replace b0 := b0.below hV
  replace hT := hT.below hV
  replace hW := next hW hV
  clear hF4 hb4 hV
  have A_0 := A.c0
  have A_1 := A.c1
  have A_2 := A.c2
  have B_0 := B.c0
  have B_1 := B.c1
  have B_2 := B.c2
  go_wp2_with fail
  clear A_0 A_1 A_2 B_0 B_1 B_2
  generalize v4.heap.size = p4 at d4 ⊢
  generalize v4.alloc (.cells #[.bool D.s, .slice a4 n4 k4, .int .i64 D.x] 37) = w4 at d4 f4 hT hW A a0 B b0 ⊢
  refine (cB _ a0 b0 hT).mono ?_
  rintro en v5 ⟨a5, n5, k5, rfl, hF5, hb5⟩
  replace A := A.stay hb5
  replace a0 := a0.below hb5
  replace B := B.stay hb5
  replace b0 := b0.below hb5
  replace d4 := d4.stay hb5
  replace f4 := f4.below hb5
  replace hT := hT.below hb5
  replace hW := next hW hb5
  have hV := more (Below.refl v5.heap.size v5) (.cells #[.bool D.s, .slice a5 n5 k5, .int .i64 D.x] 37)
  have d5 := box3_new v5 (.bool D.s) (.slice a5 n5 k5) (.int .i64 D.x) 37
  have f5 := hF5.sl.alloc (.cells #[.bool D.s, .slice a5 n5 k5, .int .i64 D.x] 37)
  replace A := A.stay hV
  replace a0 := a0.below hV
  replace B := B.stay hV
  replace b0 := b0.below hV
  replace d4 := d4.stay hV
  replace f4 := f4.below hV
  replace hT := hT.below hV
  replace hW := next hW hV
  clear hF5 hb5 hV
  have A_0 := A.c0
  have A_1 := A.c1
  have A_2 := A.c2
  have B_0 := B.c0
  have B_1 := B.c1
  have B_2 := B.c2
  go_wp2_with fail
  clear A_0 A_1 A_2 B_0 B_1 B_2
  generalize v5.heap.size = p5 at d5 ⊢
  generalize v5.alloc (.cells #[.bool D.s, .slice a5 n5 k5, .int .i64 D.x] 37) = w5 at d5 f5 hT hW A a0 B b0 d4 f4 ⊢
  refine (cM _ a0 b0 hT).mono ?_
  rintro en v6 ⟨a6, n6, k6, rfl, hF6, hb6⟩
  replace A := A.stay hb6
  replace a0 := a0.below hb6
  replace B := B.stay hb6
  replace b0 := b0.below hb6
  replace d4 := d4.stay hb6
  replace f4 := f4.below hb6
  replace d5 := d5.stay hb6
  replace f5 := f5.below hb6
  replace hT := hT.below hb6
  replace hW := next hW hb6
  have hV := more (Below.refl v6.heap.size v6) (.cells #[.bool M.s, .slice a6 n6 k6, .int .i64 M.x] 37)
  have d6 := box3_new v6 (.bool M.s) (.slice a6 n6 k6) (.int .i64 M.x) 37
  have f6 := hF6.sl.alloc (.cells #[.bool M.s, .slice a6 n6 k6, .int .i64 M.x] 37)
  replace A := A.stay hV
  replace a0 := a0.below hV
  replace B := B.stay hV
  replace b0 := b0.below hV
  replace d4 := d4.stay hV
  replace f4 := f4.below hV
  replace d5 := d5.stay hV
  replace f5 := f5.below hV
  replace hT := hT.below hV
  replace hW := next hW hV
  clear hF6 hb6 hV
  have A_0 := A.c0
  have A_1 := A.c1
  have A_2 := A.c2
  have B_0 := B.c0
  have B_1 := B.c1
  have B_2 := B.c2
  go_wp2_with fail
  clear A_0 A_1 A_2 B_0 B_1 B_2
  generalize v6.heap.size = p6 at d6 ⊢
  generalize v6.alloc (.cells #[.bool M.s, .slice a6 n6 k6, .int .i64 M.x] 37) = w6 at d6 f6 hT hW A a0 B b0 d4 f4 d5 f5 ⊢
  refine (cO _ a0 b0 hT).mono ?_
  rintro en v7 ⟨a7, n7, k7, rfl, hF7, hb7⟩
  replace A := A.stay hb7
  replace a0 := a0.below hb7
  replace B := B.stay hb7
  replace b0 := b0.below hb7
  replace d4 := d4.stay hb7
  replace f4 := f4.below hb7
  replace d5 := d5.stay hb7
  replace f5 := f5.below hb7
  replace d6 := d6.stay hb7
  replace f6 := f6.below hb7
  replace hT := hT.below hb7
  replace hW := next hW hb7
  have hV := more (Below.refl v7.heap.size v7) (.cells #[.bool M.s, .slice a7 n7 k7, .int .i64 M.x] 37)
  have d7 := box3_new v7 (.bool M.s) (.slice a7 n7 k7) (.int .i64 M.x) 37
  have f7 := hF7.sl.alloc (.cells #[.bool M.s, .slice a7 n7 k7, .int .i64 M.x] 37)
  replace A := A.stay hV
  replace a0 := a0.below hV
  replace B := B.stay hV
  replace b0 := b0.below hV
  replace d4 := d4.stay hV
  replace f4 := f4.below hV
  replace d5 := d5.stay hV
  replace f5 := f5.below hV
  replace d6 := d6.stay hV
  replace f6 := f6.below hV
  replace hT := hT.below hV
  replace hW := next hW hV
  clear hF7 hb7 hV
  have A_0 := A.c0
  have A_1 := A.c1
  have A_2 := A.c2
  go_wp2_with fail
  clear A_0 A_1 A_2
  generalize v7.heap.size = p7 at d7 ⊢
  generalize v7.alloc (.cells #[.bool M.s, .slice a7 n7 k7, .int .i64 M.x] 37) = w7 at d7 f7 hT hW A a0 B b0 d4 f4 d5 f5 d6 f6 ⊢
  refine (cP _ a0).mono ?_
  rintro en v8 ⟨a8, n8, k8, rfl, hF8, hb8⟩
  replace A := A.stay hb8
  replace a0 := a0.below hb8
  replace B := B.stay hb8
  replace b0 := b0.below hb8
  replace d4 := d4.stay hb8
  replace f4 := f4.below hb8
  replace d5 := d5.stay hb8
  replace f5 := f5.below hb8
  replace d6 := d6.stay hb8
  replace f6 := f6.below hb8
  replace d7 := d7.stay hb8
  replace f7 := f7.below hb8
  replace hT := hT.below hb8
  replace hW := next hW hb8
  have hV := more (Below.refl v8.heap.size v8) (.cells #[.bool P.s, .slice a8 n8 k8, .int .i64 P.x] 37)
  have d8 := box3_new v8 (.bool P.s) (.slice a8 n8 k8) (.int .i64 P.x) 37
  have f8 := hF8.sl.alloc (.cells #[.bool P.s, .slice a8 n8 k8, .int .i64 P.x] 37)
  replace A := A.stay hV
  replace a0 := a0.below hV
  replace B := B.stay hV
  replace b0 := b0.below hV
  replace d4 := d4.stay hV
  replace f4 := f4.below hV
  replace d5 := d5.stay hV
  replace f5 := f5.below hV
  replace d6 := d6.stay hV
  replace f6 := f6.below hV
  replace d7 := d7.stay hV
  replace f7 := f7.below hV
  replace hT := hT.below hV
  replace hW := next hW hV
  clear hF8 hb8 hV
  have B_0 := B.c0
  have B_1 := B.c1
  have B_2 := B.c2
  go_wp2_with fail
  clear B_0 B_1 B_2
  generalize v8.heap.size = p8 at d8 ⊢
  generalize v8.alloc (.cells #[.bool P.s, .slice a8 n8 k8, .int .i64 P.x] 37) = w8 at d8 f8 hT hW A a0 B b0 d4 f4 d5 f5 d6 f6 d7 f7 ⊢
  refine (cQ _ b0).mono ?_
  rintro en v9 ⟨a9, n9, k9, rfl, hF9, hb9⟩
  replace A := A.stay hb9
  replace a0 := a0.below hb9
  replace B := B.stay hb9
  replace b0 := b0.below hb9
  replace d4 := d4.stay hb9
  replace f4 := f4.below hb9
  replace d5 := d5.stay hb9
  replace f5 := f5.below hb9
  replace d6 := d6.stay hb9
  replace f6 := f6.below hb9
  replace d7 := d7.stay hb9
  replace f7 := f7.below hb9
  replace d8 := d8.stay hb9
  replace f8 := f8.below hb9
  replace hT := hT.below hb9
  replace hW := next hW hb9
  have hV := more (Below.refl v9.heap.size v9) (.cells #[.bool Q.s, .slice a9 n9 k9, .int .i64 Q.x] 37)
  have d9 := box3_new v9 (.bool Q.s) (.slice a9 n9 k9) (.int .i64 Q.x) 37
  have f9 := hF9.sl.alloc (.cells #[.bool Q.s, .slice a9 n9 k9, .int .i64 Q.x] 37)
  replace A := A.stay hV
  replace a0 := a0.below hV
  replace B := B.stay hV
  replace b0 := b0.below hV
  replace d4 := d4.stay hV
  replace f4 := f4.below hV
  replace d5 := d5.stay hV
  replace f5 := f5.below hV
  replace d6 := d6.stay hV
  replace f6 := f6.below hV
  replace d7 := d7.stay hV
  replace f7 := f7.below hV
  replace d8 := d8.stay hV
  replace f8 := f8.below hV
  replace hT := hT.below hV
  replace hW := next hW hV
  clear hF9 hb9 hV
  have A_0 := A.c0
  have A_1 := A.c1
  have A_2 := A.c2
  have d8_0 := d8.c0
  have d8_1 := d8.c1
  have d8_2 := d8.c2
  go_wp2_with fail
  clear A_0 A_1 A_2 d8_0 d8_1 d8_2
  generalize v9.heap.size = p9 at d9 ⊢
  generalize v9.alloc (.cells #[.bool Q.s, .slice a9 n9 k9, .int .i64 Q.x] 37) = w9 at d9 f9 hT hW A a0 B b0 d4 f4 d5 f5 d6 f6 d7 f7 d8 f8 ⊢
  refine (cZ _ _ _ _ a0 f8 hT).mono ?_
  rintro en v10 ⟨a10, n10, k10, rfl, hF10, hb10⟩
  replace A := A.stay hb10
  replace a0 := a0.below hb10
  replace B := B.stay hb10
  replace b0 := b0.below hb10
  replace d4 := d4.stay hb10
  replace f4 := f4.below hb10
  replace d5 := d5.stay hb10
  replace f5 := f5.below hb10
  replace d6 := d6.stay hb10
  replace f6 := f6.below hb10
  replace d7 := d7.stay hb10
  replace f7 := f7.below hb10
  replace d8 := d8.stay hb10
  replace f8 := f8.below hb10
  replace d9 := d9.stay hb10
  replace f9 := f9.below hb10
  replace hT := hT.below hb10
  replace hW := next hW hb10
  have hV := more (Below.refl v10.heap.size v10) (.cells #[.bool Z.s, .slice a10 n10 k10, .int .i64 Z.x] 37)
  have d10 := box3_new v10 (.bool Z.s) (.slice a10 n10 k10) (.int .i64 Z.x) 37
  have f10 := hF10.sl.alloc (.cells #[.bool Z.s, .slice a10 n10 k10, .int .i64 Z.x] 37)
  replace A := A.stay hV
  replace a0 := a0.below hV
  replace B := B.stay hV
  replace b0 := b0.below hV
  replace d4 := d4.stay hV
  replace f4 := f4.below hV
  replace d5 := d5.stay hV
  replace f5 := f5.below hV
  replace d6 := d6.stay hV
  replace f6 := f6.below hV
  replace d7 := d7.stay hV
  replace f7 := f7.below hV
  replace d8 := d8.stay hV
  replace f8 := f8.below hV
  replace d9 := d9.stay hV
  replace f9 := f9.below hV
  replace hT := hT.below hV
  replace hW := next hW hV
  clear hF10 hb10 hV
  have A_0 := A.c0
  have A_1 := A.c1
  have A_2 := A.c2
  have d9_0 := d9.c0
  have d9_1 := d9.c1
  have d9_2 := d9.c2
  go_wp2_with fail
  clear A_0 A_1 A_2 d9_0 d9_1 d9_2
  generalize v10.heap.size = p10 at d10 ⊢
  generalize v10.alloc (.cells #[.bool Z.s, .slice a10 n10 k10, .int .i64 Z.x] 37) = w10 at d10 f10 hT hW A a0 B b0 d4 f4 d5 f5 d6 f6 d7 f7 d8 f8 d9 f9 ⊢
  refine (cF _ _ _ _ a0 f9 hT).mono ?_
  rintro en v11 ⟨a11, n11, k11, rfl, hF11, hb11⟩
  replace A := A.stay hb11
  replace a0 := a0.below hb11
  replace B := B.stay hb11
  replace b0 := b0.below hb11
  replace d4 := d4.stay hb11
  replace f4 := f4.below hb11
  replace d5 := d5.stay hb11
  replace f5 := f5.below hb11
  replace d6 := d6.stay hb11
  replace f6 := f6.below hb11
  replace d7 := d7.stay hb11
  replace f7 := f7.below hb11
  replace d8 := d8.stay hb11
  replace f8 := f8.below hb11
  replace d9 := d9.stay hb11
  replace f9 := f9.below hb11
  replace d10 := d10.stay hb11
  replace f10 := f10.below hb11
  replace hT := hT.below hb11
  replace hW := next hW hb11
  have hV := more (Below.refl v11.heap.size v11) (.cells #[.bool R.s, .slice a11 n11 k11, .int .i64 R.x] 37)
  have d11 := box3_new v11 (.bool R.s) (.slice a11 n11 k11) (.int .i64 R.x) 37
  have f11 := hF11.sl.alloc (.cells #[.bool R.s, .slice a11 n11 k11, .int .i64 R.x] 37)
  replace A := A.stay hV
  replace a0 := a0.below hV
  replace B := B.stay hV
  replace b0 := b0.below hV
  replace d4 := d4.stay hV
  replace f4 := f4.below hV
  replace d5 := d5.stay hV
  replace f5 := f5.below hV
  replace d6 := d6.stay hV
  replace f6 := f6.below hV
  replace d7 := d7.stay hV
  replace f7 := f7.below hV
  replace d8 := d8.stay hV
  replace f8 := f8.below hV
  replace d9 := d9.stay hV
  replace f9 := f9.below hV
  replace d10 := d10.stay hV
  replace f10 := f10.below hV
  replace hT := hT.below hV
  replace hW := next hW hV
  clear hF11 hb11 hV
  have A_0 := A.c0
  have A_1 := A.c1
  have A_2 := A.c2
  have B_0 := B.c0
  have B_1 := B.c1
  have B_2 := B.c2
  go_wp2_with fail
  clear A_0 A_1 A_2 B_0 B_1 B_2
  generalize v11.heap.size = p11 at d11 ⊢
  generalize v11.alloc (.cells #[.bool R.s, .slice a11 n11 k11, .int .i64 R.x] 37) = w11 at d11 f11 hT hW A a0 B b0 d4 f4 d5 f5 d6 f6 d7 f7 d8 f8 d9 f9 d10 f10 ⊢
  refine (cC _ a0 b0).mono ?_
  rintro en w12 ⟨rfl, hV⟩
  replace A := A.stay hV
  replace a0 := a0.below hV
  replace B := B.stay hV
  replace b0 := b0.below hV
  replace d4 := d4.stay hV
  replace f4 := f4.below hV
  replace d5 := d5.stay hV
  replace f5 := f5.below hV
  replace d6 := d6.stay hV
  replace f6 := f6.below hV
  replace d7 := d7.stay hV
  replace f7 := f7.below hV
  replace d8 := d8.stay hV
  replace f8 := f8.below hV
  replace d9 := d9.stay hV
  replace f9 := f9.below hV
  replace d10 := d10.stay hV
  replace f10 := f10.below hV
  replace d11 := d11.stay hV
  replace f11 := f11.below hV
  replace hT := hT.below hV
  replace hW := next hW hV
  clear hV
  have zS : Z.s = false := by rw [hZ'.out]; rfl
  have zX : Z.x = 0 := by rw [hZ'.out]; rfl
  have zN : n10 = 0 := by rw [← f10.len, hZ'.out]; rfl
  rw [zS, zX, zN] at d10
  have n45 : n5 = n4 := by rw [← f4.len, ← f5.len]
  have n67 : n7 = n6 := by rw [← f6.len, ← f7.len]
  subst n45 n67
  have l11 := f11.len
  clear hZ' zS zX zN zE cA cB cM cO cP cQ cZ cF cC a0 b0 f8 f9 f10 f11 A B d8 d9 hT q1 q2 r3 e1 e2 k1 k2
  have d4_0 := d4.c0
  have d4_1 := d4.c1
  have d4_2 := d4.c2
  have d5_0 := d5.c0
  have d5_1 := d5.c1
  have d5_2 := d5.c2
  have d6_0 := d6.c0
  have d6_1 := d6.c1
  have d6_2 := d6.c2
  have d7_0 := d7.c0
  have d7_1 := d7.c1
  have d7_2 := d7.c2
  go_wp2_with fail
  refine (refDySame_eq D.s D.x a4 a5 _ k4 k5 (limbs D.N) _ f4 f5).mono ?_
  rintro en w13 ⟨rfl, hV⟩
  have hW2 := hV
  have d6_0 := (d6.stay hV).c0
  have d6_1 := (d6.stay hV).c1
  have d6_2 := (d6.stay hV).c2
  have d7_0 := (d7.stay hV).c0
  have d7_1 := (d7.stay hV).c1
  have d7_2 := (d7.stay hV).c2
  go_wp2_with fail
  refine (refDySame_eq M.s M.x a6 a7 _ k6 k7 (limbs M.N) _ (f6.below hV) (f7.below hV)).mono ?_
  rintro en w14 ⟨rfl, hV2⟩
  have hV3 := next hV hV2
  have d10_0 := (d10.stay hV3).c0
  have d10_1 := (d10.stay hV3).c1
  have d10_2 := (d10.stay hV3).c2
  have d11_0 := (d11.stay hV3).c0
  have d11_1 := (d11.stay hV3).c1
  have d11_2 := (d11.stay hV3).c2
  have hWZ := next hW hV3
  rcases r1 with r1 | r1
  · have r2 := r2 r1
    rw [r1]
    unfold sgD at r2
    by_cases h0 : R.N = 0
    · have hn : n11 = 0 := by rw [← l11, h0]; rfl
      rw [if_pos h0] at r2
      subst hn r2
      cases hs : R.s
      · rw [hs] at d11_0
        go_wp2
        go_ret
        exact ⟨rfl, hWZ⟩
      · rw [hs] at d11_0
        go_wp2
        go_ret
        exact ⟨rfl, hWZ⟩
    · have hn : ¬ n11 = 0 := fun h => h0 (len_zero.1 (l11.trans h))
      rw [if_neg h0] at r2
      cases hs : R.s
      · rw [hs] at d11_0
        rw [hs, if_neg (by decide)] at r2
        subst r2
        go_wp2
        go_ret
        exact ⟨rfl, hWZ⟩
      · rw [hs] at d11_0
        rw [hs, if_pos rfl] at r2
        subst r2
        go_wp2
        go_ret
        exact ⟨rfl, hWZ⟩
  · rw [r1]
    go_wp2
    go_ret
    exact ⟨rfl, hWZ⟩

theorem ring_any (s t : Bool) (a1 a2 : Option Addr) (n1 n2 c1 c2 : Nat) (x y : Int) (xs ys : List Nat) (w : World) (h1 : Sl w a1 n1 c1 xs) (h2 : Sl w a2 n2 c2 ys) (hT : Tab w) :
    Calls Tryd.prog 6 #[.agg #[.bool s, .slice a1 n1 c1, .int .i64 x], .agg #[.bool t, .slice a2 n2 c2, .int .i64 y]] w fun e w' => e = .returned (.bool true) ∧ Below w.heap.size w w' := by
  by_cases hd : dchk s xs x = 0 ∧ dchk t ys y = 0
  · obtain ⟨k1, e1⟩ := dy_of h1.ok hd.1
    obtain ⟨k2, e2⟩ := dy_of h2.ok hd.2
    exact ring_yes s t a1 a2 n1 n2 c1 c2 x y _ _ w (by rw [e1]; exact h1) (by rw [e2]; exact h2) hT k1 k2
  · exact ring_no s t a1 a2 n1 n2 c1 c2 x y xs ys w h1 h2 hT hd

end Go.Proofs.YtmiheaoojmgalaaDoor
