/-
  The law ExactOver answers true.
-/
import Derived.Test.YtmiheaoojmgalaaDoorAlive
import Derived.Test.YtmiheaoojmgalaaDoorOverL
namespace Go.Proofs.YtmiheaoojmgalaaDoor
open Go.RowKit Go.Lb

/-- What the law asks of each of the three. -/
def ovG (D : Int) (n : Nat) (x : Int) : Prop := D = 0 ∧ n ≤ 200 ∧ x ≤ 3000 ∧ -3000 ≤ x

set_option maxRecDepth 100000 in
set_option maxHeartbeats 4000000 in
theorem over_any (s1 : Bool) (a1 : Option Addr) (n1 c1 : Nat) (x1 : Int) (s2 : Bool) (a2 : Option Addr) (n2 c2 : Nat) (x2 : Int) (s3 : Bool) (a3 : Option Addr) (n3 c3 : Nat) (x3 : Int) (xs1 xs2 xs3 : List Nat) (w : World) (h1 : Sl w a1 n1 c1 xs1) (h2 : Sl w a2 n2 c2 xs2) (h3 : Sl w a3 n3 c3 xs3) (hT : Tab w) :
    Calls Tryd.prog 5 #[.agg #[.bool s1, .slice a1 n1 c1, .int .i64 x1], .agg #[.bool s2, .slice a2 n2 c2, .int .i64 x2], .agg #[.bool s3, .slice a3 n3 c3, .int .i64 x3]] w fun e w' => e = .returned (.bool true) ∧ Below w.heap.size w w' := by
  have g1 := h1.le
  have g1' := h1.cap
  have k1 : ∀ W : World, Sl W a1 n1 c1 xs1 → Calls Tryd.prog 26 #[.agg #[.bool s1, .slice a1 n1 c1, .int .i64 x1]] W fun e w' => e = .returned (.int .i64 (dchk s1 xs1 x1)) ∧ Below W.heap.size W w' := fun W g => dyCheck_any s1 a1 n1 c1 x1 _ W g
  obtain ⟨D1, hD1⟩ : ∃ D, D = dchk s1 xs1 x1 := ⟨_, rfl⟩
  rw [← hD1] at k1
  have hD1' := Lib.hid hD1
  clear hD1
  have g2 := h2.le
  have g2' := h2.cap
  have k2 : ∀ W : World, Sl W a2 n2 c2 xs2 → Calls Tryd.prog 26 #[.agg #[.bool s2, .slice a2 n2 c2, .int .i64 x2]] W fun e w' => e = .returned (.int .i64 (dchk s2 xs2 x2)) ∧ Below W.heap.size W w' := fun W g => dyCheck_any s2 a2 n2 c2 x2 _ W g
  obtain ⟨D2, hD2⟩ : ∃ D, D = dchk s2 xs2 x2 := ⟨_, rfl⟩
  rw [← hD2] at k2
  have hD2' := Lib.hid hD2
  clear hD2
  have g3 := h3.le
  have g3' := h3.cap
  have k3 : ∀ W : World, Sl W a3 n3 c3 xs3 → Calls Tryd.prog 26 #[.agg #[.bool s3, .slice a3 n3 c3, .int .i64 x3]] W fun e w' => e = .returned (.int .i64 (dchk s3 xs3 x3)) ∧ Below W.heap.size W w' := fun W g => dyCheck_any s3 a3 n3 c3 x3 _ W g
  obtain ⟨D3, hD3⟩ : ∃ D, D = dchk s3 xs3 x3 := ⟨_, rfl⟩
  rw [← hD3] at k3
  have hD3' := Lib.hid hD3
  clear hD3
  go_enter Tryd.func5, Tryd.ntmps5
  go_wp2_with fail
  have A := ((box3_new w (.bool s1) (.slice a1 n1 c1) (.int .i64 x1) 37).alloc (.cells #[.bool s2, .slice a2 n2 c2, .int .i64 x2] 37)).alloc (.cells #[.bool s3, .slice a3 n3 c3, .int .i64 x3] 37)
  have B := (box3_new (w.alloc (.cells #[.bool s1, .slice a1 n1 c1, .int .i64 x1] 37)) (.bool s2) (.slice a2 n2 c2) (.int .i64 x2) 37).alloc (.cells #[.bool s3, .slice a3 n3 c3, .int .i64 x3] 37)
  rw [World.size_alloc] at B
  have C := box3_new ((w.alloc (.cells #[.bool s1, .slice a1 n1 c1, .int .i64 x1] 37)).alloc (.cells #[.bool s2, .slice a2 n2 c2, .int .i64 x2] 37)) (.bool s3) (.slice a3 n3 c3) (.int .i64 x3) 37
  rw [World.size_alloc, World.size_alloc] at C
  have hW := more (more (more (Below.refl w.heap.size w) (.cells #[.bool s1, .slice a1 n1 c1, .int .i64 x1] 37)) (.cells #[.bool s2, .slice a2 n2 c2, .int .i64 x2] 37)) (.cells #[.bool s3, .slice a3 n3 c3, .int .i64 x3] 37)
  replace hT := hT.below hW
  have f1 := h1.below hW
  have f2 := h2.below hW
  have f3 := h3.below hW
  clear h1 h2 h3
  generalize (((w.alloc (.cells #[.bool s1, .slice a1 n1 c1, .int .i64 x1] 37)).alloc (.cells #[.bool s2, .slice a2 n2 c2, .int .i64 x2] 37)).alloc (.cells #[.bool s3, .slice a3 n3 c3, .int .i64 x3] 37)) = w0 at A B C f1 f2 f3 hW hT ⊢
  refine (alive_any _ hT).mono ?_
  rintro en w1 ⟨rfl, hV⟩
  replace A := A.stay hV
  replace f1 := f1.below hV
  replace B := B.stay hV
  replace f2 := f2.below hV
  replace C := C.stay hV
  replace f3 := f3.below hV
  replace hT := hT.below hV
  replace hW := next hW hV
  clear hV
  have A_0 := A.c0
  have A_1 := A.c1
  have A_2 := A.c2
  have B_0 := B.c0
  have B_1 := B.c1
  have B_2 := B.c2
  have C_0 := C.c0
  have C_1 := C.c1
  have C_2 := C.c2
  go_wp2
  have m0 : (w1.alloc (.cells #[.bool s1, .slice a1 n1 c1, .int .i64 x1, .bool s2, .slice a2 n2 c2, .int .i64 x2, .bool s3, .slice a3 n3 c3, .int .i64 x3] 37)).cell? ⟨w1.heap.size, 0, none⟩ = some (.bool s1) := by simp
  have m1 : (w1.alloc (.cells #[.bool s1, .slice a1 n1 c1, .int .i64 x1, .bool s2, .slice a2 n2 c2, .int .i64 x2, .bool s3, .slice a3 n3 c3, .int .i64 x3] 37)).cell? ⟨w1.heap.size, 1, none⟩ = some (.slice a1 n1 c1) := by simp
  have m2 : (w1.alloc (.cells #[.bool s1, .slice a1 n1 c1, .int .i64 x1, .bool s2, .slice a2 n2 c2, .int .i64 x2, .bool s3, .slice a3 n3 c3, .int .i64 x3] 37)).cell? ⟨w1.heap.size, 2, none⟩ = some (.int .i64 x1) := by simp
  have m3 : (w1.alloc (.cells #[.bool s1, .slice a1 n1 c1, .int .i64 x1, .bool s2, .slice a2 n2 c2, .int .i64 x2, .bool s3, .slice a3 n3 c3, .int .i64 x3] 37)).cell? ⟨w1.heap.size, 3, none⟩ = some (.bool s2) := by simp
  have m4 : (w1.alloc (.cells #[.bool s1, .slice a1 n1 c1, .int .i64 x1, .bool s2, .slice a2 n2 c2, .int .i64 x2, .bool s3, .slice a3 n3 c3, .int .i64 x3] 37)).cell? ⟨w1.heap.size, 4, none⟩ = some (.slice a2 n2 c2) := by simp
  have m5 : (w1.alloc (.cells #[.bool s1, .slice a1 n1 c1, .int .i64 x1, .bool s2, .slice a2 n2 c2, .int .i64 x2, .bool s3, .slice a3 n3 c3, .int .i64 x3] 37)).cell? ⟨w1.heap.size, 5, none⟩ = some (.int .i64 x2) := by simp
  have m6 : (w1.alloc (.cells #[.bool s1, .slice a1 n1 c1, .int .i64 x1, .bool s2, .slice a2 n2 c2, .int .i64 x2, .bool s3, .slice a3 n3 c3, .int .i64 x3] 37)).cell? ⟨w1.heap.size, 6, none⟩ = some (.bool s3) := by simp
  have m7 : (w1.alloc (.cells #[.bool s1, .slice a1 n1 c1, .int .i64 x1, .bool s2, .slice a2 n2 c2, .int .i64 x2, .bool s3, .slice a3 n3 c3, .int .i64 x3] 37)).cell? ⟨w1.heap.size, 7, none⟩ = some (.slice a3 n3 c3) := by simp
  have m8 : (w1.alloc (.cells #[.bool s1, .slice a1 n1 c1, .int .i64 x1, .bool s2, .slice a2 n2 c2, .int .i64 x2, .bool s3, .slice a3 n3 c3, .int .i64 x3] 37)).cell? ⟨w1.heap.size, 8, none⟩ = some (.int .i64 x3) := by simp
  have hV := more (Below.refl w1.heap.size w1) (.cells #[.bool s1, .slice a1 n1 c1, .int .i64 x1, .bool s2, .slice a2 n2 c2, .int .i64 x2, .bool s3, .slice a3 n3 c3, .int .i64 x3] 37)
  clear A_0 A_1 A_2 B_0 B_1 B_2 C_0 C_1 C_2
  replace A := A.stay hV
  replace f1 := f1.below hV
  replace B := B.stay hV
  replace f2 := f2.below hV
  replace C := C.stay hV
  replace f3 := f3.below hV
  replace hT := hT.below hV
  replace hW := next hW hV
  clear hV
  generalize w1.heap.size = q at m0 m1 m2 m3 m4 m5 m6 m7 m8 ⊢
  generalize w1.alloc (.cells #[.bool s1, .slice a1 n1 c1, .int .i64 x1, .bool s2, .slice a2 n2 c2, .int .i64 x2, .bool s3, .slice a3 n3 c3, .int .i64 x3] 37) = w2 at A f1 B f2 C f3 hT hW m0 m1 m2 m3 m4 m5 m6 m7 m8 ⊢
  go_loopw [6, 9] (fun r i wr => ∃ k : Nat, k ≤ 3 ∧ r = .bool false ∧ i = .int .i64 k ∧ Below w2.heap.size w2 wr ∧ Hid (1 ≤ k → ovG D1 n1 x1) ∧ Hid (2 ≤ k → ovG D2 n2 x2) ∧ Hid (3 ≤ k → ovG D3 n3 x3)) (fun _ i _ => 3 - (intOf i).toNat)
  case atStart => exact ⟨0, by omega, rfl, rfl, Below.refl _ _, Lib.hid (fun h => absurd h (by decide)), Lib.hid (fun h => absurd h (by decide)), Lib.hid (fun h => absurd h (by decide))⟩
  case round =>
    obtain ⟨k, hk, rfl, rfl, hb, G1, G2, G3⟩ := hrel
    rcases (by omega : k = 0 ∨ k = 1 ∨ k = 2 ∨ k = 3) with rfl | rfl | rfl | rfl
    · clear m3 m4 m5 m6 m7 m8
      have u0 := cellStay m0 hb
      have u1 := cellStay m1 hb
      have u2 := cellStay m2 hb
      by_cases g0 : D1 = 0
      · subst g0
        go_wp2_with fail
        refine (k1 _ (f1.below hb)).mono ?_
        rintro en wX ⟨rfl, hX⟩
        have hbX := next hb hX
        replace u0 := cellStay m0 hbX
        replace u1 := cellStay m1 hbX
        replace u2 := cellStay m2 hbX
        by_cases l0 : n1 ≤ 200
        · have e0 : decide ((200 : Int) < (n1 : Int)) = false := decide_eq_false (by omega)
          by_cases l1 : x1 ≤ 3000
          · have e1 : decide (3000 < x1) = false := decide_eq_false (by omega)
            by_cases l2 : -3000 ≤ x1
            · have e2 : decide (x1 < -3000) = false := decide_eq_false (by omega)
              go_wp2
              go_roundw
              case rel => exact ⟨1, by omega, rfl, by go_num, hbX, Lib.hid (fun _ => ⟨rfl, l0, l1, l2⟩), Lib.hid (fun h => absurd h (by decide)), Lib.hid (fun h => absurd h (by decide))⟩
              case measure => simp [intOf]
            · have e2 : decide (x1 < -3000) = true := decide_eq_true (by omega)
              go_wp2
              go_ret
              exact ⟨rfl, next hW hbX⟩
          · have e1 : decide (3000 < x1) = true := decide_eq_true (by omega)
            go_wp2
            go_ret
            exact ⟨rfl, next hW hbX⟩
        · have e0 : decide ((200 : Int) < (n1 : Int)) = true := decide_eq_true (by omega)
          go_wp2
          go_ret
          exact ⟨rfl, next hW hbX⟩
      · have g0' : (D1 == 0) = false := by simp [g0]
        go_wp2_with fail
        refine (k1 _ (f1.below hb)).mono ?_
        rintro en wX ⟨rfl, hX⟩
        have hbX := next hb hX
        replace u0 := cellStay m0 hbX
        replace u1 := cellStay m1 hbX
        replace u2 := cellStay m2 hbX
        go_wp2
        go_ret
        exact ⟨rfl, next hW hbX⟩
    · clear m0 m1 m2 m6 m7 m8
      have u3 := cellStay m3 hb
      have u4 := cellStay m4 hb
      have u5 := cellStay m5 hb
      by_cases g0 : D2 = 0
      · subst g0
        go_wp2_with fail
        refine (k2 _ (f2.below hb)).mono ?_
        rintro en wX ⟨rfl, hX⟩
        have hbX := next hb hX
        replace u3 := cellStay m3 hbX
        replace u4 := cellStay m4 hbX
        replace u5 := cellStay m5 hbX
        by_cases l0 : n2 ≤ 200
        · have e0 : decide ((200 : Int) < (n2 : Int)) = false := decide_eq_false (by omega)
          by_cases l1 : x2 ≤ 3000
          · have e1 : decide (3000 < x2) = false := decide_eq_false (by omega)
            by_cases l2 : -3000 ≤ x2
            · have e2 : decide (x2 < -3000) = false := decide_eq_false (by omega)
              go_wp2
              go_roundw
              case rel => exact ⟨2, by omega, rfl, by go_num, hbX, Lib.hid (fun _ => G1.out (by decide)), Lib.hid (fun _ => ⟨rfl, l0, l1, l2⟩), Lib.hid (fun h => absurd h (by decide))⟩
              case measure => simp [intOf]
            · have e2 : decide (x2 < -3000) = true := decide_eq_true (by omega)
              go_wp2
              go_ret
              exact ⟨rfl, next hW hbX⟩
          · have e1 : decide (3000 < x2) = true := decide_eq_true (by omega)
            go_wp2
            go_ret
            exact ⟨rfl, next hW hbX⟩
        · have e0 : decide ((200 : Int) < (n2 : Int)) = true := decide_eq_true (by omega)
          go_wp2
          go_ret
          exact ⟨rfl, next hW hbX⟩
      · have g0' : (D2 == 0) = false := by simp [g0]
        go_wp2_with fail
        refine (k2 _ (f2.below hb)).mono ?_
        rintro en wX ⟨rfl, hX⟩
        have hbX := next hb hX
        replace u3 := cellStay m3 hbX
        replace u4 := cellStay m4 hbX
        replace u5 := cellStay m5 hbX
        go_wp2
        go_ret
        exact ⟨rfl, next hW hbX⟩
    · clear m0 m1 m2 m3 m4 m5
      have u6 := cellStay m6 hb
      have u7 := cellStay m7 hb
      have u8 := cellStay m8 hb
      by_cases g0 : D3 = 0
      · subst g0
        go_wp2_with fail
        refine (k3 _ (f3.below hb)).mono ?_
        rintro en wX ⟨rfl, hX⟩
        have hbX := next hb hX
        replace u6 := cellStay m6 hbX
        replace u7 := cellStay m7 hbX
        replace u8 := cellStay m8 hbX
        by_cases l0 : n3 ≤ 200
        · have e0 : decide ((200 : Int) < (n3 : Int)) = false := decide_eq_false (by omega)
          by_cases l1 : x3 ≤ 3000
          · have e1 : decide (3000 < x3) = false := decide_eq_false (by omega)
            by_cases l2 : -3000 ≤ x3
            · have e2 : decide (x3 < -3000) = false := decide_eq_false (by omega)
              go_wp2
              go_roundw
              case rel => exact ⟨3, by omega, rfl, by go_num, hbX, Lib.hid (fun _ => G1.out (by decide)), Lib.hid (fun _ => G2.out (by decide)), Lib.hid (fun _ => ⟨rfl, l0, l1, l2⟩)⟩
              case measure => simp [intOf]
            · have e2 : decide (x3 < -3000) = true := decide_eq_true (by omega)
              go_wp2
              go_ret
              exact ⟨rfl, next hW hbX⟩
          · have e1 : decide (3000 < x3) = true := decide_eq_true (by omega)
            go_wp2
            go_ret
            exact ⟨rfl, next hW hbX⟩
        · have e0 : decide ((200 : Int) < (n3 : Int)) = true := decide_eq_true (by omega)
          go_wp2
          go_ret
          exact ⟨rfl, next hW hbX⟩
      · have g0' : (D3 == 0) = false := by simp [g0]
        go_wp2_with fail
        refine (k3 _ (f3.below hb)).mono ?_
        rintro en wX ⟨rfl, hX⟩
        have hbX := next hb hX
        replace u6 := cellStay m6 hbX
        replace u7 := cellStay m7 hbX
        replace u8 := cellStay m8 hbX
        go_wp2
        go_ret
        exact ⟨rfl, next hW hbX⟩
    · clear m0 m1 m2 m3 m4 m5 m6 m7 m8
      obtain ⟨j1, b1, u1, v1⟩ := G1.out (by decide)
      obtain ⟨y1, e1⟩ := dy_of f1.ok (hD1'.out.symm.trans j1)
      generalize val xs1 = N1 at y1 e1
      subst e1
      have l1 : (limbs N1).length ≤ 200 := by rw [f1.len]; exact b1
      obtain ⟨j2, b2, u2, v2⟩ := G2.out (by decide)
      obtain ⟨y2, e2⟩ := dy_of f2.ok (hD2'.out.symm.trans j2)
      generalize val xs2 = N2 at y2 e2
      subst e2
      have l2 : (limbs N2).length ≤ 200 := by rw [f2.len]; exact b2
      obtain ⟨j3, b3, u3, v3⟩ := G3.out (by decide)
      obtain ⟨y3, e3⟩ := dy_of f3.ok (hD3'.out.symm.trans j3)
      generalize val xs3 = N3 at y3 e3
      subst e3
      have l3 : (limbs N3).length ≤ 200 := by rw [f3.len]; exact b3
      clear k1 k2 k3 G1 G2 G3 hD1' hD2' hD3' j1 j2 j3
      obtain ⟨BC, eBC⟩ : ∃ D, D = addA s2 (limbs N2) x2 s3 (limbs N3) x3 := ⟨_, rfl⟩
      have kBC : ∀ (W : World), Sl W a2 n2 c2 (limbs N2) → Sl W a3 n3 c3 (limbs N3) → Tab W → Calls Tryd.prog 20 #[.agg #[.bool s2, .slice a2 n2 c2, .int .i64 x2], .agg #[.bool s3, .slice a3 n3 c3, .int .i64 x3]] W (Dyn BC W) := fun W g h t => by rw [eBC]; exact exAdd_any s2 s3 a2 a3 n2 n3 c2 c3 x2 x3 _ _ W g h t
      obtain ⟨AB, eAB⟩ : ∃ D, D = addA s1 (limbs N1) x1 s2 (limbs N2) x2 := ⟨_, rfl⟩
      have kAB : ∀ (W : World), Sl W a1 n1 c1 (limbs N1) → Sl W a2 n2 c2 (limbs N2) → Tab W → Calls Tryd.prog 20 #[.agg #[.bool s1, .slice a1 n1 c1, .int .i64 x1], .agg #[.bool s2, .slice a2 n2 c2, .int .i64 x2]] W (Dyn AB W) := fun W g h t => by rw [eAB]; exact exAdd_any s1 s2 a1 a2 n1 n2 c1 c2 x1 x2 _ _ W g h t
      obtain ⟨L, eL⟩ : ∃ D, D = addA AB.s (limbs AB.N) AB.x s3 (limbs N3) x3 := ⟨_, rfl⟩
      have kL : ∀ (W : World) (aa : Option Addr) (na ca : Nat), Sl W aa na ca (limbs AB.N) → Sl W a3 n3 c3 (limbs N3) → Tab W → Calls Tryd.prog 20 #[.agg #[.bool AB.s, .slice aa na ca, .int .i64 AB.x], .agg #[.bool s3, .slice a3 n3 c3, .int .i64 x3]] W (Dyn L W) := fun W aa na ca g h t => by rw [eL]; exact exAdd_any AB.s s3 aa a3 na n3 ca c3 AB.x x3 _ _ W g h t
      obtain ⟨R, eR⟩ : ∃ D, D = addA s1 (limbs N1) x1 BC.s (limbs BC.N) BC.x := ⟨_, rfl⟩
      have kR : ∀ (W : World) (aa : Option Addr) (na ca : Nat), Sl W a1 n1 c1 (limbs N1) → Sl W aa na ca (limbs BC.N) → Tab W → Calls Tryd.prog 20 #[.agg #[.bool s1, .slice a1 n1 c1, .int .i64 x1], .agg #[.bool BC.s, .slice aa na ca, .int .i64 BC.x]] W (Dyn R W) := fun W aa na ca g h t => by rw [eR]; exact exAdd_any s1 BC.s a1 aa n1 na c1 ca x1 BC.x _ _ W g h t
      obtain ⟨V, eV⟩ : ∃ D, D = mulA s1 (limbs N1) x1 BC.s (limbs BC.N) BC.x := ⟨_, rfl⟩
      have kV : ∀ (W : World) (aa : Option Addr) (na ca : Nat), Sl W a1 n1 c1 (limbs N1) → Sl W aa na ca (limbs BC.N) → Tab W → Calls Tryd.prog 27 #[.agg #[.bool s1, .slice a1 n1 c1, .int .i64 x1], .agg #[.bool BC.s, .slice aa na ca, .int .i64 BC.x]] W (Dyn V W) := fun W aa na ca g h t => by rw [eV]; exact exMul_any s1 BC.s a1 aa n1 na c1 ca x1 BC.x _ _ W g h t
      obtain ⟨P, eP⟩ : ∃ D, D = mulA s1 (limbs N1) x1 s2 (limbs N2) x2 := ⟨_, rfl⟩
      have kP : ∀ (W : World), Sl W a1 n1 c1 (limbs N1) → Sl W a2 n2 c2 (limbs N2) → Tab W → Calls Tryd.prog 27 #[.agg #[.bool s1, .slice a1 n1 c1, .int .i64 x1], .agg #[.bool s2, .slice a2 n2 c2, .int .i64 x2]] W (Dyn P W) := fun W g h t => by rw [eP]; exact exMul_any s1 s2 a1 a2 n1 n2 c1 c2 x1 x2 _ _ W g h t
      obtain ⟨Q, eQ⟩ : ∃ D, D = mulA s1 (limbs N1) x1 s3 (limbs N3) x3 := ⟨_, rfl⟩
      have kQ : ∀ (W : World), Sl W a1 n1 c1 (limbs N1) → Sl W a3 n3 c3 (limbs N3) → Tab W → Calls Tryd.prog 27 #[.agg #[.bool s1, .slice a1 n1 c1, .int .i64 x1], .agg #[.bool s3, .slice a3 n3 c3, .int .i64 x3]] W (Dyn Q W) := fun W g h t => by rw [eQ]; exact exMul_any s1 s3 a1 a3 n1 n3 c1 c3 x1 x3 _ _ W g h t
      obtain ⟨U, eU⟩ : ∃ D, D = addA P.s (limbs P.N) P.x Q.s (limbs Q.N) Q.x := ⟨_, rfl⟩
      have kU : ∀ (W : World) (aa : Option Addr) (na ca : Nat) (ab : Option Addr) (nb cb : Nat), Sl W aa na ca (limbs P.N) → Sl W ab nb cb (limbs Q.N) → Tab W → Calls Tryd.prog 20 #[.agg #[.bool P.s, .slice aa na ca, .int .i64 P.x], .agg #[.bool Q.s, .slice ab nb cb, .int .i64 Q.x]] W (Dyn U W) := fun W aa na ca ab nb cb g h t => by rw [eU]; exact exAdd_any P.s Q.s aa ab na nb ca cb P.x Q.x _ _ W g h t
      obtain ⟨z1, z2, z3, z4, z5, z6, z7, z8⟩ := over_plain y1 y2 y3 l1 l2 l3 v1 u1 v2 u2 v3 u3 BC AB L R V P Q U eBC eAB eL eR eV eP eQ eU
      rw [z4] at kR
      rw [z8] at kU
      clear z4 z8 eBC eAB eL eR eV eP eQ eU y1 y2 y3 l1 l2 l3 u1 u2 u3 v1 v2 v3 b1 b2 b3 g1 g2 g3 g1' g2' g3' hk
      replace A := A.stay hb
      replace f1 := f1.below hb
      replace B := B.stay hb
      replace f2 := f2.below hb
      replace C := C.stay hb
      replace f3 := f3.below hb
      replace hT := hT.below hb
      replace hW := next hW hb
      clear hb
      have B_0 := B.c0
      have B_1 := B.c1
      have B_2 := B.c2
      have C_0 := C.c0
      have C_1 := C.c1
      have C_2 := C.c2
      go_wp2_with fail
      clear B_0 B_1 B_2 C_0 C_1 C_2
      refine (kBC _ f2 f3 hT).mono ?_
      rintro en v11 ⟨a11, n11, k11, rfl, hF11, hb11⟩
      replace A := A.stay hb11
      replace f1 := f1.below hb11
      replace B := B.stay hb11
      replace f2 := f2.below hb11
      replace C := C.stay hb11
      replace f3 := f3.below hb11
      replace hT := hT.below hb11
      replace hW := next hW hb11
      have hV := more (Below.refl v11.heap.size v11) (.cells #[.bool BC.s, .slice a11 n11 k11, .int .i64 BC.x] 37)
      have d11 := box3_new v11 (.bool BC.s) (.slice a11 n11 k11) (.int .i64 BC.x) 37
      have f11 := hF11.sl.alloc (.cells #[.bool BC.s, .slice a11 n11 k11, .int .i64 BC.x] 37)
      replace A := A.stay hV
      replace f1 := f1.below hV
      replace B := B.stay hV
      replace f2 := f2.below hV
      replace C := C.stay hV
      replace f3 := f3.below hV
      replace hT := hT.below hV
      replace hW := next hW hV
      clear hF11 hb11 hV
      have A_0 := A.c0
      have A_1 := A.c1
      have A_2 := A.c2
      have B_0 := B.c0
      have B_1 := B.c1
      have B_2 := B.c2
      go_wp2_with fail
      clear A_0 A_1 A_2 B_0 B_1 B_2
      generalize v11.heap.size = p11 at d11 ⊢
      generalize v11.alloc (.cells #[.bool BC.s, .slice a11 n11 k11, .int .i64 BC.x] 37) = w11 at d11 f11 hT hW A f1 B f2 C f3 ⊢
      refine (kAB _ f1 f2 hT).mono ?_
      rintro en v12 ⟨a12, n12, k12, rfl, hF12, hb12⟩
      replace A := A.stay hb12
      replace f1 := f1.below hb12
      replace B := B.stay hb12
      replace f2 := f2.below hb12
      replace C := C.stay hb12
      replace f3 := f3.below hb12
      replace d11 := d11.stay hb12
      replace f11 := f11.below hb12
      replace hT := hT.below hb12
      replace hW := next hW hb12
      have hV := more (Below.refl v12.heap.size v12) (.cells #[.bool AB.s, .slice a12 n12 k12, .int .i64 AB.x] 37)
      have d12 := box3_new v12 (.bool AB.s) (.slice a12 n12 k12) (.int .i64 AB.x) 37
      have f12 := hF12.sl.alloc (.cells #[.bool AB.s, .slice a12 n12 k12, .int .i64 AB.x] 37)
      replace A := A.stay hV
      replace f1 := f1.below hV
      replace B := B.stay hV
      replace f2 := f2.below hV
      replace C := C.stay hV
      replace f3 := f3.below hV
      replace d11 := d11.stay hV
      replace f11 := f11.below hV
      replace hT := hT.below hV
      replace hW := next hW hV
      clear hF12 hb12 hV
      have C_0 := C.c0
      have C_1 := C.c1
      have C_2 := C.c2
      have d12_0 := d12.c0
      have d12_1 := d12.c1
      have d12_2 := d12.c2
      go_wp2_with fail
      clear C_0 C_1 C_2 d12_0 d12_1 d12_2
      generalize v12.heap.size = p12 at d12 ⊢
      generalize v12.alloc (.cells #[.bool AB.s, .slice a12 n12 k12, .int .i64 AB.x] 37) = w12 at d12 f12 hT hW A f1 B f2 C f3 d11 f11 ⊢
      refine (kL _ _ _ _ f12 f3 hT).mono ?_
      rintro en v13 ⟨a13, n13, k13, rfl, hF13, hb13⟩
      replace A := A.stay hb13
      replace f1 := f1.below hb13
      replace B := B.stay hb13
      replace f2 := f2.below hb13
      replace C := C.stay hb13
      replace f3 := f3.below hb13
      replace d11 := d11.stay hb13
      replace f11 := f11.below hb13
      replace d12 := d12.stay hb13
      replace f12 := f12.below hb13
      replace hT := hT.below hb13
      replace hW := next hW hb13
      have hV := more (Below.refl v13.heap.size v13) (.cells #[.bool L.s, .slice a13 n13 k13, .int .i64 L.x] 37)
      have d13 := box3_new v13 (.bool L.s) (.slice a13 n13 k13) (.int .i64 L.x) 37
      have f13 := hF13.sl.alloc (.cells #[.bool L.s, .slice a13 n13 k13, .int .i64 L.x] 37)
      replace A := A.stay hV
      replace f1 := f1.below hV
      replace B := B.stay hV
      replace f2 := f2.below hV
      replace C := C.stay hV
      replace f3 := f3.below hV
      replace d11 := d11.stay hV
      replace f11 := f11.below hV
      replace d12 := d12.stay hV
      replace f12 := f12.below hV
      replace hT := hT.below hV
      replace hW := next hW hV
      clear hF13 hb13 hV
      have A_0 := A.c0
      have A_1 := A.c1
      have A_2 := A.c2
      have d11_0 := d11.c0
      have d11_1 := d11.c1
      have d11_2 := d11.c2
      go_wp2_with fail
      clear A_0 A_1 A_2 d11_0 d11_1 d11_2
      generalize v13.heap.size = p13 at d13 ⊢
      generalize v13.alloc (.cells #[.bool L.s, .slice a13 n13 k13, .int .i64 L.x] 37) = w13 at d13 f13 hT hW A f1 B f2 C f3 d11 f11 d12 f12 ⊢
      refine (kR _ _ _ _ f1 f11 hT).mono ?_
      rintro en v14 ⟨a14, n14, k14, rfl, hF14, hb14⟩
      replace A := A.stay hb14
      replace f1 := f1.below hb14
      replace B := B.stay hb14
      replace f2 := f2.below hb14
      replace C := C.stay hb14
      replace f3 := f3.below hb14
      replace d11 := d11.stay hb14
      replace f11 := f11.below hb14
      replace d12 := d12.stay hb14
      replace f12 := f12.below hb14
      replace d13 := d13.stay hb14
      replace f13 := f13.below hb14
      replace hT := hT.below hb14
      replace hW := next hW hb14
      have hV := more (Below.refl v14.heap.size v14) (.cells #[.bool L.s, .slice a14 n14 k14, .int .i64 L.x] 37)
      have d14 := box3_new v14 (.bool L.s) (.slice a14 n14 k14) (.int .i64 L.x) 37
      have f14 := hF14.sl.alloc (.cells #[.bool L.s, .slice a14 n14 k14, .int .i64 L.x] 37)
      replace A := A.stay hV
      replace f1 := f1.below hV
      replace B := B.stay hV
      replace f2 := f2.below hV
      replace C := C.stay hV
      replace f3 := f3.below hV
      replace d11 := d11.stay hV
      replace f11 := f11.below hV
      replace d12 := d12.stay hV
      replace f12 := f12.below hV
      replace d13 := d13.stay hV
      replace f13 := f13.below hV
      replace hT := hT.below hV
      replace hW := next hW hV
      clear hF14 hb14 hV
      have A_0 := A.c0
      have A_1 := A.c1
      have A_2 := A.c2
      have d11_0 := d11.c0
      have d11_1 := d11.c1
      have d11_2 := d11.c2
      go_wp2_with fail
      clear A_0 A_1 A_2 d11_0 d11_1 d11_2
      generalize v14.heap.size = p14 at d14 ⊢
      generalize v14.alloc (.cells #[.bool L.s, .slice a14 n14 k14, .int .i64 L.x] 37) = w14 at d14 f14 hT hW A f1 B f2 C f3 d11 f11 d12 f12 d13 f13 ⊢
      refine (kV _ _ _ _ f1 f11 hT).mono ?_
      rintro en v15 ⟨a15, n15, k15, rfl, hF15, hb15⟩
      replace A := A.stay hb15
      replace f1 := f1.below hb15
      replace B := B.stay hb15
      replace f2 := f2.below hb15
      replace C := C.stay hb15
      replace f3 := f3.below hb15
      replace d11 := d11.stay hb15
      replace f11 := f11.below hb15
      replace d12 := d12.stay hb15
      replace f12 := f12.below hb15
      replace d13 := d13.stay hb15
      replace f13 := f13.below hb15
      replace d14 := d14.stay hb15
      replace f14 := f14.below hb15
      replace hT := hT.below hb15
      replace hW := next hW hb15
      have hV := more (Below.refl v15.heap.size v15) (.cells #[.bool V.s, .slice a15 n15 k15, .int .i64 V.x] 37)
      have d15 := box3_new v15 (.bool V.s) (.slice a15 n15 k15) (.int .i64 V.x) 37
      have f15 := hF15.sl.alloc (.cells #[.bool V.s, .slice a15 n15 k15, .int .i64 V.x] 37)
      replace A := A.stay hV
      replace f1 := f1.below hV
      replace B := B.stay hV
      replace f2 := f2.below hV
      replace C := C.stay hV
      replace f3 := f3.below hV
      replace d11 := d11.stay hV
      replace f11 := f11.below hV
      replace d12 := d12.stay hV
      replace f12 := f12.below hV
      replace d13 := d13.stay hV
      replace f13 := f13.below hV
      replace d14 := d14.stay hV
      replace f14 := f14.below hV
      replace hT := hT.below hV
      replace hW := next hW hV
      clear hF15 hb15 hV
      have A_0 := A.c0
      have A_1 := A.c1
      have A_2 := A.c2
      have B_0 := B.c0
      have B_1 := B.c1
      have B_2 := B.c2
      go_wp2_with fail
      clear A_0 A_1 A_2 B_0 B_1 B_2
      generalize v15.heap.size = p15 at d15 ⊢
      generalize v15.alloc (.cells #[.bool V.s, .slice a15 n15 k15, .int .i64 V.x] 37) = w15 at d15 f15 hT hW A f1 B f2 C f3 d11 f11 d12 f12 d13 f13 d14 f14 ⊢
      refine (kP _ f1 f2 hT).mono ?_
      rintro en v16 ⟨a16, n16, k16, rfl, hF16, hb16⟩
      replace A := A.stay hb16
      replace f1 := f1.below hb16
      replace B := B.stay hb16
      replace f2 := f2.below hb16
      replace C := C.stay hb16
      replace f3 := f3.below hb16
      replace d11 := d11.stay hb16
      replace f11 := f11.below hb16
      replace d12 := d12.stay hb16
      replace f12 := f12.below hb16
      replace d13 := d13.stay hb16
      replace f13 := f13.below hb16
      replace d14 := d14.stay hb16
      replace f14 := f14.below hb16
      replace d15 := d15.stay hb16
      replace f15 := f15.below hb16
      replace hT := hT.below hb16
      replace hW := next hW hb16
      have hV := more (Below.refl v16.heap.size v16) (.cells #[.bool P.s, .slice a16 n16 k16, .int .i64 P.x] 37)
      have d16 := box3_new v16 (.bool P.s) (.slice a16 n16 k16) (.int .i64 P.x) 37
      have f16 := hF16.sl.alloc (.cells #[.bool P.s, .slice a16 n16 k16, .int .i64 P.x] 37)
      replace A := A.stay hV
      replace f1 := f1.below hV
      replace B := B.stay hV
      replace f2 := f2.below hV
      replace C := C.stay hV
      replace f3 := f3.below hV
      replace d11 := d11.stay hV
      replace f11 := f11.below hV
      replace d12 := d12.stay hV
      replace f12 := f12.below hV
      replace d13 := d13.stay hV
      replace f13 := f13.below hV
      replace d14 := d14.stay hV
      replace f14 := f14.below hV
      replace d15 := d15.stay hV
      replace f15 := f15.below hV
      replace hT := hT.below hV
      replace hW := next hW hV
      clear hF16 hb16 hV
      have A_0 := A.c0
      have A_1 := A.c1
      have A_2 := A.c2
      have C_0 := C.c0
      have C_1 := C.c1
      have C_2 := C.c2
      go_wp2_with fail
      clear A_0 A_1 A_2 C_0 C_1 C_2
      generalize v16.heap.size = p16 at d16 ⊢
      generalize v16.alloc (.cells #[.bool P.s, .slice a16 n16 k16, .int .i64 P.x] 37) = w16 at d16 f16 hT hW A f1 B f2 C f3 d11 f11 d12 f12 d13 f13 d14 f14 d15 f15 ⊢
      refine (kQ _ f1 f3 hT).mono ?_
      rintro en v17 ⟨a17, n17, k17, rfl, hF17, hb17⟩
      replace A := A.stay hb17
      replace f1 := f1.below hb17
      replace B := B.stay hb17
      replace f2 := f2.below hb17
      replace C := C.stay hb17
      replace f3 := f3.below hb17
      replace d11 := d11.stay hb17
      replace f11 := f11.below hb17
      replace d12 := d12.stay hb17
      replace f12 := f12.below hb17
      replace d13 := d13.stay hb17
      replace f13 := f13.below hb17
      replace d14 := d14.stay hb17
      replace f14 := f14.below hb17
      replace d15 := d15.stay hb17
      replace f15 := f15.below hb17
      replace d16 := d16.stay hb17
      replace f16 := f16.below hb17
      replace hT := hT.below hb17
      replace hW := next hW hb17
      have hV := more (Below.refl v17.heap.size v17) (.cells #[.bool Q.s, .slice a17 n17 k17, .int .i64 Q.x] 37)
      have d17 := box3_new v17 (.bool Q.s) (.slice a17 n17 k17) (.int .i64 Q.x) 37
      have f17 := hF17.sl.alloc (.cells #[.bool Q.s, .slice a17 n17 k17, .int .i64 Q.x] 37)
      replace A := A.stay hV
      replace f1 := f1.below hV
      replace B := B.stay hV
      replace f2 := f2.below hV
      replace C := C.stay hV
      replace f3 := f3.below hV
      replace d11 := d11.stay hV
      replace f11 := f11.below hV
      replace d12 := d12.stay hV
      replace f12 := f12.below hV
      replace d13 := d13.stay hV
      replace f13 := f13.below hV
      replace d14 := d14.stay hV
      replace f14 := f14.below hV
      replace d15 := d15.stay hV
      replace f15 := f15.below hV
      replace d16 := d16.stay hV
      replace f16 := f16.below hV
      replace hT := hT.below hV
      replace hW := next hW hV
      clear hF17 hb17 hV
      have d16_0 := d16.c0
      have d16_1 := d16.c1
      have d16_2 := d16.c2
      have d17_0 := d17.c0
      have d17_1 := d17.c1
      have d17_2 := d17.c2
      go_wp2_with fail
      clear d16_0 d16_1 d16_2 d17_0 d17_1 d17_2
      generalize v17.heap.size = p17 at d17 ⊢
      generalize v17.alloc (.cells #[.bool Q.s, .slice a17 n17 k17, .int .i64 Q.x] 37) = w17 at d17 f17 hT hW A f1 B f2 C f3 d11 f11 d12 f12 d13 f13 d14 f14 d15 f15 d16 f16 ⊢
      refine (kU _ _ _ _ _ _ _ f16 f17 hT).mono ?_
      rintro en v18 ⟨a18, n18, k18, rfl, hF18, hb18⟩
      replace A := A.stay hb18
      replace f1 := f1.below hb18
      replace B := B.stay hb18
      replace f2 := f2.below hb18
      replace C := C.stay hb18
      replace f3 := f3.below hb18
      replace d11 := d11.stay hb18
      replace f11 := f11.below hb18
      replace d12 := d12.stay hb18
      replace f12 := f12.below hb18
      replace d13 := d13.stay hb18
      replace f13 := f13.below hb18
      replace d14 := d14.stay hb18
      replace f14 := f14.below hb18
      replace d15 := d15.stay hb18
      replace f15 := f15.below hb18
      replace d16 := d16.stay hb18
      replace f16 := f16.below hb18
      replace d17 := d17.stay hb18
      replace f17 := f17.below hb18
      replace hT := hT.below hb18
      replace hW := next hW hb18
      have hV := more (Below.refl v18.heap.size v18) (.cells #[.bool V.s, .slice a18 n18 k18, .int .i64 V.x] 37)
      have d18 := box3_new v18 (.bool V.s) (.slice a18 n18 k18) (.int .i64 V.x) 37
      have f18 := hF18.sl.alloc (.cells #[.bool V.s, .slice a18 n18 k18, .int .i64 V.x] 37)
      replace A := A.stay hV
      replace f1 := f1.below hV
      replace B := B.stay hV
      replace f2 := f2.below hV
      replace C := C.stay hV
      replace f3 := f3.below hV
      replace d11 := d11.stay hV
      replace f11 := f11.below hV
      replace d12 := d12.stay hV
      replace f12 := f12.below hV
      replace d13 := d13.stay hV
      replace f13 := f13.below hV
      replace d14 := d14.stay hV
      replace f14 := f14.below hV
      replace d15 := d15.stay hV
      replace f15 := f15.below hV
      replace d16 := d16.stay hV
      replace f16 := f16.below hV
      replace d17 := d17.stay hV
      replace f17 := f17.below hV
      replace hT := hT.below hV
      replace hW := next hW hV
      clear hF18 hb18 hV
      have d13_0 := d13.c0
      have d13_1 := d13.c1
      have d13_2 := d13.c2
      have d14_0 := d14.c0
      have d14_1 := d14.c1
      have d14_2 := d14.c2
      go_wp2_with fail
      clear d13_0 d13_1 d13_2 d14_0 d14_1 d14_2
      generalize v18.heap.size = p18 at d18 ⊢
      generalize v18.alloc (.cells #[.bool V.s, .slice a18 n18 k18, .int .i64 V.x] 37) = w18 at d18 f18 hT hW A f1 B f2 C f3 d11 f11 d12 f12 d13 f13 d14 f14 d15 f15 d16 f16 d17 f17 ⊢
      obtain rfl : n13 = n14 := by rw [← f13.len, ← f14.len]
      obtain rfl : n15 = n18 := by rw [← f15.len, ← f18.len]
      refine (refDySame_eq L.s L.x a13 a14 _ k13 k14 (limbs L.N) _ f13 f14).mono ?_
      rintro en wY ⟨rfl, hV⟩
      replace A := A.stay hV
      replace f1 := f1.below hV
      replace B := B.stay hV
      replace f2 := f2.below hV
      replace C := C.stay hV
      replace f3 := f3.below hV
      replace d11 := d11.stay hV
      replace f11 := f11.below hV
      replace d12 := d12.stay hV
      replace f12 := f12.below hV
      replace d13 := d13.stay hV
      replace f13 := f13.below hV
      replace d14 := d14.stay hV
      replace f14 := f14.below hV
      replace d15 := d15.stay hV
      replace f15 := f15.below hV
      replace d16 := d16.stay hV
      replace f16 := f16.below hV
      replace d17 := d17.stay hV
      replace f17 := f17.below hV
      replace d18 := d18.stay hV
      replace f18 := f18.below hV
      replace hT := hT.below hV
      replace hW := next hW hV
      clear hV
      have d15_0 := d15.c0
      have d15_1 := d15.c1
      have d15_2 := d15.c2
      have d18_0 := d18.c0
      have d18_1 := d18.c1
      have d18_2 := d18.c2
      go_wp2_with fail
      clear d15_0 d15_1 d15_2 d18_0 d18_1 d18_2
      refine (refDySame_eq V.s V.x a15 a18 _ k15 k18 (limbs V.N) _ f15 f18).mono ?_
      rintro en wZ ⟨rfl, hV⟩
      replace hW := next hW hV
      go_wp2
      go_ret
      exact ⟨rfl, hW⟩

end Go.Proofs.YtmiheaoojmgalaaDoor
