/-
  The reference of layer 7: zero, worth, sum.
-/
import Derived.Test.YtkifhlgmbckekaaGreatDoorQRef7C
import Derived.Test.YtkifhlgmbckekaaGreatDoorQMS8
namespace Go.Proofs.YtkifhlgmbckekaaGreatDoor

open Go.RowKit Go.Lb

attribute [local go_sem] Go.World.cell?_alloc_some

/-- The sign bit. -/
def sgP (E F : Nat) (neg : Bool) : Nat := if neg = true then 2 ^ (E + F) else 0

set_option maxRecDepth 100000 in
theorem zero7_any (E F : Nat) (neg : Bool) (w : World) (hf : formE (E : Int) (F : Int) = 0) :
    Calls Tryz.prog 157 #[.agg #[.int .i64 (E : Int), .int .i64 (F : Int)], .bool neg] w fun en w' => en = .returned (.int .u64 (sgP E F neg : Int)) ∧ Below w.heap.size w w' := by
  obtain ⟨W1, hW1⟩ : ∃ W1 : World, W1 = w.alloc (.cells #[.int .i64 (E : Int), .int .i64 (F : Int)] 23) := ⟨_, rfl⟩
  have hb1 : Below w.heap.size w W1 := hW1 ▸ more (Below.refl _ _) _
  have a0 : W1.cell? ⟨w.heap.size, 0, none⟩ = some (.int .i64 (E : Int)) := by rw [hW1]; simp
  have a1 : W1.cell? ⟨w.heap.size, 1, none⟩ = some (.int .i64 (F : Int)) := by rw [hW1]; simp
  have kS := refSign7_any (E : Int) (F : Int) neg W1 hf
  have hs : (if neg = true then pw ((E : Int).toNat + (F : Int).toNat) else 0) = sgP E F neg := by
    rw [Int.toNat_natCast, Int.toNat_natCast]
    unfold sgP pw
    rfl
  rw [hs] at kS
  clear hs
  generalize sgP E F neg = P at *
  go_enter Tryz.func157, Tryz.ntmps157
  go_upto_region 1 with fail
  rw [← hW1]
  clear hW1
  go_wp2_with fail
  refine kS.mono ?_
  rintro en w2 ⟨rfl, hb2⟩
  go_wp2
  go_ret
  exact ⟨rfl, next hb1 hb2⟩

set_option maxRecDepth 100000 in
set_option maxHeartbeats 1000000 in
theorem worth7_any (E F : Nat) (neg : Bool) (ao : Option Addr) (k c N m : Nat) (X : Int) (w : World) (hf : formE (E : Int) (F : Int) = 0) (hN : N ≠ 0) (hm : m < 5) (h : Sl w ao k c (limbs N)) (hx1 : -5000 ≤ X) (hx2 : X ≤ 5000) (l1 : (limbs N).length ≤ 200) :
    Calls Tryz.prog 158 #[.agg #[.int .i64 (E : Int), .int .i64 (F : Int)], .agg #[.bool neg, .slice ao k c, .int .i64 X], .int .u8 (m : Int)] w fun en w' => en = .returned (.tuple #[.int .u64 ((if neg = true then flB E F (upN N X) (upD X) neg m + 2 ^ (E + F) else flB E F (upN N X) (upD X) neg m : Nat) : Int), .int .u8 (flG E F (upN N X) (upD X) neg m : Int)]) ∧ Below w.heap.size w w' := by
  obtain ⟨W2, hW2⟩ : ∃ W2 : World, W2 = (w.alloc (.cells #[.int .i64 (E : Int), .int .i64 (F : Int)] 23)).alloc (.cells #[.bool neg, .slice ao k c, .int .i64 X] 81) := ⟨_, rfl⟩
  have hb2 : Below w.heap.size w W2 := hW2 ▸ more (more (Below.refl _ _) _) _
  have a0 : W2.cell? ⟨w.heap.size, 0, none⟩ = some (.int .i64 (E : Int)) := by rw [hW2]; simp [World.cell?_alloc_some]
  have a1 : W2.cell? ⟨w.heap.size, 1, none⟩ = some (.int .i64 (F : Int)) := by rw [hW2]; simp [World.cell?_alloc_some]
  have X2 : Box3 W2 (w.heap.size + 1) (.bool neg) (.slice ao k c) (.int .i64 X) := by
    have := box3_new (w.alloc (.cells #[.int .i64 (E : Int), .int .i64 (F : Int)] 23)) (.bool neg) (.slice ao k c) (.int .i64 X) 81
    rw [World.size_alloc] at this
    exact hW2 ▸ this
  have kR := round7_any E F neg ao k c N m X W2 hf hN hm (h.below hb2) hx1 hx2 l1
  generalize (if neg = true then flB E F (upN N X) (upD X) neg m + 2 ^ (E + F) else flB E F (upN N X) (upD X) neg m) = rb at *
  generalize flG E F (upN N X) (upD X) neg m = fg at *
  have ⟨x0, x1, x2, _, _, _⟩ := X2
  clear hN h l1
  go_enter Tryz.func158, Tryz.ntmps158
  go_upto_region 1 with fail
  rw [← hW2]
  clear hW2
  go_wp2_with fail
  refine kR.mono ?_
  rintro en w3 ⟨rfl, hb3⟩
  go_wp2
  refine bodyPost_ret (v := .tuple #[.int .u64 (rb : Int), .int .u8 (fg : Int)]) (by simp [results, Tryz.results158, go_sem]) rfl ⟨rfl, next hb2 hb3⟩

/-- What a sum of two is rounded to; a sum that is nought has the sign told. -/
def smB (E F : Nat) (D : Ds) (neg : Bool) (m : Nat) : Nat := if D.N = 0 then sgP E F neg else if D.s = true then flB E F (upN D.N D.x) (upD D.x) D.s m + 2 ^ (E + F) else flB E F (upN D.N D.x) (upD D.x) D.s m

def smG (E F : Nat) (D : Ds) (m : Nat) : Nat := if D.N = 0 then 0 else flG E F (upN D.N D.x) (upD D.x) D.s m

/-- The sign of a sum that is nought. -/
def smS (none x y : Bool) (m : Nat) : Bool := if none = true ∧ x = y then x else decide (m = 4)

set_option maxRecDepth 100000 in
set_option maxHeartbeats 4000000 in
theorem sum7_any (E F : Nat) (s t x y : Bool) (a1 a2 : Option Addr) (n1 n2 c1 c2 m : Nat) (X Y : Int) (xs ys : List Nat) (w : World) (hf : formE (E : Int) (F : Int) = 0) (hm : m < 5) (h1 : Sl w a1 n1 c1 xs) (h2 : Sl w a2 n2 c2 ys)
    (hx1 : -5000 ≤ (addA s xs X t ys Y).x) (hx2 : (addA s xs X t ys Y).x ≤ 5000) (l1 : (limbs (addA s xs X t ys Y).N).length ≤ 200) :
    Calls Tryz.prog 69 #[.agg #[.int .i64 (E : Int), .int .i64 (F : Int)], .agg #[.bool s, .slice a1 n1 c1, .int .i64 X], .agg #[.bool t, .slice a2 n2 c2, .int .i64 Y], .bool x, .bool y, .int .u8 (m : Int)] w fun en w' => en = .returned (.tuple #[.int .u64 (smB E F (addA s xs X t ys Y) (smS (decide (n1 = 0)) x y m) m : Int), .int .u8 (smG E F (addA s xs X t ys Y) m : Int)]) ∧ Below w.heap.size w w' := by
  have kA : ∀ W, Below w.heap.size w W → Calls Tryz.prog 165 #[.agg #[.bool s, .slice a1 n1 c1, .int .i64 X], .agg #[.bool t, .slice a2 n2 c2, .int .i64 Y]] W (Dyn (addA s xs X t ys Y) W) := fun W hW => rfAdd_any s t a1 a2 n1 n2 c1 c2 X Y xs ys W (h1.below hW) (h2.below hW)
  generalize addA s xs X t ys Y = D at *
  have kZ := fun W g => zero7_any E F g W hf
  have kW : D.N ≠ 0 → ∀ W ao k c, Sl W ao k c (limbs D.N) → Calls Tryz.prog 158 #[.agg #[.int .i64 (E : Int), .int .i64 (F : Int)], .agg #[.bool D.s, .slice ao k c, .int .i64 D.x], .int .u8 (m : Int)] W _ := fun hN W ao k c j => worth7_any E F D.s ao k c D.N m D.x W hf hN hm j hx1 hx2 l1
  have hb0 : D.N ≠ 0 → smB E F D (smS (decide (n1 = 0)) x y m) m = (if D.s = true then flB E F (upN D.N D.x) (upD D.x) D.s m + 2 ^ (E + F) else flB E F (upN D.N D.x) (upD D.x) D.s m) ∧ smG E F D m = flG E F (upN D.N D.x) (upD D.x) D.s m := fun hN => by
    unfold smB smG
    rw [if_neg hN, if_neg hN]
    exact ⟨rfl, rfl⟩
  have hb1 : D.N = 0 → smB E F D (smS (decide (n1 = 0)) x y m) m = sgP E F (smS (decide (n1 = 0)) x y m) ∧ smG E F D m = 0 := fun hN => by
    unfold smB smG
    rw [if_pos hN, if_pos hN]
    exact ⟨rfl, rfl⟩
  have hsm : ∀ b : Bool, smS b x y m = if b = true ∧ x = y then x else decide (m = 4) := fun b => rfl
  have hm4 : ((m : Int) == 4) = decide (m = 4) := by
    have hmm : m = 0 ∨ m = 1 ∨ m = 2 ∨ m = 3 ∨ m = 4 := by omega
    rcases hmm with rfl | rfl | rfl | rfl | rfl <;> rfl
  have HM4 := Lib.hid hm4
  clear hm4
  have HB0 := Lib.hid hb0
  have HB1 := Lib.hid hb1
  have HSM := Lib.hid hsm
  clear hb0 hb1 hsm
  generalize smB E F D (smS (decide (n1 = 0)) x y m) m = rb at *
  generalize smG E F D m = fg at *
  obtain ⟨W3, hW3⟩ : ∃ W3 : World, W3 = ((w.alloc (.cells #[.int .i64 (E : Int), .int .i64 (F : Int)] 23)).alloc (.cells #[.bool s, .slice a1 n1 c1, .int .i64 X] 81)).alloc (.cells #[.bool t, .slice a2 n2 c2, .int .i64 Y] 81) := ⟨_, rfl⟩
  have hb3 : Below w.heap.size w W3 := hW3 ▸ more (more (more (Below.refl _ _) _) _) _
  have a0 : W3.cell? ⟨w.heap.size, 0, none⟩ = some (.int .i64 (E : Int)) := by rw [hW3]; simp [World.cell?_alloc_some]
  have a1' : W3.cell? ⟨w.heap.size, 1, none⟩ = some (.int .i64 (F : Int)) := by rw [hW3]; simp [World.cell?_alloc_some]
  have A3 : Box3 W3 (w.heap.size + 1) (.bool s) (.slice a1 n1 c1) (.int .i64 X) := by
    have := (box3_new (w.alloc (.cells #[.int .i64 (E : Int), .int .i64 (F : Int)] 23)) (.bool s) (.slice a1 n1 c1) (.int .i64 X) 81).alloc (.cells #[.bool t, .slice a2 n2 c2, .int .i64 Y] 81)
    rw [World.size_alloc] at this
    exact hW3 ▸ this
  have B3 : Box3 W3 (w.heap.size + 2) (.bool t) (.slice a2 n2 c2) (.int .i64 Y) := by
    have := box3_new ((w.alloc (.cells #[.int .i64 (E : Int), .int .i64 (F : Int)] 23)).alloc (.cells #[.bool s, .slice a1 n1 c1, .int .i64 X] 81)) (.bool t) (.slice a2 n2 c2) (.int .i64 Y) 81
    rw [World.size_alloc, World.size_alloc] at this
    exact hW3 ▸ this
  have ⟨x0, x1, x2, _, _, _⟩ := A3
  have ⟨y0, y1, y2, _, _, _⟩ := B3
  clear h1 h2 hx1 hx2 l1
  go_enter Tryz.func69, Tryz.ntmps69
  go_upto_region 1 with fail
  rw [← hW3]
  clear hW3
  go_wp2_with fail
  refine (kA W3 hb3).mono ?_
  rintro en wA ⟨da, dk, dc, rfl, dF, hbA⟩
  have hs := more hbA (.cells #[.bool D.s, .slice da dk dc, .int .i64 D.x] 81)
  have V4 := next hb3 hs
  replace a0 := cellStay a0 hs
  replace a1' := cellStay a1' hs
  replace A3 := A3.stay hs
  have dN := box3_new wA (.bool D.s) (.slice da dk dc) (.int .i64 D.x) 81
  have dG := (dF.alloc (.cells #[.bool D.s, .slice da dk dc, .int .i64 D.x] 81)).sl
  clear x0 x1 x2 y0 y1 y2 B3 hb3 hs hbA dF kA
  go_upto_region 2 with fail
  obtain ⟨dZ, hZ⟩ : ∃ q, q = wA.heap.size := ⟨_, rfl⟩
  rw [← hZ] at dN ⊢
  clear hZ
  generalize wA.alloc (.cells #[.bool D.s, .slice da dk dc, .int .i64 D.x] 81) = w4 at *
  have ⟨d0, d1, d2, _, _, _⟩ := dN
  have ⟨x0, x1, x2, _, _, _⟩ := A3
  by_cases hN : D.N = 0
  · obtain ⟨r1, r2⟩ := HB1.out hN
    have hdk : dk = 0 := by rw [← dG.len, hN, limbs_zero]; rfl
    subst hdk
    have HR1 := Lib.hid r1
    have HR2 := Lib.hid r2
    clear r1 r2 HB0 HB1 kW hN dG dN
    by_cases hn : n1 = 0
    · subst hn
      have hsm := HSM.out true
      cases x <;> cases y
      all_goals
        go_wp2_with fail
        with_reducible refine (kZ w4 _).mono ?_
        rintro en w5 ⟨rfl, hb5⟩
        go_wp2
        refine bodyPost_ret (v := .tuple #[.int .u64 _, .int .u8 0]) (by simp [results, Tryz.results69, go_sem]; rfl) rfl ⟨by rw [HR1.out, HR2.out]; first | rfl | (rw [HM4.out]; rfl), next V4 hb5⟩
    · have hn' : ¬ ((n1 : Int) = 0) := by omega
      go_wp2_with fail
      with_reducible refine (kZ w4 _).mono ?_
      rintro en w5 ⟨rfl, hb5⟩
      go_wp2
      refine bodyPost_ret (v := .tuple #[.int .u64 _, .int .u8 0]) (by simp [results, Tryz.results69, go_sem]; rfl) rfl ⟨by rw [HR1.out, HR2.out, HM4.out, decide_eq_false hn]; rfl, next V4 hb5⟩
  · obtain ⟨r1, r2⟩ := HB0.out hN
    have hdk : ¬ ((dk : Int) = 0) := by
      have := dG.len
      rw [limbs_pos hN] at this
      simp at this
      omega
    have hdk2 : (dk : Int) > 0 := by omega
    have kW' := kW hN w4 da dk dc dG
    rw [← r1, ← r2] at kW'
    clear r1 r2 HB0 HB1 HSM kW hN
    go_wp2_with fail
    with_reducible refine kW'.mono ?_
    rintro en w5 ⟨rfl, hb5⟩
    go_wp2
    refine bodyPost_ret (v := .tuple #[.int .u64 (rb : Int), .int .u8 (fg : Int)]) (by simp [results, Tryz.results69, go_sem]) rfl ⟨rfl, next V4 hb5⟩

end Go.Proofs.YtkifhlgmbckekaaGreatDoor

/-
  Contract of numeral/round: Dyadic, whatever it is asked. (Printed by wip/gen/dyadic5.py.)
-/
namespace Go.Proofs.YtkifhlgmbckekaaGreatDoor

open Go.RowKit Go.Lb

attribute [local go_sem] Go.World.cell?_alloc_some

set_option maxRecDepth 100000 in
set_option maxHeartbeats 2000000 in
theorem rdDyadic_form (ao : Option Addr) (n c m : Nat) (e f x : Int) (s neg : Bool) (w : World) (hf : formE e f = 5) :
    Calls Tryz.prog 83 #[.agg #[.int .i64 e, .int .i64 f], .agg #[.bool s, .slice ao n c, .int .i64 x], .bool neg, .int .u8 (m : Int)] w fun en w' => en = .returned (.tuple #[.int .u64 0, .int .u8 0, .int .i64 5]) ∧ Below w.heap.size w w' := by
  obtain ⟨W2, hW2⟩ : ∃ W2 : World, W2 = (w.alloc (.cells #[.int .i64 e, .int .i64 f] 23)).alloc (.cells #[.bool s, .slice ao n c, .int .i64 x] 81) := ⟨_, rfl⟩
  have hb2 : Below w.heap.size w W2 := hW2 ▸ more (more (Below.refl _ _) _) _
  have c0 : W2.cell? ⟨w.heap.size, 0, none⟩ = some (.int .i64 e) := by rw [hW2]; simp [World.cell?_alloc_some]
  have c1 : W2.cell? ⟨w.heap.size, 1, none⟩ = some (.int .i64 f) := by rw [hW2]; simp [World.cell?_alloc_some]
  have D2 : Box3 W2 (w.heap.size + 1) (.bool s) (.slice ao n c) (.int .i64 x) := by
    have := box3_new (w.alloc (.cells #[.int .i64 e, .int .i64 f] 23)) (.bool s) (.slice ao n c) (.int .i64 x) 81
    rw [World.size_alloc] at this
    exact hW2 ▸ this
  have hFc := formCheck_any e f W2
  rw [hf] at hFc
  clear hf
  go_enter Tryz.func83, Tryz.ntmps83
  go_wp2_with fail
  rw [← hW2]
  clear hW2
  refine hFc.mono ?_
  rintro en w3 ⟨rfl, hb3⟩
  go_wp2
  go_ret3
  exact ⟨rfl, next hb2 hb3⟩

set_option maxRecDepth 100000 in
set_option maxHeartbeats 2000000 in
theorem rdDyadic_two (ao : Option Addr) (n c m : Nat) (e f x : Int) (s neg : Bool) (xs : List Nat) (w : World) (h : Sl w ao n c xs) (hf : formE e f = 0) (hr : twoB s xs x = false) :
    Calls Tryz.prog 83 #[.agg #[.int .i64 e, .int .i64 f], .agg #[.bool s, .slice ao n c, .int .i64 x], .bool neg, .int .u8 (m : Int)] w fun en w' => en = .returned (.tuple #[.int .u64 0, .int .u8 0, .int .i64 40]) ∧ Below w.heap.size w w' := by
  obtain ⟨W2, hW2⟩ : ∃ W2 : World, W2 = (w.alloc (.cells #[.int .i64 e, .int .i64 f] 23)).alloc (.cells #[.bool s, .slice ao n c, .int .i64 x] 81) := ⟨_, rfl⟩
  have hb2 : Below w.heap.size w W2 := hW2 ▸ more (more (Below.refl _ _) _) _
  have c0 : W2.cell? ⟨w.heap.size, 0, none⟩ = some (.int .i64 e) := by rw [hW2]; simp [World.cell?_alloc_some]
  have c1 : W2.cell? ⟨w.heap.size, 1, none⟩ = some (.int .i64 f) := by rw [hW2]; simp [World.cell?_alloc_some]
  have D2 : Box3 W2 (w.heap.size + 1) (.bool s) (.slice ao n c) (.int .i64 x) := by
    have := box3_new (w.alloc (.cells #[.int .i64 e, .int .i64 f] 23)) (.bool s) (.slice ao n c) (.int .i64 x) 81
    rw [World.size_alloc] at this
    exact hW2 ▸ this
  have hFc := formCheck_any e f W2
  rw [hf] at hFc
  have hd : (dchk s xs x == 0) = false := by have := of_decide_eq_false hr; simpa using this
  have hRc : ∀ W, Below w.heap.size w W → Calls Tryz.prog 175 #[.agg #[.bool s, .slice ao n c, .int .i64 x]] W fun e w' => e = .returned (.int .i64 (dchk s xs x)) ∧ Below W.heap.size W w' := fun W hW => dyCheck_any s ao n c x xs W (h.below hW)
  generalize dchk s xs x = dk at *
  have hd' : (dk != 0) = true := by simpa using hd
  have ⟨d0, d1, d2, _, _, _⟩ := D2
  clear hf hr h
  go_enter Tryz.func83, Tryz.ntmps83
  go_wp2_with fail
  rw [← hW2]
  clear hW2
  refine hFc.mono ?_
  rintro en w3 ⟨rfl, hb3⟩
  have V3 := next hb2 hb3
  have ⟨e0, e1, e2, _, _, _⟩ := D2.stay hb3
  clear d0 d1 d2
  go_wp2_with fail
  refine (hRc w3 V3).mono ?_
  rintro en w4 ⟨rfl, hb4⟩
  go_wp2
  go_ret3
  exact ⟨rfl, next V3 hb4⟩

set_option maxRecDepth 100000 in
set_option maxHeartbeats 2000000 in
theorem rdDyadic_mode (ao : Option Addr) (n c m : Nat) (e f x : Int) (s neg : Bool) (xs : List Nat) (w : World) (h : Sl w ao n c xs) (hf : formE e f = 0) (hr : twoB s xs x = true) (hm : 4 < m) :
    Calls Tryz.prog 83 #[.agg #[.int .i64 e, .int .i64 f], .agg #[.bool s, .slice ao n c, .int .i64 x], .bool neg, .int .u8 (m : Int)] w fun en w' => en = .returned (.tuple #[.int .u64 0, .int .u8 0, .int .i64 7]) ∧ Below w.heap.size w w' := by
  obtain ⟨W2, hW2⟩ : ∃ W2 : World, W2 = (w.alloc (.cells #[.int .i64 e, .int .i64 f] 23)).alloc (.cells #[.bool s, .slice ao n c, .int .i64 x] 81) := ⟨_, rfl⟩
  have hb2 : Below w.heap.size w W2 := hW2 ▸ more (more (Below.refl _ _) _) _
  have c0 : W2.cell? ⟨w.heap.size, 0, none⟩ = some (.int .i64 e) := by rw [hW2]; simp [World.cell?_alloc_some]
  have c1 : W2.cell? ⟨w.heap.size, 1, none⟩ = some (.int .i64 f) := by rw [hW2]; simp [World.cell?_alloc_some]
  have D2 : Box3 W2 (w.heap.size + 1) (.bool s) (.slice ao n c) (.int .i64 x) := by
    have := box3_new (w.alloc (.cells #[.int .i64 e, .int .i64 f] 23)) (.bool s) (.slice ao n c) (.int .i64 x) 81
    rw [World.size_alloc] at this
    exact hW2 ▸ this
  have hFc := formCheck_any e f W2
  rw [hf] at hFc
  have hd : dchk s xs x = 0 := of_decide_eq_true hr
  have hRc : ∀ W, Below w.heap.size w W → Calls Tryz.prog 175 #[.agg #[.bool s, .slice ao n c, .int .i64 x]] W fun e w' => e = .returned (.int .i64 0) ∧ Below W.heap.size W w' := fun W hW => by
    have := dyCheck_any s ao n c x xs W (h.below hW)
    rwa [hd] at this
  have hm4 : (m : Int) > 4 := by omega
  have ⟨d0, d1, d2, _, _, _⟩ := D2
  clear hf hr h hd
  go_enter Tryz.func83, Tryz.ntmps83
  go_wp2_with fail
  rw [← hW2]
  clear hW2
  refine hFc.mono ?_
  rintro en w3 ⟨rfl, hb3⟩
  have V3 := next hb2 hb3
  have ⟨e0, e1, e2, _, _, _⟩ := D2.stay hb3
  clear d0 d1 d2
  go_wp2_with fail
  refine (hRc w3 V3).mono ?_
  rintro en w4 ⟨rfl, hb4⟩
  go_wp2
  go_ret3
  exact ⟨rfl, next V3 hb4⟩

theorem rdDyadic_any (ao : Option Addr) (n c m : Nat) (e f x : Int) (s neg : Bool) (xs : List Nat) (w : World) (h : Sl w ao n c xs) (l1 : n ≤ 400) :
    Calls Tryz.prog 83 #[.agg #[.int .i64 e, .int .i64 f], .agg #[.bool s, .slice ao n c, .int .i64 x], .bool neg, .int .u8 (m : Int)] w fun en w' => en = .returned (.tuple #[.int .u64 (dyBits e f s xs x neg m : Int), .int .u8 (dyFlags e f s xs x m : Int), .int .i64 (dyErr e f s xs x m)]) ∧ Below w.heap.size w w' := by
  unfold dyBits dyFlags
  by_cases hf : formE e f = 0
  · cases hr : twoB s xs x
    · have hE : dyErr e f s xs x m = 40 := by unfold dyErr; rw [if_neg (by simp [hf]), if_pos hr]
      rw [hE]
      exact rdDyadic_two ao n c m e f x s neg xs w h hf hr
    · by_cases hm : 4 < m
      · have hE : dyErr e f s xs x m = 7 := by unfold dyErr; rw [if_neg (by simp [hf]), if_neg (by simp [hr]), if_pos hm]
        rw [hE]
        exact rdDyadic_mode ao n c m e f x s neg xs w h hf hr hm
      · have hE : dyErr e f s xs x m = 0 := by unfold dyErr; rw [if_neg (by simp [hf]), if_neg (by simp [hr]), if_neg hm]
        obtain ⟨e1, e2, f1, f2⟩ := formE_ok hf
        rw [hE, if_pos rfl, if_pos rfl]
        obtain ⟨E, rfl⟩ : ∃ E : Nat, e = (E : Int) := ⟨e.toNat, by omega⟩
        obtain ⟨F, rfl⟩ : ∃ F : Nat, f = (F : Int) := ⟨f.toNat, by omega⟩
        simp only [Int.toNat_natCast]
        exact rdDyadic_ok ao n c E F m x s neg xs w h (by omega) l1 (by omega) (by omega) (by omega) (by omega) hf hr
  · have h5 : formE e f = 5 := by unfold formE at hf ⊢; split at hf <;> simp_all
    have hE : dyErr e f s xs x m = 5 := by unfold dyErr; rw [if_pos hf]
    rw [hE]
    exact rdDyadic_form ao n c m e f x s neg w h5

end Go.Proofs.YtkifhlgmbckekaaGreatDoor

