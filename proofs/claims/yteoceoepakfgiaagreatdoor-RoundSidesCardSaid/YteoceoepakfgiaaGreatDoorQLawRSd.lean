/-
  The walk of the law RoundSides: it answers true, whatever it is asked; nothing that was there has turned.
-/
import Derived.Deep.CutRange
import Derived.Test.YteoceoepakfgiaaGreatDoorQWthW
import Derived.Test.YteoceoepakfgiaaGreatDoorQLawRI
namespace Go.Proofs.YteoceoepakfgiaaGreatDoor

open Go.RowKit Go.Lb

attribute [local go_sem] Go.World.cell?_alloc_some

/-- What holds on from step to step: the arguments' cells. -/
structure KeepS (w0 w : World) (E F : Nat) (s : Bool) (a1 : Option Addr) (n1 c1 : Nat) (a2 : Option Addr) (n2 c2 : Nat) : Prop where
  v : Below w0.heap.size w0 w
  f0 : w.cell? ⟨w0.heap.size, 0, none⟩ = some (.int .i64 (E : Int))
  f1 : w.cell? ⟨w0.heap.size, 1, none⟩ = some (.int .i64 (F : Int))
  x : Box3 w (w0.heap.size + 1) (.bool s) (.slice a1 n1 c1) (.slice a2 n2 c2)

theorem KeepS.stay {w0 wp w' : World} {E F : Nat} {s : Bool} {a1 : Option Addr} {n1 c1 : Nat} {a2 : Option Addr} {n2 c2 : Nat} (h : KeepS w0 wp E F s a1 n1 c1 a2 n2 c2) (k : Below wp.heap.size wp w') : KeepS w0 w' E F s a1 n1 c1 a2 n2 c2 :=
  ⟨next h.v k, cellStay h.f0 k, cellStay h.f1 k, h.x.stay k⟩

theorem KeepS.put {w0 w : World} {E F : Nat} {s : Bool} {a1 : Option Addr} {n1 c1 : Nat} {a2 : Option Addr} {n2 c2 : Nat} (h : KeepS w0 w E F s a1 n1 c1 a2 n2 c2) {A : Nat} (hA : w0.heap.size + 1 < A) (q : Nat) (v : Value) : KeepS w0 (w.setCell ⟨A, q, none⟩ v) E F s a1 n1 c1 a2 n2 c2 := by
  have hn : ∀ b i : Nat, b < A → (⟨A, q, none⟩ : Addr) ≠ ⟨b, i, none⟩ := fun b i hb e => by
    have : A = b := congrArg Addr.block e
    omega
  exact ⟨h.v.setCell (by show w0.heap.size ≤ A; omega) _, (World.cell?_setCell_other _ _ _ _ (hn _ 0 (by omega))).trans h.f0, (World.cell?_setCell_other _ _ _ _ (hn _ 1 (by omega))).trans h.f1, box3_off h.x (by omega) _ _⟩

/-- The bits and flags told so far, in two rows. -/
def ArrS (w : World) (A : Nat) (bv gv : Nat → Nat) (k : Nat) : Prop := ∀ m, m < k → w.cell? ⟨A, m, none⟩ = some (.int .u64 (bv m : Int)) ∧ w.cell? ⟨A + 1, m, none⟩ = some (.int .u8 (gv m : Int))

theorem ArrS.stay {wp w' : World} {A : Nat} {bv gv : Nat → Nat} {k : Nat} (h : ArrS wp A bv gv k) (hb : Below wp.heap.size wp w') : ArrS w' A bv gv k := fun m hm => ⟨cellStay (h m hm).1 hb, cellStay (h m hm).2 hb⟩

theorem arrS_put {w : World} {A : Nat} {bv gv : Nat → Nat} {k : Nat} (h : ArrS w A bv gv k) (h1 : ∃ v, w.cell? ⟨A, k, none⟩ = some v) (h2 : ∃ v, w.cell? ⟨A + 1, k, none⟩ = some v) :
    ArrS ((w.setCell ⟨A, k, none⟩ (.int .u64 (bv k : Int))).setCell ⟨A + 1, k, none⟩ (.int .u8 (gv k : Int))) A bv gv (k + 1) := fun m hm => by
  have hx : ∀ i j : Nat, (⟨A + 1, i, none⟩ : Addr) ≠ ⟨A, j, none⟩ := fun i j e => by
    have : A + 1 = A := congrArg Addr.block e
    omega
  have hy : ∀ i j : Nat, (⟨A, i, none⟩ : Addr) ≠ ⟨A + 1, j, none⟩ := fun i j e => (hx j i) e.symm
  have hz : ∀ b i j : Nat, i ≠ j → (⟨b, i, none⟩ : Addr) ≠ ⟨b, j, none⟩ := fun b i j hij e => hij (congrArg Addr.off e)
  obtain ⟨v1, h1⟩ := h1
  obtain ⟨v2, h2⟩ := h2
  by_cases e : m = k
  · subst e
    exact ⟨(World.cell?_setCell_other _ _ _ _ (hx _ _)).trans (World.cell?_setCell_same _ _ _ h1), World.cell?_setCell_same _ _ _ ((World.cell?_setCell_other _ _ _ _ (hy _ _)).trans h2)⟩
  · obtain ⟨g1, g2⟩ := h m (by omega)
    exact ⟨(World.cell?_setCell_other _ _ _ _ (hx _ _)).trans ((World.cell?_setCell_other _ _ _ _ (hz _ _ _ (fun h => e h.symm))).trans g1), (World.cell?_setCell_other _ _ _ _ (hz _ _ _ (fun h => e h.symm))).trans ((World.cell?_setCell_other _ _ _ _ (hy _ _)).trans g2)⟩

theorem rowF_off {w : World} {L n A : Nat} (h : RowF w L n) (p : Nat) (x : Value) : RowF (w.setCell ⟨A, p, none⟩ x) L n := by
  by_cases e : A = L
  · subst e
    exact h.put p x
  · intro j hj
    obtain ⟨⟨v, hv⟩, hz⟩ := h j hj
    exact ⟨⟨v, (World.cell?_setCell_other _ _ _ _ (fun h => e (congrArg Addr.block h))).trans hv⟩, by simp [hz]⟩

theorem and_one8 {g : Nat} (h : g = 1 ∨ g = 3 ∨ g = 5) : bits BinOp.and IntKind.u8 (g : Int) 1 = 1 := by
  rcases h with rfl | rfl | rfl <;> decide

set_option maxRecDepth 100000 in
set_option maxHeartbeats 4000000 in
theorem roundSides_any (e f : Int) (s : Bool) (a1 a2 : Option Addr) (n1 n2 c1 c2 : Nat) (xs ys : List Nat) (w : World) (h1 : Sl w a1 n1 c1 xs) (h2 : Sl w a2 n2 c2 ys) (hT : Tab w) :
    Calls Tryz.prog 5 #[.agg #[.int .i64 e, .int .i64 f], .agg #[.bool s, .slice a1 n1 c1, .slice a2 n2 c2]] w fun en w' => en = .returned (.bool true) ∧ Below w.heap.size w w' := by
  obtain ⟨W2, hW2⟩ : ∃ W2 : World, W2 = (w.alloc (.cells #[.int .i64 e, .int .i64 f] 30)).alloc (.cells #[.bool s, .slice a1 n1 c1, .slice a2 n2 c2] 26) := ⟨_, rfl⟩
  have hb2 : Below w.heap.size w W2 := hW2 ▸ more (more (Below.refl _ _) _) _
  have f0 : W2.cell? ⟨w.heap.size, 0, none⟩ = some (.int .i64 e) := by rw [hW2]; simp [World.cell?_alloc_some]
  have f1 : W2.cell? ⟨w.heap.size, 1, none⟩ = some (.int .i64 f) := by rw [hW2]; simp [World.cell?_alloc_some]
  have X2 : Box3 W2 (w.heap.size + 1) (.bool s) (.slice a1 n1 c1) (.slice a2 n2 c2) := by
    have := box3_new (w.alloc (.cells #[.int .i64 e, .int .i64 f] 30)) (.bool s) (.slice a1 n1 c1) (.slice a2 n2 c2) 26
    rw [World.size_alloc] at this
    exact hW2 ▸ this
  have hA := alive5_any W2 (hT.below hb2)
  have k1 : ∀ W, Below w.heap.size w W → Calls Tryz.prog 7 #[.agg #[.int .i64 e, .int .i64 f], .agg #[.bool s, .slice a1 n1 c1, .slice a2 n2 c2]] W _ := fun W hW => asked5_any e f s a1 a2 n1 n2 c1 c2 xs ys W (h1.below hW) (h2.below hW) (hT.below hW)
  go_enter Tryz.func5, Tryz.ntmps5
  go_upto_region 1 with fail
  rw [← hW2]
  clear hW2
  go_wp2_with fail
  refine hA.mono ?_
  rintro en w4 ⟨rfl, hb4⟩
  have V4 := next hb2 hb4
  have X4 := X2.stay hb4
  have g0 := cellStay f0 hb4
  have g1 := cellStay f1 hb4
  clear hA X2 f0 f1 hb4 hb2
  have ⟨x0, x1, x2, _, _, _⟩ := X4
  go_wp2_with fail
  with_reducible refine (k1 w4 V4).mono ?_
  rintro en w5 ⟨rfl, hb5⟩
  have V5 := next V4 hb5
  have X5 := X4.stay hb5
  have p0 := cellStay g0 hb5
  have p1 := cellStay g1 hb5
  clear x0 x1 x2 X4 g0 g1 hb5 V4 k1
  by_cases ha : askB e f s xs ys n1 n2 = true
  · rw [ha]
    obtain ⟨hf, hr, l1, l2⟩ := of_decide_eq_true ha
    clear ha
    obtain ⟨e1, e2, e3, e4⟩ := formE_ok hf
    obtain ⟨E, rfl⟩ : ∃ E : Nat, e = (E : Int) := ⟨e.toNat, by omega⟩
    obtain ⟨F, rfl⟩ : ∃ F : Nat, f = (F : Int) := ⟨f.toNat, by omega⟩
    obtain ⟨fx, fy, hD, hG, hs, _, _⟩ := rat_facts5 h1 h2 hr
    have lx := limbs_val fx
    have ly := limbs_val fy
    obtain ⟨bv, hbv⟩ : ∃ bv : Nat → Nat, ∀ m, bv m = sgBits E F (val xs) (val ys) s s m := ⟨_, fun _ => rfl⟩
    obtain ⟨gv, hgv⟩ : ∃ gv : Nat → Nat, ∀ m, gv m = sgFlags E F (val xs) (val ys) s m := ⟨_, fun _ => rfl⟩
    obtain ⟨F1, F2, F3, F4⟩ := sides_facts hf hD hG hs bv gv hbv hgv
    have cR : ∀ W (m : Nat), m < 5 → Below w.heap.size w W → Calls Tryz.prog 19 #[.agg #[.int .i64 (E : Int), .int .i64 (F : Int)], .agg #[.bool s, .slice a1 n1 c1, .slice a2 n2 c2], .bool s, .int .u8 (m : Int)] W fun en w' => en = .returned (.tuple #[.int .u64 (bv m : Int), .int .u8 (gv m : Int), .int .i64 0]) ∧ Below W.heap.size W w' := fun W m hm hW => by
      have := rdRatio_any a1 a2 n1 n2 c1 c2 m (E : Int) (F : Int) s s xs ys W (h1.below hW) (h2.below hW) (hT.below hW) (by omega) (by omega)
      obtain ⟨y1, y2, y3⟩ := sc_rat hf hr hm 0 s
      obtain ⟨_, _, _, _, z1, z2⟩ := scn_one (val xs) (val ys)
      rw [y1, y2, y3, z1, z2, ← hbv, ← hgv] at this
      exact this
    obtain ⟨kz, hkz⟩ : ∃ kz : Nat → Int, ∀ m, kz m = keyZ E F (bv m) := ⟨_, fun _ => rfl⟩
    have cK : ∀ W (m : Nat), m < 5 → Calls Tryz.prog 20 #[.agg #[.int .i64 (E : Int), .int .i64 (F : Int)], .int .u64 (bv m : Int)] W fun en w' => en = .returned (.int .i64 (kz m)) ∧ Below W.heap.size W w' := fun W m hm => by
      rw [hkz]
      refine key5_any E F (bv m) W (by omega) (by omega) ?_
      have h := F1 m hm
      rw [pw_is, show 1 + E + F = E + F + 1 by omega, Nat.pow_succ] at h
      omega
    have hq := mk_low hD hG hs
    have cY : ∀ m, m < 5 → exN E F (bv m) ≠ maskN E → ∀ W, Below w.heap.size w W → Calls Tryz.prog 21 #[.agg #[.int .i64 (E : Int), .int .i64 (F : Int)], .int .u64 (bv m : Int)] W (WrA (wrQ E F (bv m)) W) := fun m hm hx W hW => (worth5_yes E F (bv m) W hf (F1 m hm) hx (hT.below hW)).1
    have cZ : ∀ m, m < 5 → exN E F (bv m) = maskN E → ∀ W, Below w.heap.size w W → Calls Tryz.prog 21 #[.agg #[.int .i64 (E : Int), .int .i64 (F : Int)], .int .u64 (bv m : Int)] W _ := fun m hm hx W hW => worth5_no E F (bv m) W hf (F1 m hm) hx (hT.below hW)
    have lY : ∀ m, m < 5 → exN E F (bv m) ≠ maskN E → ln (wrQ E F (bv m)).num.natAbs ≤ 34 ∧ ln (wrQ E F (bv m)).den ≤ 34 := fun m hm hx => (worth5_yes E F (bv m) w hf (F1 m hm) hx hT).2
    have hp64 : ∀ m, m < 5 → bv m < 18446744073709551616 := fun m hm => pw_64 hf (F1 m hm)
    have cH : ∀ (qa qb : Rat) (b0 b1 b2 b3 b4 : Nat), ln qa.num.natAbs ≤ 34 → ln qa.den ≤ 34 → ln qb.num.natAbs ≤ 34 → ln qb.den ≤ 34 → b4 < 18446744073709551616 → (∀ c, c = cmpQ (sgQ' s (val xs) (val ys) - qa) (qb - sgQ' s (val xs) (val ys)) → b0 = (if 0 < c ∨ c = 0 ∧ b4 % 2 = 1 then b3 else b4) ∧ b1 = (if 0 < c ∨ c = 0 ∧ s = false then b3 else b4)) → ∀ W p1 p2 r1 r2 k1 k2 m1 m2 d1 d2 g1 g2, Below w.heap.size w W → Sl W p1 k1 d1 (limbs qa.num.natAbs) → Sl W p2 k2 d2 (limbs qa.den) → Sl W r1 m1 g1 (limbs qb.num.natAbs) → Sl W r2 m2 g2 (limbs qb.den) → Calls Tryz.prog 22 #[.agg #[.bool s, .slice a1 n1 c1, .slice a2 n2 c2], .agg #[.bool (decide (qa.num < 0)), .slice p1 k1 d1, .slice p2 k2 d2], .agg #[.bool (decide (qb.num < 0)), .slice r1 m1 g1, .slice r2 m2 g2], .agg #[.int .u64 (b0 : Int), .int .u64 (b1 : Int), .int .u64 (b2 : Int), .int .u64 (b3 : Int), .int .u64 (b4 : Int)]] W fun en w' => en = .returned (.bool true) ∧ Below W.heap.size W w' :=
      fun qa qb b0 b1 b2 b3 b4 y1 y2 y3 y4 hb H W p1 p2 r1 r2 k1 k2 m1 m2 d1 d2 g1 g2 hW j1 j2 j3 j4 => halves5_any s qa qb b0 b1 b2 b3 b4 a1 a2 p1 p2 r1 r2 n1 n2 k1 k2 m1 m2 c1 c2 d1 d2 g1 g2 xs ys W (h1.below hW) (h2.below hW) j1 j2 j3 j4 (hT.below hW) hr l1 l2 y1 y2 y3 y4 hb H
    have cA : ∀ q : Rat, ln q.num.natAbs ≤ 34 → ln q.den ≤ 34 → q < sgQ' s (val xs) (val ys) → ∀ W p1 p2 k1 k2 d1 d2, Below w.heap.size w W → Sl W p1 k1 d1 (limbs q.num.natAbs) → Sl W p2 k2 d2 (limbs q.den) → Calls Tryz.prog 12 #[.agg #[.bool (decide (q.num < 0)), .slice p1 k1 d1, .slice p2 k2 d2], .agg #[.bool s, .slice a1 n1 c1, .slice a2 n2 c2]] W fun en w' => en = .returned (.tuple #[.int .i64 (-1), .int .i64 0]) ∧ Below W.heap.size W w' := fun q y1 y2 hlt W p1 p2 k1 k2 d1 d2 hW j1 j2 => by
      obtain ⟨tq, uq⟩ := rats_back (q := q) (by omega) (by omega)
      have := rtCmp_ok _ s p1 p2 a1 a2 k1 k2 n1 n2 d1 d2 c1 c2 _ _ xs ys W j1 j2 (h1.below hW) (h2.below hW) (hT.below hW) tq hr
      rw [uq] at this
      have e : cmpQ q (sgQ' s (val xs) (val ys)) = -1 := by unfold cmpQ; rw [if_pos hlt]
      rw [e] at this
      exact this
    have cB : ∀ q : Rat, ln q.num.natAbs ≤ 34 → ln q.den ≤ 34 → sgQ' s (val xs) (val ys) < q → ∀ W p1 p2 k1 k2 d1 d2, Below w.heap.size w W → Sl W p1 k1 d1 (limbs q.num.natAbs) → Sl W p2 k2 d2 (limbs q.den) → Calls Tryz.prog 12 #[.agg #[.bool s, .slice a1 n1 c1, .slice a2 n2 c2], .agg #[.bool (decide (q.num < 0)), .slice p1 k1 d1, .slice p2 k2 d2]] W fun en w' => en = .returned (.tuple #[.int .i64 (-1), .int .i64 0]) ∧ Below W.heap.size W w' := fun q y1 y2 hlt W p1 p2 k1 k2 d1 d2 hW j1 j2 => by
      obtain ⟨tq, uq⟩ := rats_back (q := q) (by omega) (by omega)
      have := rtCmp_ok s _ a1 a2 p1 p2 n1 n2 k1 k2 c1 c2 d1 d2 xs ys _ _ W (h1.below hW) (h2.below hW) j1 j2 (hT.below hW) hr tq
      rw [uq] at this
      have e : cmpQ (sgQ' s (val xs) (val ys)) q = -1 := by unfold cmpQ; rw [if_pos hlt]
      rw [e] at this
      exact this
    have cS : ∀ W p1 p2 k1 k2 d1 d2, Below w.heap.size w W → Sl W p1 k1 d1 xs → Sl W p2 k2 d2 ys → Calls Tryz.prog 10 #[.agg #[.bool s, .slice p1 k1 d1, .slice p2 k2 d2], .agg #[.bool s, .slice a1 n1 c1, .slice a2 n2 c2]] W fun en w' => en = .returned (.bool true) ∧ Below W.heap.size W w' := fun W p1 p2 k1 k2 d1 d2 hW j1 j2 => by
      have := rf2Same_any s s p1 p2 a1 a2 k1 k2 n1 n2 d1 d2 c1 c2 xs ys xs ys W j1 j2 (h1.below hW) (h2.below hW)
      have e : sameB s s xs ys xs ys = true := by unfold sameB; simp
      rw [e] at this
      exact this
    have hkzH : Hid (∀ m, kz m = keyZ E F (bv m)) := Lib.hid hkz
    have F2H := Lib.hid F2
    have F3H := Lib.hid F3
    have F4H := Lib.hid F4
    have HQ := Lib.hid hq
    have HX := Lib.hid (And.intro lx ly)
    clear hkz F1 F2 F3 F4 hq lx ly hbv hgv fx fy hD hG hs hr l1 l2 hf e1 e2 e3 e4 h1 h2 hT
    obtain ⟨W7, hW7⟩ : ∃ W7 : World, W7 = (w5.alloc (.cells #[.int .u64 0, .int .u64 0, .int .u64 0, .int .u64 0, .int .u64 0] 53)).alloc (.cells #[.int .u8 0, .int .u8 0, .int .u8 0, .int .u8 0, .int .u8 0] 54) := ⟨_, rfl⟩
    have hb7 : Below w5.heap.size w5 W7 := hW7 ▸ more (more (Below.refl _ _) _) _
    have K7 : KeepS w W7 E F s a1 n1 c1 a2 n2 c2 := ⟨next V5 hb7, cellStay p0 hb7, cellStay p1 hb7, X5.stay hb7⟩
    have RA : RowF W7 w5.heap.size 5 := fun j hj => by
      have hjj : j = 0 ∨ j = 1 ∨ j = 2 ∨ j = 3 ∨ j = 4 := by omega
      rw [hW7]
      rcases hjj with rfl | rfl | rfl | rfl | rfl <;> exact ⟨Option.isSome_iff_exists.1 (by simp [World.cell?_alloc_some]), by simp [go_sem]⟩
    have RB : RowF W7 (w5.heap.size + 1) 5 := fun j hj => by
      have hjj : j = 0 ∨ j = 1 ∨ j = 2 ∨ j = 3 ∨ j = 4 := by omega
      have hsz : (w5.alloc (.cells #[.int .u64 0, .int .u64 0, .int .u64 0, .int .u64 0, .int .u64 0] 53)).heap.size = w5.heap.size + 1 := World.size_alloc _ _
      rw [hW7, ← hsz]
      rcases hjj with rfl | rfl | rfl | rfl | rfl <;> exact ⟨Option.isSome_iff_exists.1 (by simp), by simp [go_sem]⟩
    have hA1 : w.heap.size + 1 < w5.heap.size := X5.lt
    go_upto_region 7 with fail
    rw [← hW7]
    clear hW7 hb7 V5 X5 p0 p1
    generalize w5.heap.size = A at *
    go_wp2_with fail
    go_loopw [9] (fun i wr => ∃ k : Nat, k ≤ 5 ∧ i = .int .u8 (k : Int) ∧ KeepS w wr E F s a1 n1 c1 a2 n2 c2 ∧ RowF wr A 5 ∧ RowF wr (A + 1) 5 ∧ ArrS wr A bv gv k) (fun i _ => 5 - (intOf i).toNat)
    case atStart => exact ⟨0, by decide, rfl, K7, RA, RB, fun m hm => absurd hm (Nat.not_lt_zero m)⟩
    case round =>
      obtain ⟨k, hk, rfl, K, FA, FB, hE⟩ := hrel
      by_cases hk5 : k < 5
      · as_aux_lemma =>
        have k0 : (k : Int) < 5 := by omega
        have x0 := K.f0
        have x1 := K.f1
        have ⟨y0, y1, y2, _, _, _⟩ := K.x
        go_wp2_with fail
        with_reducible refine (cR wr k hk5 K.v).mono ?_
        rintro en wA ⟨rfl, hbA⟩
        have KA := K.stay hbA
        have GA := FA.stay hbA
        have GB := FB.stay hbA
        have hEA := hE.stay hbA
        clear x0 x1 y0 y1 y2 K FA FB hE hbA
        obtain ⟨⟨v0, r0⟩, z0⟩ := GA k hk5
        obtain ⟨⟨v1, r1⟩, z1⟩ := GB k hk5
        go_wp2
        go_roundw
        case rel =>
          exact ⟨k + 1, by omega, by go_num, (KA.put hA1 _ _).put (by omega) _ _, rowF_off (rowF_off GA _ _) _ _, rowF_off (rowF_off GB _ _) _ _, arrS_put hEA ⟨v0, r0⟩ ⟨v1, r1⟩⟩
        case measure => simp [intOf]; omega
      · as_aux_lemma =>
        obtain rfl : k = 5 := by omega
        clear FA FB hA1
        rcases F4H.out with ⟨hg0, h34', hx4, hw4'⟩ | ⟨hg0, h34, hfin, hlo', hhi', hhv'⟩
        · as_aux_lemma =>
          have H34 := Lib.hid h34'
          have HW4 := Lib.hid hw4'
          clear h34' hw4'
          have x0 := K.f0
          have x1 := K.f1
          have y4 := (hE 4 (by decide)).1
          go_wp2_with fail
          with_reducible refine (cK wr 4 (by decide)).mono ?_
          rintro en wA ⟨rfl, hb⟩
          have KA := K.stay hb
          have EA := hE.stay hb
          clear x0 x1 y4 K hE hb
          have x0 := KA.f0
          have x1 := KA.f1
          have y3 := (EA 3 (by decide)).1
          go_wp2_with fail
          with_reducible refine (cK wA 3 (by decide)).mono ?_
          rintro en wB ⟨rfl, hb⟩
          have KB := KA.stay hb
          have EB := EA.stay hb
          clear x0 x1 y3 KA EA hb
          have hkk : kz 3 = kz 4 := by rw [hkzH.out, hkzH.out, H34.out]
          rw [hkk]
          clear hkk
          generalize kz 4 = lo at *
          have y3 := (EB 3 (by decide)).1
          have y4 := (EB 4 (by decide)).1
          have y2 := (EB 2 (by decide)).1
          have ⟨x0, _, _, _, _, _⟩ := KB.x
          go_upto_region 17 with fail
          go_upto_if 65 with fail
          go_cut [15] from 62 to 67 (fun v15 wx => wx = wB ∧ v15 = .int .u64 (bv 2 : Int))
          case first => as_aux_lemma =>
            cases s <;> (go_wp2; go_meet; exact ⟨rfl, by rw [F2H.out]; rfl⟩)
          case rest => as_aux_lemma =>
            obtain ⟨rfl, rfl⟩ := hcut
            generalize wc = wB at *
            go_wp2_with fail
            clear y2
            go_loopw [16] (fun i wr => ∃ k n : Nat, k ≤ 5 ∧ i = .int .i64 (k : Int) ∧ wr = wB.drewN n) (fun i _ => 5 - (intOf i).toNat)
            case atStart => exact ⟨0, 0, by decide, rfl, rfl⟩
            case round =>
              obtain ⟨k, n, hk, rfl, rfl⟩ := hrel
              by_cases hk5 : k < 5
              · as_aux_lemma =>
                have k0 : (k : Int) < 5 := by omega
                have k1 : (0 : Int) ≤ (k : Int) := by omega
                have r1 := (EB k hk5).2
                have r0 := (EB 0 (by decide)).2
                have r2 := (EB k hk5).1
                rw [hg0 k hk5] at r1
                rw [hg0 0 (by decide)] at r0
                have r5 : bv k = bv 4 := (F3H.out k hk5).elim id (fun h => h.trans H34.out)
                rw [r5] at r2
                rw [H34.out] at y3
                clear r5 H34
                clear hk hg0 KB EB
                go_wp2
                go_quiet (fail)
                go_wp2
                go_roundw
                case rel => exact ⟨k + 1, _, by omega, by go_num, rfl⟩
                case measure => simp [intOf]; omega
              · as_aux_lemma =>
                have hdr : Below wB.heap.size wB (wB.drewN n) := drewn (Below.refl _ _) n
                have KC := KB.stay hdr
                have EC := EB.stay hdr
                clear y3 y4 x0 KB EB hdr
                obtain rfl : k = 5 := by omega
                generalize wB.drewN n = wC at *
                have x0 := KC.f0
                have x1 := KC.f1
                have y4 := (EC 4 (by decide)).1
                go_wp2_with fail
                with_reducible refine (cY 4 (by decide) hx4 wC KC.v).mono ?_
                rintro en wlA ⟨la, ln, lc, lb, lm, ld, rfl, lF, lG, hbl⟩
                rw [HW4.out, HQ.out.1, HX.out.1] at lF
                rw [HW4.out, HQ.out.2.1, HX.out.2] at lG
                rw [HW4.out, HQ.out.2.2]
                have hsl := more hbl (.cells #[.bool s, .slice la ln lc, .slice lb lm ld] 26)
                have KD := KC.stay hsl
                have ED := EC.stay hsl
                have lX := box3_new wlA (.bool s) (.slice la ln lc) (.slice lb lm ld) 26
                have lP := (lF.alloc (.cells #[.bool s, .slice la ln lc, .slice lb lm ld] 26)).sl
                have lQ := (lG.alloc (.cells #[.bool s, .slice la ln lc, .slice lb lm ld] 26)).sl
                clear x0 x1 y4 KC EC hbl hsl lF lG
                go_upto_region 28 with fail
                obtain ⟨lZ, hZ⟩ : ∃ q, q = wlA.heap.size := ⟨_, rfl⟩
                rw [← hZ] at lX ⊢
                clear hZ
                generalize wlA.alloc (.cells #[.bool s, .slice la ln lc, .slice lb lm ld] 26) = wl at *
                have x0 := KD.f0
                have x1 := KD.f1
                have y4 := (ED 3 (by decide)).1
                rw [H34.out] at y4
                go_wp2_with fail
                with_reducible refine (cY 4 (by decide) hx4 wl KD.v).mono ?_
                rintro en wrA ⟨ra, rn, rc, rb, rm, rd, rfl, rF, rG, hbr⟩
                rw [HW4.out, HQ.out.1, HX.out.1] at rF
                rw [HW4.out, HQ.out.2.1, HX.out.2] at rG
                rw [HW4.out, HQ.out.2.2]
                have hsr := more hbr (.cells #[.bool s, .slice ra rn rc, .slice rb rm rd] 26)
                have KE := KD.stay hsr
                have EE := ED.stay hsr
                replace lX := lX.stay hsr
                replace lP := lP.below hsr
                replace lQ := lQ.below hsr
                have rX := box3_new wrA (.bool s) (.slice ra rn rc) (.slice rb rm rd) 26
                have rP := (rF.alloc (.cells #[.bool s, .slice ra rn rc, .slice rb rm rd] 26)).sl
                have rQ := (rG.alloc (.cells #[.bool s, .slice ra rn rc, .slice rb rm rd] 26)).sl
                clear x0 x1 y4 KD ED hbr hsr rF rG
                go_upto_region 29 with fail
                obtain ⟨rZ, hZ⟩ : ∃ q, q = wrA.heap.size := ⟨_, rfl⟩
                rw [← hZ] at rX ⊢
                clear hZ
                generalize wrA.alloc (.cells #[.bool s, .slice ra rn rc, .slice rb rm rd] 26) = wr at *
                have ⟨l0, l1, l2, _, _, _⟩ := lX
                have ⟨x0, x1, x2, _, _, _⟩ := KE.x
                have z0 := (EE 0 (by decide)).2
                rw [hg0 0 (by decide)] at z0
                go_wp2_with fail
                with_reducible refine (cS wr _ _ _ _ _ _ KE.v lP lQ).mono ?_
                rintro en wT ⟨rfl, hb⟩
                go_wp2
                go_ret
                exact ⟨by simp, next KE.v hb⟩
        · as_aux_lemma =>
          have HLO := Lib.hid hlo'
          have HHI := Lib.hid hhi'
          have HHV := Lib.hid hhv'
          clear hlo' hhi' hhv'
          have x0 := K.f0
          have x1 := K.f1
          have y4 := (hE 4 (by decide)).1
          go_wp2_with fail
          with_reducible refine (cK wr 4 (by decide)).mono ?_
          rintro en wA ⟨rfl, hb⟩
          have KA := K.stay hb
          have EA := hE.stay hb
          clear x0 x1 y4 K hE hb
          have x0 := KA.f0
          have x1 := KA.f1
          have y3 := (EA 3 (by decide)).1
          go_wp2_with fail
          with_reducible refine (cK wA 3 (by decide)).mono ?_
          rintro en wB ⟨rfl, hb⟩
          have KB := KA.stay hb
          have EB := EA.stay hb
          clear x0 x1 y3 KA EA hb
          have hkk : kz 3 = kz 4 + 1 := by rw [hkzH.out, hkzH.out, h34]
          have hne : ¬ ((bv 3 : Int) = (bv 4 : Int)) := fun h => by have h5 : bv 3 = bv 4 := (by omega); rw [h5] at h34; omega
          rw [hkk]
          clear hkk h34
          generalize kz 4 = lo at *
          have y3 := (EB 3 (by decide)).1
          have y4 := (EB 4 (by decide)).1
          have y2 := (EB 2 (by decide)).1
          have ⟨x0, _, _, _, _, _⟩ := KB.x
          go_upto_region 17 with fail
          go_upto_if 65 with fail
          go_cut [15] from 62 to 67 (fun v15 wx => wx = wB ∧ v15 = .int .u64 (bv 2 : Int))
          case first => as_aux_lemma =>
            cases s <;> (go_wp2; go_meet; exact ⟨rfl, by rw [F2H.out]; rfl⟩)
          case rest => as_aux_lemma =>
            obtain ⟨rfl, rfl⟩ := hcut
            generalize wc = wB at *
            go_wp2_with fail
            clear y2
            go_loopw [16] (fun i wr => ∃ k n : Nat, k ≤ 5 ∧ i = .int .i64 (k : Int) ∧ wr = wB.drewN n) (fun i _ => 5 - (intOf i).toNat)
            case atStart => exact ⟨0, 0, by decide, rfl, rfl⟩
            case round =>
              obtain ⟨k, n, hk, rfl, rfl⟩ := hrel
              by_cases hk5 : k < 5
              · as_aux_lemma =>
                have k0 : (k : Int) < 5 := by omega
                have k1 : (0 : Int) ≤ (k : Int) := by omega
                have r1 := (EB k hk5).2
                have r0 := (EB 0 (by decide)).2
                have r2 := (EB k hk5).1
                have n1' := and_one8 (hg0 k hk5)
                have n2' : ¬ ((gv k : Int) = 0) := by have := hg0 k hk5; omega
                have n3' : ¬ ((gv 0 : Int) = 0) := by have := hg0 0 (by decide); omega
                have n4' : ((gv k : Int) != 0) = true := bne_iff_ne.2 n2'
                have n5' : ((gv 0 : Int) != 0) = true := bne_iff_ne.2 n3'
                have n6' : ((bv 3 : Int) != (bv 4 : Int)) = true := bne_iff_ne.2 hne
                have r5 := F3H.out k hk5
                clear hk hg0 KB EB HLO HHI HHV
                generalize gv k = g at *
                generalize gv 0 = g' at *
                rcases r5 with r5 | r5
                all_goals
                  rw [r5] at r2
                  clear r5
                  go_wp2
                  go_quiet (fail)
                  go_wp2
                  go_roundw
                  case rel => exact ⟨k + 1, _, by omega, by go_num, rfl⟩
                  case measure => simp [intOf]; omega
              · as_aux_lemma =>
                have hdr : Below wB.heap.size wB (wB.drewN n) := drewn (Below.refl _ _) n
                have KC := KB.stay hdr
                have EC := EB.stay hdr
                clear y3 y4 x0 KB EB hdr
                obtain rfl : k = 5 := by omega
                generalize wB.drewN n = wC at *
                have z0 := (EC 0 (by decide)).2
                have n3' : ¬ ((gv 0 : Int) = 0) := by have := hg0 0 (by decide); omega
                clear hg0 z0
                by_cases hx4 : exN E F (bv 4) = maskN E
                · have hx3 : exN E F (bv 3) ≠ maskN E := hfin.elim (fun h => absurd hx4 h) id
                  have x0 := KC.f0
                  have x1 := KC.f1
                  have y4 := (EC 4 (by decide)).1
                  go_wp2_with fail
                  with_reducible refine (cZ 4 (by decide) hx4 wC KC.v).mono ?_
                  rintro en wlA ⟨rfl, hbl⟩
                  have hsl := more hbl (.cells #[.bool false, .slice none 0 0, .slice none 0 0] 26)
                  have KD := KC.stay hsl
                  have ED := EC.stay hsl
                  have lX := box3_new wlA (.bool false) (.slice none 0 0) (.slice none 0 0) 26
                  clear x0 x1 y4 KC EC hbl hsl
                  go_upto_region 28 with fail
                  obtain ⟨lZ, hZ⟩ : ∃ q, q = wlA.heap.size := ⟨_, rfl⟩
                  rw [← hZ] at lX ⊢
                  clear hZ
                  generalize wlA.alloc (.cells #[.bool false, .slice none 0 0, .slice none 0 0] 26) = wl at *
                  have x0 := KD.f0
                  have x1 := KD.f1
                  have y4 := (ED 3 (by decide)).1
                  go_wp2_with fail
                  with_reducible refine (cY 3 (by decide) hx3 wl KD.v).mono ?_
                  rintro en wrA ⟨ra, rn, rc, rb, rm, rd, rfl, rF, rG, hbr⟩
                  have hsr := more hbr (.cells #[.bool (decide ((wrQ E F (bv 3)).num < 0)), .slice ra rn rc, .slice rb rm rd] 26)
                  have KE := KD.stay hsr
                  have EE := ED.stay hsr
                  replace lX := lX.stay hsr
                  have rX := box3_new wrA (.bool (decide ((wrQ E F (bv 3)).num < 0))) (.slice ra rn rc) (.slice rb rm rd) 26
                  have rP := (rF.alloc (.cells #[.bool (decide ((wrQ E F (bv 3)).num < 0)), .slice ra rn rc, .slice rb rm rd] 26)).sl
                  have rQ := (rG.alloc (.cells #[.bool (decide ((wrQ E F (bv 3)).num < 0)), .slice ra rn rc, .slice rb rm rd] 26)).sl
                  clear x0 x1 y4 KD ED hbr hsr rF rG
                  go_upto_region 29 with fail
                  obtain ⟨rZ, hZ⟩ : ∃ q, q = wrA.heap.size := ⟨_, rfl⟩
                  rw [← hZ] at rX ⊢
                  clear hZ
                  generalize wrA.alloc (.cells #[.bool (decide ((wrQ E F (bv 3)).num < 0)), .slice ra rn rc, .slice rb rm rd] 26) = wr at *
                  have z0 := (EE 0 (by decide)).2
                  have ⟨r0, r1, r2, _, _, _⟩ := rX
                  have ⟨x0, x1, x2, _, _, _⟩ := KE.x
                  go_wp2_with fail
                  with_reducible refine (cB (wrQ E F (bv 3)) (lY 3 (by decide) hx3).1 (lY 3 (by decide) hx3).2 (HHI.out hx3) wr _ _ _ _ _ _ KE.v rP rQ).mono ?_
                  rintro en wT ⟨rfl, hb⟩
                  go_wp2
                  go_ret
                  exact ⟨by simp, next KE.v hb⟩
                · by_cases hx3 : exN E F (bv 3) = maskN E
                  · skip
                    have x0 := KC.f0
                    have x1 := KC.f1
                    have y4 := (EC 4 (by decide)).1
                    go_wp2_with fail
                    with_reducible refine (cY 4 (by decide) hx4 wC KC.v).mono ?_
                    rintro en wlA ⟨la, ln, lc, lb, lm, ld, rfl, lF, lG, hbl⟩
                    have hsl := more hbl (.cells #[.bool (decide ((wrQ E F (bv 4)).num < 0)), .slice la ln lc, .slice lb lm ld] 26)
                    have KD := KC.stay hsl
                    have ED := EC.stay hsl
                    have lX := box3_new wlA (.bool (decide ((wrQ E F (bv 4)).num < 0))) (.slice la ln lc) (.slice lb lm ld) 26
                    have lP := (lF.alloc (.cells #[.bool (decide ((wrQ E F (bv 4)).num < 0)), .slice la ln lc, .slice lb lm ld] 26)).sl
                    have lQ := (lG.alloc (.cells #[.bool (decide ((wrQ E F (bv 4)).num < 0)), .slice la ln lc, .slice lb lm ld] 26)).sl
                    clear x0 x1 y4 KC EC hbl hsl lF lG
                    go_upto_region 28 with fail
                    obtain ⟨lZ, hZ⟩ : ∃ q, q = wlA.heap.size := ⟨_, rfl⟩
                    rw [← hZ] at lX ⊢
                    clear hZ
                    generalize wlA.alloc (.cells #[.bool (decide ((wrQ E F (bv 4)).num < 0)), .slice la ln lc, .slice lb lm ld] 26) = wl at *
                    have x0 := KD.f0
                    have x1 := KD.f1
                    have y4 := (ED 3 (by decide)).1
                    go_wp2_with fail
                    with_reducible refine (cZ 3 (by decide) hx3 wl KD.v).mono ?_
                    rintro en wrA ⟨rfl, hbr⟩
                    have hsr := more hbr (.cells #[.bool false, .slice none 0 0, .slice none 0 0] 26)
                    have KE := KD.stay hsr
                    have EE := ED.stay hsr
                    replace lX := lX.stay hsr
                    replace lP := lP.below hsr
                    replace lQ := lQ.below hsr
                    have rX := box3_new wrA (.bool false) (.slice none 0 0) (.slice none 0 0) 26
                    clear x0 x1 y4 KD ED hbr hsr
                    go_upto_region 29 with fail
                    obtain ⟨rZ, hZ⟩ : ∃ q, q = wrA.heap.size := ⟨_, rfl⟩
                    rw [← hZ] at rX ⊢
                    clear hZ
                    generalize wrA.alloc (.cells #[.bool false, .slice none 0 0, .slice none 0 0] 26) = wr at *
                    have z0 := (EE 0 (by decide)).2
                    have ⟨l0, l1, l2, _, _, _⟩ := lX
                    have ⟨x0, x1, x2, _, _, _⟩ := KE.x
                    go_wp2_with fail
                    with_reducible refine (cA (wrQ E F (bv 4)) (lY 4 (by decide) hx4).1 (lY 4 (by decide) hx4).2 (HLO.out hx4) wr _ _ _ _ _ _ KE.v lP lQ).mono ?_
                    rintro en wT ⟨rfl, hb⟩
                    go_wp2
                    go_ret
                    exact ⟨by simp, next KE.v hb⟩
                  · skip
                    have x0 := KC.f0
                    have x1 := KC.f1
                    have y4 := (EC 4 (by decide)).1
                    go_wp2_with fail
                    with_reducible refine (cY 4 (by decide) hx4 wC KC.v).mono ?_
                    rintro en wlA ⟨la, ln, lc, lb, lm, ld, rfl, lF, lG, hbl⟩
                    have hsl := more hbl (.cells #[.bool (decide ((wrQ E F (bv 4)).num < 0)), .slice la ln lc, .slice lb lm ld] 26)
                    have KD := KC.stay hsl
                    have ED := EC.stay hsl
                    have lX := box3_new wlA (.bool (decide ((wrQ E F (bv 4)).num < 0))) (.slice la ln lc) (.slice lb lm ld) 26
                    have lP := (lF.alloc (.cells #[.bool (decide ((wrQ E F (bv 4)).num < 0)), .slice la ln lc, .slice lb lm ld] 26)).sl
                    have lQ := (lG.alloc (.cells #[.bool (decide ((wrQ E F (bv 4)).num < 0)), .slice la ln lc, .slice lb lm ld] 26)).sl
                    clear x0 x1 y4 KC EC hbl hsl lF lG
                    go_upto_region 28 with fail
                    obtain ⟨lZ, hZ⟩ : ∃ q, q = wlA.heap.size := ⟨_, rfl⟩
                    rw [← hZ] at lX ⊢
                    clear hZ
                    generalize wlA.alloc (.cells #[.bool (decide ((wrQ E F (bv 4)).num < 0)), .slice la ln lc, .slice lb lm ld] 26) = wl at *
                    have x0 := KD.f0
                    have x1 := KD.f1
                    have y4 := (ED 3 (by decide)).1
                    go_wp2_with fail
                    with_reducible refine (cY 3 (by decide) hx3 wl KD.v).mono ?_
                    rintro en wrA ⟨ra, rn, rc, rb, rm, rd, rfl, rF, rG, hbr⟩
                    have hsr := more hbr (.cells #[.bool (decide ((wrQ E F (bv 3)).num < 0)), .slice ra rn rc, .slice rb rm rd] 26)
                    have KE := KD.stay hsr
                    have EE := ED.stay hsr
                    replace lX := lX.stay hsr
                    replace lP := lP.below hsr
                    replace lQ := lQ.below hsr
                    have rX := box3_new wrA (.bool (decide ((wrQ E F (bv 3)).num < 0))) (.slice ra rn rc) (.slice rb rm rd) 26
                    have rP := (rF.alloc (.cells #[.bool (decide ((wrQ E F (bv 3)).num < 0)), .slice ra rn rc, .slice rb rm rd] 26)).sl
                    have rQ := (rG.alloc (.cells #[.bool (decide ((wrQ E F (bv 3)).num < 0)), .slice ra rn rc, .slice rb rm rd] 26)).sl
                    clear x0 x1 y4 KD ED hbr hsr rF rG
                    go_upto_region 29 with fail
                    obtain ⟨rZ, hZ⟩ : ∃ q, q = wrA.heap.size := ⟨_, rfl⟩
                    rw [← hZ] at rX ⊢
                    clear hZ
                    generalize wrA.alloc (.cells #[.bool (decide ((wrQ E F (bv 3)).num < 0)), .slice ra rn rc, .slice rb rm rd] 26) = wr at *
                    have z0 := (EE 0 (by decide)).2
                    have ⟨l0, l1, l2, _, _, _⟩ := lX
                    have ⟨x0, x1, x2, _, _, _⟩ := KE.x
                    go_wp2_with fail
                    with_reducible refine (cA (wrQ E F (bv 4)) (lY 4 (by decide) hx4).1 (lY 4 (by decide) hx4).2 (HLO.out hx4) wr _ _ _ _ _ _ KE.v lP lQ).mono ?_
                    rintro en wT ⟨rfl, hb⟩
                    have KT := KE.stay hb
                    have ET := EE.stay hb
                    replace lX := lX.stay hb
                    replace rX := rX.stay hb
                    replace lP := lP.below hb
                    replace lQ := lQ.below hb
                    replace rP := rP.below hb
                    replace rQ := rQ.below hb
                    clear z0 l0 l1 l2 x0 x1 x2 KE EE hb
                    have ⟨r0, r1, r2, _, _, _⟩ := rX
                    have ⟨x0, x1, x2, _, _, _⟩ := KT.x
                    go_wp2_with fail
                    with_reducible refine (cB (wrQ E F (bv 3)) (lY 3 (by decide) hx3).1 (lY 3 (by decide) hx3).2 (HHI.out hx3) wT _ _ _ _ _ _ KT.v rP rQ).mono ?_
                    rintro en wU ⟨rfl, hb⟩
                    have KU := KT.stay hb
                    have EU := ET.stay hb
                    replace lX := lX.stay hb
                    replace rX := rX.stay hb
                    replace lP := lP.below hb
                    replace lQ := lQ.below hb
                    replace rP := rP.below hb
                    replace rQ := rQ.below hb
                    clear r0 r1 r2 x0 x1 x2 KT ET hb
                    have ⟨l0, l1, l2, _, _, _⟩ := lX
                    have ⟨r0, r1, r2, _, _, _⟩ := rX
                    have ⟨x0, x1, x2, _, _, _⟩ := KU.x
                    have b0 := (EU 0 (by decide)).1
                    have b1 := (EU 1 (by decide)).1
                    have b2 := (EU 2 (by decide)).1
                    have b3 := (EU 3 (by decide)).1
                    have b4 := (EU 4 (by decide)).1
                    go_wp2_with fail
                    with_reducible refine (cH (wrQ E F (bv 4)) (wrQ E F (bv 3)) (bv 0) (bv 1) (bv 2) (bv 3) (bv 4) (lY 4 (by decide) hx4).1 (lY 4 (by decide) hx4).2 (lY 3 (by decide) hx3).1 (lY 3 (by decide) hx3).2 (hp64 4 (by decide)) (HHV.out hx4 hx3) wU _ _ _ _ _ _ _ _ _ _ _ _ KU.v lP lQ rP rQ).mono ?_
                    rintro en wV ⟨rfl, hb⟩
                    go_wp2
                    go_ret
                    exact ⟨rfl, next KU.v hb⟩
  · have hv1 : askB e f s xs ys n1 n2 = false := by simpa using ha
    rw [hv1]
    clear ha hv1
    go_wp2
    go_ret
    exact ⟨rfl, V5⟩

end Go.Proofs.YteoceoepakfgiaaGreatDoor

