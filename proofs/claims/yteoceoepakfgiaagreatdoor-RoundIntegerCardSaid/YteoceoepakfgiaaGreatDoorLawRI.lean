/-
  The walk of the law RoundInteger: it answers true, whatever it is asked; nothing that was there has turned.
-/
import Derived.Deep.CutRange
import Derived.Test.YteoceoepakfgiaaGreatDoorRtK
import Derived.Test.YteoceoepakfgiaaGreatDoorSmQ
import Derived.Test.YteoceoepakfgiaaGreatDoorIngL
import Derived.Test.YteoceoepakfgiaaGreatDoorMirM
import Derived.Test.YteoceoepakfgiaaGreatDoorAliv5
namespace Go.Proofs.YteoceoepakfgiaaGreatDoor
open Go.RowKit Go.Lb

attribute [local go_sem] Go.World.cell?_alloc_some

/-- A fraction whose lower number is 1, kept in three cells of a row. -/
structure EntI (w : World) (L o : Nat) (t : Bool) (R : Nat) (a1 : Option Addr) (n1 c1 : Nat) (a2 : Option Addr) (n2 c2 : Nat) : Prop where
  e0 : w.cell? ⟨L, o, none⟩ = some (.bool t)
  e1 : w.cell? ⟨L, o + 1, none⟩ = some (.slice a1 n1 c1)
  e2 : w.cell? ⟨L, o + 2, none⟩ = some (.slice a2 n2 c2)
  s1 : Fr 37 w (L + 1) a1 n1 c1 (limbs R)
  s2 : Fr 37 w (L + 1) a2 n2 c2 (limbs 1)

def EntE (w : World) (L o : Nat) (t : Bool) (R : Nat) : Prop := ∃ a1 n1 c1 a2 n2 c2, EntI w L o t R a1 n1 c1 a2 n2 c2

/-- A row's cells may be written, whatever they hold. -/
def RowF (w : World) (L n : Nat) : Prop := ∀ j, j < n → (∃ v, w.cell? ⟨L, j, none⟩ = some v) ∧ w.frozen? ⟨L, j, none⟩ = false

theorem EntI.stay {wp w' : World} {L o : Nat} {t : Bool} {R : Nat} {a1 : Option Addr} {n1 c1 : Nat} {a2 : Option Addr} {n2 c2 : Nat} (h : EntI wp L o t R a1 n1 c1 a2 n2 c2) (k : Below wp.heap.size wp w') : EntI w' L o t R a1 n1 c1 a2 n2 c2 :=
  ⟨cellStay h.e0 k, cellStay h.e1 k, cellStay h.e2 k, h.s1.below k, h.s2.below k⟩

theorem EntE.stay {wp w' : World} {L o : Nat} {t : Bool} {R : Nat} (h : EntE wp L o t R) (k : Below wp.heap.size wp w') : EntE w' L o t R := by
  obtain ⟨a1, n1, c1, a2, n2, c2, h⟩ := h
  exact ⟨a1, n1, c1, a2, n2, c2, h.stay k⟩

theorem RowF.stay {wp w' : World} {L n : Nat} (h : RowF wp L n) (k : Below wp.heap.size wp w') : RowF w' L n := fun j hj => by
  obtain ⟨⟨v, hv⟩, hz⟩ := h j hj
  exact ⟨⟨v, cellStay hv k⟩, (cfStay ⟨hv, hz⟩ k).2⟩

theorem put_other {w : World} {L o q : Nat} (hq : q < o ∨ o + 2 < q) (x y z : Value) : (((w.setCell ⟨L, o, none⟩ x).setCell ⟨L, o + 1, none⟩ y).setCell ⟨L, o + 2, none⟩ z).cell? ⟨L, q, none⟩ = w.cell? ⟨L, q, none⟩ := by
  have hn : ∀ i : Nat, i ≠ q → (⟨L, i, none⟩ : Addr) ≠ ⟨L, q, none⟩ := fun i hi e => hi (congrArg Addr.off e)
  rw [World.cell?_setCell_other _ _ _ _ (hn (o + 2) (by omega)), World.cell?_setCell_other _ _ _ _ (hn (o + 1) (by omega)), World.cell?_setCell_other _ _ _ _ (hn o (by omega))]

theorem EntI.put {w : World} {L o q : Nat} {t : Bool} {R : Nat} {a1 : Option Addr} {n1 c1 : Nat} {a2 : Option Addr} {n2 c2 : Nat} (h : EntI w L q t R a1 n1 c1 a2 n2 c2) (hq : q + 2 < o ∨ o + 2 < q) (x y z : Value) :
    EntI (((w.setCell ⟨L, o, none⟩ x).setCell ⟨L, o + 1, none⟩ y).setCell ⟨L, o + 2, none⟩ z) L q t R a1 n1 c1 a2 n2 c2 :=
  ⟨(put_other (by omega) x y z).trans h.e0, (put_other (by omega) x y z).trans h.e1, (put_other (by omega) x y z).trans h.e2,
    ((h.s1.setCell (Nat.lt_succ_self L) _).setCell (Nat.lt_succ_self L) _).setCell (Nat.lt_succ_self L) _, ((h.s2.setCell (Nat.lt_succ_self L) _).setCell (Nat.lt_succ_self L) _).setCell (Nat.lt_succ_self L) _⟩

theorem entI_new {w : World} {L o : Nat} {t : Bool} {R : Nat} {a1 : Option Addr} {n1 c1 : Nat} {a2 : Option Addr} {n2 c2 : Nat} (hr : ∀ j, o ≤ j → j ≤ o + 2 → ∃ v, w.cell? ⟨L, j, none⟩ = some v) (f1 : Fr 37 w (L + 1) a1 n1 c1 (limbs R)) (f2 : Fr 37 w (L + 1) a2 n2 c2 (limbs 1)) :
    EntI (((w.setCell ⟨L, o, none⟩ (.bool t)).setCell ⟨L, o + 1, none⟩ (.slice a1 n1 c1)).setCell ⟨L, o + 2, none⟩ (.slice a2 n2 c2)) L o t R a1 n1 c1 a2 n2 c2 := by
  have hn : ∀ i k : Nat, i ≠ k → (⟨L, i, none⟩ : Addr) ≠ ⟨L, k, none⟩ := fun i k hi e => hi (congrArg Addr.off e)
  obtain ⟨v0, h0⟩ := hr o (by omega) (by omega)
  obtain ⟨v1, h1⟩ := hr (o + 1) (by omega) (by omega)
  obtain ⟨v2, h2⟩ := hr (o + 2) (by omega) (by omega)
  refine ⟨?_, ?_, ?_, ((f1.setCell (Nat.lt_succ_self L) _).setCell (Nat.lt_succ_self L) _).setCell (Nat.lt_succ_self L) _, ((f2.setCell (Nat.lt_succ_self L) _).setCell (Nat.lt_succ_self L) _).setCell (Nat.lt_succ_self L) _⟩
  · rw [World.cell?_setCell_other _ _ _ _ (hn (o + 2) o (by omega)), World.cell?_setCell_other _ _ _ _ (hn (o + 1) o (by omega))]
    exact World.cell?_setCell_same _ _ _ h0
  · rw [World.cell?_setCell_other _ _ _ _ (hn (o + 2) (o + 1) (by omega))]
    exact World.cell?_setCell_same _ _ _ ((World.cell?_setCell_other _ _ _ _ (hn o (o + 1) (by omega))).trans h1)
  · exact World.cell?_setCell_same _ _ _ ((World.cell?_setCell_other _ _ _ _ (hn (o + 1) (o + 2) (by omega))).trans ((World.cell?_setCell_other _ _ _ _ (hn o (o + 2) (by omega))).trans h2))

theorem RowF.put {w : World} {L n : Nat} (h : RowF w L n) (p : Nat) (x : Value) : RowF (w.setCell ⟨L, p, none⟩ x) L n := fun j hj => by
  obtain ⟨⟨v, hv⟩, hz⟩ := h j hj
  refine ⟨?_, by simp [hz]⟩
  by_cases e : p = j
  · subst e
    exact ⟨x, World.cell?_setCell_same _ _ _ hv⟩
  · refine ⟨v, ?_⟩
    rw [World.cell?_setCell_other _ _ _ _ (fun h => e (congrArg Addr.off h))]
    exact hv

theorem box3_puts {w : World} {b : Nat} {u v x : Value} (h : Box3 w b u v x) (p q r : Value) : Box3 (((w.setCell ⟨b, 0, none⟩ p).setCell ⟨b, 1, none⟩ q).setCell ⟨b, 2, none⟩ r) b p q r := by
  obtain ⟨t0, t1, t2⟩ := h.set p q r
  exact ⟨t0, t1, t2, by simp [h.z0], by simp [h.z1], by simp [h.z2]⟩

/-- Two new boxes that hold one fraction. -/
structure TwoB (wP wx : World) (b c : Nat) (x y z : Value) : Prop where
  xb : Box3 wx b x y z
  xc : Box3 wx c x y z
  ne : b ≠ c
  lb : wP.heap.size ≤ b
  lc : wP.heap.size ≤ c
  below : Below wP.heap.size wP wx

theorem twoB_new (wP : World) (x y z : Value) (t : TypeId) :
    TwoB wP ((wP.alloc (.cells #[x, y, z] t)).alloc (.cells #[x, y, z] t)).drew wP.heap.size (wP.heap.size + 1) x y z ∧ TwoB wP ((wP.alloc (.cells #[x, y, z] t)).alloc (.cells #[x, y, z] t)).drew (wP.heap.size + 1) wP.heap.size x y z := by
  have h1 : Box3 ((wP.alloc (.cells #[x, y, z] t)).alloc (.cells #[x, y, z] t)).drew wP.heap.size x y z := ((box3_new wP x y z t).alloc _).stay ((Below.refl _ _).drew)
  have h2 : Box3 ((wP.alloc (.cells #[x, y, z] t)).alloc (.cells #[x, y, z] t)).drew (wP.heap.size + 1) x y z := by
    have := (box3_new (wP.alloc (.cells #[x, y, z] t)) x y z t).stay ((Below.refl _ _).drew)
    rw [World.size_alloc] at this
    exact this
  have hb : Below wP.heap.size wP ((wP.alloc (.cells #[x, y, z] t)).alloc (.cells #[x, y, z] t)).drew := (more (more (Below.refl _ _) _) _).drew
  exact ⟨⟨h1, h2, by omega, Nat.le_refl _, Nat.le_succ _, hb⟩, ⟨h2, h1, by omega, Nat.le_succ _, Nat.le_refl _, hb⟩⟩

theorem box3_off {w : World} {b L : Nat} {u v x : Value} (h : Box3 w b u v x) (hne : b ≠ L) (p : Nat) (y : Value) : Box3 (w.setCell ⟨L, p, none⟩ y) b u v x := by
  have hn : ∀ i : Nat, (⟨L, p, none⟩ : Addr) ≠ ⟨b, i, none⟩ := fun i e => hne (congrArg Addr.block e).symm
  exact ⟨(World.cell?_setCell_other _ _ _ _ (hn 0)).trans h.c0, (World.cell?_setCell_other _ _ _ _ (hn 1)).trans h.c1, (World.cell?_setCell_other _ _ _ _ (hn 2)).trans h.c2, by simp [h.z0], by simp [h.z1], by simp [h.z2]⟩

/-- A new box that holds a fraction whose lower number is 1. -/
structure PickB (wP wx : World) (b : Nat) (t : Bool) (r : Nat) : Prop where
  box : ∃ ea ek ec eb el ed, Box3 wx b (.bool t) (.slice ea ek ec) (.slice eb el ed) ∧ Sl wP ea ek ec (limbs r) ∧ Sl wP eb el ed (limbs 1)
  lb : wP.heap.size ≤ b
  below : Below wP.heap.size wP wx

theorem PickB.put {wP wx : World} {b c : Nat} {t : Bool} {r : Nat} (h : PickB wP wx b t r) (hc : wP.heap.size ≤ c) (hne : b ≠ c) (x y z : Value) : PickB wP (((wx.setCell ⟨c, 0, none⟩ x).setCell ⟨c, 1, none⟩ y).setCell ⟨c, 2, none⟩ z) b t r := by
  obtain ⟨⟨ea, ek, ec, eb, el, ed, h1, h2, h3⟩, h4, h5⟩ := h
  exact ⟨⟨ea, ek, ec, eb, el, ed, box3_off (box3_off (box3_off h1 hne _ _) hne _ _) hne _ _, h2, h3⟩, h4, ((h5.setCell hc _).setCell hc _).setCell hc _⟩

theorem pickB_set {wP wx : World} {b : Nat} {u v x : Value} {t : Bool} {r : Nat} {ea : Option Addr} {ek ec : Nat} {eb : Option Addr} {el ed : Nat} (h : Box3 wx b u v x) (hb : wP.heap.size ≤ b) (hw : Below wP.heap.size wP wx) (h2 : Sl wP ea ek ec (limbs r)) (h3 : Sl wP eb el ed (limbs 1)) :
    PickB wP (((wx.setCell ⟨b, 0, none⟩ (.bool t)).setCell ⟨b, 1, none⟩ (.slice ea ek ec)).setCell ⟨b, 2, none⟩ (.slice eb el ed)) b t r :=
  ⟨⟨ea, ek, ec, eb, el, ed, box3_puts h _ _ _, h2, h3⟩, hb, ((hw.setCell hb _).setCell hb _).setCell hb _⟩

theorem rat_back (q : Rat) : sgQ' (decide (q.num < 0)) q.num.natAbs q.den = q := by
  unfold sgQ'
  have : (if decide (q.num < 0) = true then -(q.num.natAbs : Int) else (q.num.natAbs : Int)) = q.num := by
    by_cases h : q.num < 0
    · rw [if_pos (decide_eq_true h)]
      omega
    · rw [if_neg (by simp [h])]
      omega
  rw [this]
  exact Rat.mkRat_self q

theorem ent_rat {s : Bool} {R : Nat} (l : ln R ≤ 16384) : ratB (nzB s R) (limbs R) (limbs 1) = true := by
  have hs : nzB s R = true → R ≠ 0 := fun h h0 => by subst h0; unfold nzB at h; simp at h
  obtain ⟨q1, q2, q3⟩ := mk_low (s := nzB s R) (N := R) (D := 1) (by decide) (Nat.gcd_one_right R) hs
  have := rat_limbs (sgQ' (nzB s R) R 1) (by rw [q1]; exact l) (by rw [q2, ln_one]; decide)
  rw [q1, q2, q3] at this
  exact this

theorem ln_up (A : Nat) : ln (A + 1) ≤ ln A + 1 := by
  refine ln_le ?_
  have h := lt_of_limbs_length (Nat.le_refl (limbs A).length)
  have h2 : 0 < 4294967296 ^ (limbs A).length := Nat.pow_pos (by decide)
  unfold ln
  rw [Nat.pow_succ]
  omega

theorem chk_ln {N : Nat} (h : ln N ≤ 16384) : chk (limbs N) = 0 := by
  unfold chk
  rw [if_neg (by unfold ln at h; omega), if_neg]
  rintro ⟨h1, h2⟩
  exact fine_top (fine_limbs N) (by omega) h2

/-- What holds on from step to step: the argument's cells, the five fractions kept. -/
structure KeepI (w0 w : World) (L : Nat) (s : Bool) (a1 : Option Addr) (n1 c1 : Nat) (a2 : Option Addr) (n2 c2 : Nat) (R : Nat → Nat) : Prop where
  v : Below w0.heap.size w0 w
  x : Box3 w w0.heap.size (.bool s) (.slice a1 n1 c1) (.slice a2 n2 c2)
  l : L < w.heap.size
  e : ∀ m, m < 5 → EntE w L (m * 3) (nzB s (R m)) (R m)

theorem KeepI.stay {w0 wp w' : World} {L : Nat} {s : Bool} {a1 : Option Addr} {n1 c1 : Nat} {a2 : Option Addr} {n2 c2 : Nat} {R : Nat → Nat} (h : KeepI w0 wp L s a1 n1 c1 a2 n2 c2 R) (k : Below wp.heap.size wp w') : KeepI w0 w' L s a1 n1 c1 a2 n2 c2 R :=
  ⟨next h.v k, h.x.stay k, Nat.lt_of_lt_of_le h.l k.size, fun m hm => (h.e m hm).stay k⟩

theorem ent_at {w : World} {L : Nat} {t : Bool} {R : Nat} (o p q : Nat) (hp : p = o + 1) (hq : q = o + 2) (h : EntE w L o t R) : ∃ a1 n1 c1 a2 n2 c2, w.cell? ⟨L, o, none⟩ = some (.bool t) ∧ w.cell? ⟨L, p, none⟩ = some (.slice a1 n1 c1) ∧ w.cell? ⟨L, q, none⟩ = some (.slice a2 n2 c2) ∧ Sl w a1 n1 c1 (limbs R) ∧ Sl w a2 n2 c2 (limbs 1) := by
  subst hp
  subst hq
  obtain ⟨a1, n1, c1, a2, n2, c2, h⟩ := h
  exact ⟨a1, n1, c1, a2, n2, c2, h.e0, h.e1, h.e2, h.s1.sl, h.s2.sl⟩

set_option maxRecDepth 100000 in
set_option maxHeartbeats 4000000 in
theorem roundInteger_any (s : Bool) (a1 a2 : Option Addr) (n1 n2 c1 c2 : Nat) (xs ys : List Nat) (w : World) (h1 : Sl w a1 n1 c1 xs) (h2 : Sl w a2 n2 c2 ys) (hT : Tab w) :
    Calls Tryz.prog 3 #[.agg #[.bool s, .slice a1 n1 c1, .slice a2 n2 c2]] w fun en w' => en = .returned (.bool true) ∧ Below w.heap.size w w' := by
  obtain ⟨W1, hW1⟩ : ∃ W1 : World, W1 = w.alloc (.cells #[.bool s, .slice a1 n1 c1, .slice a2 n2 c2] 26) := ⟨_, rfl⟩
  have hb1 : Below w.heap.size w W1 := hW1 ▸ more (Below.refl _ _) _
  have X1 : Box3 W1 w.heap.size (.bool s) (.slice a1 n1 c1) (.slice a2 n2 c2) := hW1 ▸ box3_new w _ _ _ _
  have hA := alive5_any W1 (hT.below hb1)
  have k1 : ∀ W, Below w.heap.size w W → Calls Tryz.prog 7 #[.agg #[.int .i64 5, .int .i64 10], .agg #[.bool s, .slice a1 n1 c1, .slice a2 n2 c2]] W _ := fun W hW => asked5_any 5 10 s a1 a2 n1 n2 c1 c2 xs ys W (h1.below hW) (h2.below hW) (hT.below hW)
  go_enter Tryz.func3, Tryz.ntmps3
  go_upto_region 1 with fail
  rw [← hW1]
  clear hW1
  go_wp2_with fail
  refine hA.mono ?_
  rintro en w4 ⟨rfl, hb4⟩
  have V4 := next hb1 hb4
  have X4 := X1.stay hb4
  clear hA X1 hb4 hb1
  have ⟨x0, x1, x2, _, _, _⟩ := X4
  go_wp2_with fail
  with_reducible refine (k1 w4 V4).mono ?_
  rintro en w5 ⟨rfl, hb5⟩
  have V5 := next V4 hb5
  have X5 := X4.stay hb5
  clear x0 x1 x2 X4 hb5 V4 k1
  by_cases ha : askB 5 10 s xs ys n1 n2 = true
  · rw [ha]
    obtain ⟨_, hr, l1, l2⟩ := of_decide_eq_true ha
    clear ha
    obtain ⟨fx, fy, hD, hG, hs, _, _⟩ := rat_facts5 h1 h2 hr
    have lx := limbs_val fx
    have ly := limbs_val fy
    have lN : ln (val xs) ≤ 60 := Nat.le_trans (ln_le (val_lt h1.ok)) (by rw [h1.len]; exact l1)
    have lR : ∀ m, ln (rdN (val xs) (val ys) s m) ≤ 61 := fun m => by
      have h3 := rd_le (val xs) (val ys) s m
      have h4 := Nat.div_le_self (val xs) (val ys)
      have h5 : rdN (val xs) (val ys) s m ≤ val xs + 1 := by omega
      refine Nat.le_trans (ln_mono h5) ?_
      have := ln_up (val xs)
      omega
    obtain ⟨R, hR⟩ : ∃ R : Nat → Nat, ∀ m, R m = rdN (val xs) (val ys) s m := ⟨_, fun _ => rfl⟩
    obtain ⟨ex, hex⟩ : ∃ ex, ex = exB (val xs) (val ys) := ⟨_, rfl⟩
    have cW : ∀ W (m : Nat), m < 5 → Below w.heap.size w W → Calls Tryz.prog 8 #[.agg #[.bool s, .slice a1 n1 c1, .slice a2 n2 c2], .int .u8 (m : Int)] W (fun en w' => ∃ ao k c, en = .returned (.tuple #[.bool (nzB s (R m)), .agg #[.slice ao k c], .bool ex, .int .i64 0]) ∧ Fr 37 w' W.heap.size ao k c (limbs (R m)) ∧ Below W.heap.size W w') := fun W m hm hW => by
      rw [hR, hex]
      exact rdWholeP_ok a1 a2 n1 n2 c1 c2 m s xs ys W (h1.below hW) (h2.below hW) (hT.below hW) hm hr
    have cM : ∀ W (m : Nat) b1 k1 d1 g, Below w.heap.size w W → Sl W b1 k1 d1 (limbs (R m)) → Sl W (some ⟨g, 0, none⟩) 1 1 [1] → Calls Tryz.prog 9 #[.bool (nzB s (R m)), .agg #[.slice b1 k1 d1], .agg #[.slice (some ⟨g, 0, none⟩) 1 1]] W (Rtn (nzB s (R m)) (R m) 1 0 W) := fun W m b1 k1 d1 g hW j1 j2 => by
      have hl := lR m
      rw [← hR] at hl
      have := rtMake_ok (nzB s (R m)) b1 (some ⟨g, 0, none⟩) k1 1 d1 1 _ _ W j1 j2 (chk_ln (by omega)) (chk_one (by decide)) (by decide) (hT.below hW)
      rw [val_limbs', val_one, Nat.gcd_one_right, Nat.div_one, Nat.div_one, nz_nz] at this
      exact this
    have cS : ∀ W (m : Nat) b1 k1 d1 b2 k2 d2, m < 5 → Below w.heap.size w W → Sl W b1 k1 d1 (limbs (R m)) → Sl W b2 k2 d2 (limbs 1) → Calls Tryz.prog 10 #[.agg #[.bool (nzB s (R m)), .slice b1 k1 d1, .slice b2 k2 d2], .agg #[.bool s, .slice a1 n1 c1, .slice a2 n2 c2]] W fun e w' => e = .returned (.bool ex) ∧ Below W.heap.size W w' := fun W m b1 k1 d1 b2 k2 d2 hm hW j1 j2 => by
      have := rf2Same_any (nzB s (R m)) s b1 b2 a1 a2 k1 k2 n1 n2 d1 d2 c1 c2 _ _ xs ys W j1 j2 (h1.below hW) (h2.below hW)
      have e := same_exact (m := m) hD hG hs
      rw [lx, ly, ← hex, ← hR] at e
      unfold sameB at this
      rw [e] at this
      exact this
    have hz : ∀ (m k : Nat) W (b1 : Option Addr) (d1 : Nat), Sl W b1 k d1 (limbs (R m)) → nzB s (R m) = true → k ≠ 0 := fun m k W b1 d1 j hn h0 => by
      have := j.len
      subst h0
      have h3 : R m ≠ 0 := fun h => by rw [h] at hn; unfold nzB at hn; simp at hn
      rw [limbs_pos h3] at this
      simp at this
    obtain ⟨i1, i2, i3, i4, i5⟩ := integer_facts (s := s) hD hG
    obtain ⟨d, hd⟩ : ∃ d, d = dlN (val xs) (val ys) := ⟨_, rfl⟩
    have hd2 : d = 0 ∨ d = 1 := by rw [hd]; unfold dlN; split <;> simp
    rw [← hd] at i3
    rw [← hd] at i5
    rw [← hR, ← hR, ← hR] at i4
    rw [← hR] at i1 i2
    simp only [← hR] at i3 i5
    have hln : ∀ t m, ln (sgQ' (nzB t (R m)) (R m) 1).num.natAbs ≤ 61 ∧ ln (sgQ' (nzB t (R m)) (R m) 1).den ≤ 1 := fun t m => by
      have hs1 : nzB t (R m) = true → R m ≠ 0 := fun h h0 => by rw [h0] at h; unfold nzB at h; simp at h
      obtain ⟨q1, q2, _⟩ := mk_low (D := 1) (by decide) (Nat.gcd_one_right (R m)) hs1
      have := lR m
      rw [← hR] at this
      rw [q1, q2, ln_one]
      exact ⟨this, Nat.le_refl _⟩
    have hlx : ln (sgQ' s (val xs) (val ys)).num.natAbs ≤ 60 ∧ ln (sgQ' s (val xs) (val ys)).den ≤ 60 := by
      obtain ⟨q1, q2, _⟩ := mk_low hD hG hs
      rw [q1, q2]
      exact ⟨lN, Nat.le_trans (ln_le (val_lt h2.ok)) (by rw [h2.len]; exact l2)⟩
    have her : ∀ m, ratB (nzB s (R m)) (limbs (R m)) (limbs 1) = true := fun m => ent_rat (by have := lR m; rw [← hR] at this; omega)
    have hlm : ∀ m, (limbs (R m)).length ≤ 61 := fun m => by have := lR m; rw [← hR] at this; exact this
    have hl1 : (limbs 1).length = 1 := by rw [limbs_pos (by decide)]; rfl
    have cL : ∀ W b1 m1 d1 b2 m2 d2, Below w.heap.size w W → Sl W b1 m1 d1 (limbs (R 4)) → Sl W b2 m2 d2 (limbs 1) → Calls Tryz.prog 11 #[.agg #[.bool s, .slice a1 n1 c1, .slice a2 n2 c2], .agg #[.bool (nzB s (R 4)), .slice b1 m1 d1, .slice b2 m2 d2]] W (Rtn false (sgQ' s (val xs) (val ys) - sgQ' (nzB s (R 4)) (R 4) 1).num.natAbs (sgQ' s (val xs) (val ys) - sgQ' (nzB s (R 4)) (R 4) 1).den 0 W) := fun W b1 m1 d1 b2 m2 d2 hW j1 j2 => by
      have z1 := j1.len
      have z2 := j2.len
      have z3 := hlm 4
      have := rtSub_ok s (nzB s (R 4)) a1 a2 b1 b2 n1 n2 m1 m2 c1 c2 d1 d2 xs ys _ _ W (h1.below hW) (h2.below hW) j1 j2 (hT.below hW) hr (her 4) (by omega) (by omega) (by omega) (by omega)
      unfold RtnQ at this
      rw [val_limbs', val_limbs', i1] at this
      exact this
    have cU : ∀ W b1 m1 d1 b2 m2 d2, Below w.heap.size w W → Sl W b1 m1 d1 (limbs (R 3)) → Sl W b2 m2 d2 (limbs 1) → Calls Tryz.prog 11 #[.agg #[.bool (nzB s (R 3)), .slice b1 m1 d1, .slice b2 m2 d2], .agg #[.bool s, .slice a1 n1 c1, .slice a2 n2 c2]] W (Rtn false (sgQ' (nzB s (R 3)) (R 3) 1 - sgQ' s (val xs) (val ys)).num.natAbs (sgQ' (nzB s (R 3)) (R 3) 1 - sgQ' s (val xs) (val ys)).den 0 W) := fun W b1 m1 d1 b2 m2 d2 hW j1 j2 => by
      have z1 := j1.len
      have z2 := j2.len
      have z3 := hlm 3
      have := rtSub_ok (nzB s (R 3)) s b1 b2 a1 a2 m1 m2 n1 n2 d1 d2 c1 c2 _ _ xs ys W j1 j2 (h1.below hW) (h2.below hW) (hT.below hW) (her 3) hr (by omega) (by omega) (by omega) (by omega)
      unfold RtnQ at this
      rw [val_limbs', val_limbs', i2] at this
      exact this
    have cG : ∀ W b1 m1 d1 b2 m2 d2 b3 m3 d3 b4 m4 d4, Below w.heap.size w W → Sl W b1 m1 d1 (limbs (R 3)) → Sl W b2 m2 d2 (limbs 1) → Sl W b3 m3 d3 (limbs (R 4)) → Sl W b4 m4 d4 (limbs 1) → Calls Tryz.prog 11 #[.agg #[.bool (nzB s (R 3)), .slice b1 m1 d1, .slice b2 m2 d2], .agg #[.bool (nzB s (R 4)), .slice b3 m3 d3, .slice b4 m4 d4]] W (Rtn false d 1 0 W) := fun W b1 m1 d1 b2 m2 d2 b3 m3 d3 b4 m4 d4 hW j1 j2 j3 j4 => by
      have z1 := j1.len
      have z2 := j2.len
      have z3 := j3.len
      have z4 := j4.len
      have z5 := hlm 3
      have z6 := hlm 4
      have := rtSub_ok (nzB s (R 3)) (nzB s (R 4)) b1 b2 b3 b4 m1 m2 m3 m4 d1 d2 d3 d4 _ _ _ _ W j1 j2 j3 j4 (hT.below hW) (her 3) (her 4) (by omega) (by omega) (by omega) (by omega)
      unfold RtnQ at this
      rw [val_limbs', val_limbs', val_limbs', i3, Rat.num_intCast, Rat.den_intCast, Int.natAbs_natCast] at this
      have e : decide ((d : Int) < 0) = false := decide_eq_false (by omega)
      rw [e] at this
      exact this
    obtain ⟨sl1, sl2⟩ := sub_len (sgQ' s (val xs) (val ys)) (sgQ' (nzB s (R 4)) (R 4) 1)
    obtain ⟨sl3, sl4⟩ := sub_len (sgQ' (nzB s (R 3)) (R 3) 1) (sgQ' s (val xs) (val ys))
    have g3 := hln s 3
    have g4 := hln s 4
    have rL := rat_limbs (sgQ' s (val xs) (val ys) - sgQ' (nzB s (R 4)) (R 4) 1) (by omega) (by omega)
    have rU := rat_limbs (sgQ' (nzB s (R 3)) (R 3) 1 - sgQ' s (val xs) (val ys)) (by omega) (by omega)
    have bL := rat_back (sgQ' s (val xs) (val ys) - sgQ' (nzB s (R 4)) (R 4) 1)
    have bU := rat_back (sgQ' (nzB s (R 3)) (R 3) 1 - sgQ' s (val xs) (val ys))
    rw [i1] at rL bL
    rw [i2] at rU bU
    clear i1 i2 i3 sl1 sl2 sl3 sl4 g3 g4 hln hlx her hlm hl1
    generalize sgQ' s (val xs) (val ys) - sgQ' (nzB s (R 4)) (R 4) 1 = qL at *
    generalize sgQ' (nzB s (R 3)) (R 3) 1 - sgQ' s (val xs) (val ys) = qU at *
    obtain ⟨c, hc⟩ : ∃ c, c = cmpQ qL qU := ⟨_, rfl⟩
    obtain ⟨i0, i6⟩ := i5 c hc
    have cC : ∀ W b1 m1 d1 b2 m2 d2 b3 m3 d3 b4 m4 d4, Below w.heap.size w W → Sl W b1 m1 d1 (limbs qL.num.natAbs) → Sl W b2 m2 d2 (limbs qL.den) → Sl W b3 m3 d3 (limbs qU.num.natAbs) → Sl W b4 m4 d4 (limbs qU.den) → Calls Tryz.prog 12 #[.agg #[.bool false, .slice b1 m1 d1, .slice b2 m2 d2], .agg #[.bool false, .slice b3 m3 d3, .slice b4 m4 d4]] W fun en w' => en = .returned (.tuple #[.int .i64 c, .int .i64 0]) ∧ Below W.heap.size W w' := fun W b1 m1 d1 b2 m2 d2 b3 m3 d3 b4 m4 d4 hW j1 j2 j3 j4 => by
      have := rtCmp_ok false false b1 b2 b3 b4 m1 m2 m3 m4 d1 d2 d3 d4 _ _ _ _ W j1 j2 j3 j4 (hT.below hW) rL rU
      rw [val_limbs', val_limbs', val_limbs', val_limbs', bL, bU, ← hc] at this
      exact this
    have cN : ∀ W (n : Nat) (z : Int), z = (n : Int) → n ≤ 1 → Calls Tryz.prog 13 #[.int .i64 z] W (fun en w' => ∃ b1 m1 d1 b2 m2 d2, en = .returned (.agg #[.bool false, .slice b1 m1 d1, .slice b2 m2 d2]) ∧ Sl w' b1 m1 d1 (limbs n) ∧ Sl w' b2 m2 d2 (limbs 1) ∧ Below W.heap.size W w') := fun W n z hz hn => by
      subst hz
      refine (rtWholeN_ok (n : Int) W (by omega) (by omega)).mono ?_
      rintro en w' ⟨b1, m1, d1, b2, m2, d2, rfl, F1, F2, hb⟩
      rw [Rat.num_intCast, Int.natAbs_natCast] at F1
      rw [Rat.den_intCast] at F2
      refine ⟨b1, m1, d1, b2, m2, d2, ?_, F1.sl, F2.sl, hb⟩
      rw [Rat.num_intCast, decide_eq_false (by omega)]
    have cQ : ∀ W (n : Nat) b1 m1 d1 b2 m2 d2 b3 m3 d3 b4 m4 d4, Sl W b1 m1 d1 (limbs d) → Sl W b2 m2 d2 (limbs 1) → Sl W b3 m3 d3 (limbs n) → Sl W b4 m4 d4 (limbs 1) → Calls Tryz.prog 10 #[.agg #[.bool false, .slice b1 m1 d1, .slice b2 m2 d2], .agg #[.bool false, .slice b3 m3 d3, .slice b4 m4 d4]] W fun e w' => e = .returned (.bool (decide (d = n))) ∧ Below W.heap.size W w' := fun W n b1 m1 d1 b2 m2 d2 b3 m3 d3 b4 m4 d4 j1 j2 j3 j4 => by
      have := rf2Same_any false false b1 b2 b3 b4 m1 m2 m3 m4 d1 d2 d3 d4 _ _ _ _ W j1 j2 j3 j4
      have e : sameB false false (limbs d) (limbs 1) (limbs n) (limbs 1) = decide (d = n) := by
        unfold sameB
        by_cases h : d = n
        · subst h; simp
        · rw [decide_eq_false h]
          refine decide_eq_false ?_
          rintro ⟨_, h2, _⟩
          have := congrArg val h2
          rw [val_limbs', val_limbs'] at this
          exact h this
      rw [e] at this
      exact this
    have cE : ∀ W (t : Bool) (A : Nat) b1 m1 d1 b2 m2 d2 b3 m3 d3 b4 m4 d4, Sl W b1 m1 d1 (limbs A) → Sl W b2 m2 d2 (limbs 1) → Sl W b3 m3 d3 (limbs A) → Sl W b4 m4 d4 (limbs 1) → Calls Tryz.prog 10 #[.agg #[.bool t, .slice b1 m1 d1, .slice b2 m2 d2], .agg #[.bool t, .slice b3 m3 d3, .slice b4 m4 d4]] W fun e w' => e = .returned (.bool true) ∧ Below W.heap.size W w' := fun W t A b1 m1 d1 b2 m2 d2 b3 m3 d3 b4 m4 d4 j1 j2 j3 j4 => by
      have := rf2Same_any t t b1 b2 b3 b4 m1 m2 m3 m4 d1 d2 d3 d4 _ _ _ _ W j1 j2 j3 j4
      have e : sameB t t (limbs A) (limbs 1) (limbs A) (limbs 1) = true := by unfold sameB; simp
      rw [e] at this
      exact this
    have I4 := Lib.hid i4
    have I0 := Lib.hid i0
    have I6 := Lib.hid i6
    have HD := Lib.hid hd2
    clear rL rU bL bU hc i5 i4 i0 i6 hd2 hd hR hex lR lN lx ly fx fy hD hG hs hr l1 l2
    obtain ⟨W6, hW6⟩ : ∃ W6 : World, W6 = w5.alloc (.cells #[.bool false, .slice none 0 0, .slice none 0 0, .bool false, .slice none 0 0, .slice none 0 0, .bool false, .slice none 0 0, .slice none 0 0, .bool false, .slice none 0 0, .slice none 0 0, .bool false, .slice none 0 0, .slice none 0 0] 31) := ⟨_, rfl⟩
    have hb6 : Below w5.heap.size w5 W6 := hW6 ▸ more (Below.refl _ _) _
    have V6 := next V5 hb6
    have X6 := X5.stay hb6
    have F6 : RowF W6 w5.heap.size 15 := fun j hj => by
      have hjj : j = 0 ∨ j = 1 ∨ j = 2 ∨ j = 3 ∨ j = 4 ∨ j = 5 ∨ j = 6 ∨ j = 7 ∨ j = 8 ∨ j = 9 ∨ j = 10 ∨ j = 11 ∨ j = 12 ∨ j = 13 ∨ j = 14 := by omega
      rw [hW6]
      rcases hjj with rfl | rfl | rfl | rfl | rfl | rfl | rfl | rfl | rfl | rfl | rfl | rfl | rfl | rfl | rfl <;> exact ⟨Option.isSome_iff_exists.1 (by simp), by simp [go_sem]⟩
    have hL6 : w5.heap.size < W6.heap.size := by rw [hW6]; simp
    have hLw : w.heap.size ≤ w5.heap.size := V5.size
    have hLx : w.heap.size ≠ w5.heap.size := Nat.ne_of_lt X5.lt
    go_upto_region 6 with fail
    rw [← hW6]
    clear hW6 hb6 V5 X5
    generalize w5.heap.size = L at *
    go_wp2_with fail
    go_loopw [6] (fun i wr => ∃ k : Nat, k ≤ 5 ∧ i = .int .u8 (k : Int) ∧ Below w.heap.size w wr ∧ Box3 wr w.heap.size (.bool s) (.slice a1 n1 c1) (.slice a2 n2 c2) ∧ RowF wr L 15 ∧ L < wr.heap.size ∧ (∀ m, m < k → EntE wr L (m * 3) (nzB s (R m)) (R m))) (fun i _ => 5 - (intOf i).toNat)
    case atStart => exact ⟨0, by decide, rfl, V6, X6, F6, hL6, fun m hm => absurd hm (Nat.not_lt_zero m)⟩
    case round =>
      obtain ⟨k, hk, rfl, V, X, F, hL, hE⟩ := hrel
      by_cases hk5 : k < 5
      · as_aux_lemma =>
        have k0 : (k : Int) < 5 := by omega
        have ⟨x0, x1, x2, _, _, _⟩ := X
        go_wp2_with fail
        (with_reducible refine (cW wr k hk5 V).mono ?_)
        rintro en wA ⟨ao, kk, c, rfl, FA, hbA⟩
        have hzk := fun h => hz k kk _ ao c FA.sl h
        have hAB := more hbA (.cells #[.slice ao kk c] 24)
        have VB := next V hAB
        have XB := X.stay hAB
        have FB := F.stay hAB
        have hEB := fun m hm => (hE m hm).stay hAB
        have hLB := Nat.lt_of_lt_of_le hL hAB.size
        have NB := box1_new wA (.slice ao kk c) 24
        have SB := (FA.alloc (.cells #[.slice ao kk c] 24)).sl
        clear x0 x1 x2 X F hE hL V FA hbA hAB
        go_upto_region 10 with fail
        obtain ⟨Y, hY⟩ : ∃ q, q = wA.heap.size := ⟨_, rfl⟩
        rw [← hY] at NB ⊢
        clear hY
        generalize wA.alloc (.cells #[.slice ao kk c] 24) = wB at *
        have ⟨n0, _⟩ := NB
        obtain ⟨wC, hwC⟩ : ∃ wC : World, wC = wB.alloc (.cells #[.int .u32 1] 37) := ⟨_, rfl⟩
        have S1 : Sl wC (some ⟨wB.heap.size, 0, none⟩) 1 1 [1] := hwC ▸ sl_one5 wB 37 1 (by decide)
        have hBC : Below wB.heap.size wB wC := hwC ▸ more (Below.refl _ _) _
        go_wp2_with fail
        rw [← hwC]
        clear hwC
        have VC := next VB hBC
        have XC := XB.stay hBC
        have FC := FB.stay hBC
        have hEC := fun m hm => (hEB m hm).stay hBC
        have hLC := Nat.lt_of_lt_of_le hLB hBC.size
        have SC := SB.below hBC
        have NC := NB.stay hBC
        clear VB XB FB hEB hLB NB n0 SB hBC
        with_reducible refine (cM wC k _ _ _ _ VC SC S1).mono ?_
        rintro en wD ⟨a3, n3, f3, a4, n4, f4, rfl, F3, F4, _, hbD⟩
        have hDE := more hbD (.cells #[.bool (nzB s (R k)), .slice a3 n3 f3, .slice a4 n4 f4] 26)
        have VE := next VC hDE
        have XE := XC.stay hDE
        have FE := FC.stay hDE
        have hEE := fun m hm => (hEC m hm).stay hDE
        have hLE := Nat.lt_of_lt_of_le hLC hDE.size
        have QE := box3_new wD (.bool (nzB s (R k))) (.slice a3 n3 f3) (.slice a4 n4 f4) 26
        have G3 := (F3.alloc (.cells #[.bool (nzB s (R k)), .slice a3 n3 f3, .slice a4 n4 f4] 26)).mono (Nat.succ_le_of_lt hLC)
        have G4 := (F4.alloc (.cells #[.bool (nzB s (R k)), .slice a3 n3 f3, .slice a4 n4 f4] 26)).mono (Nat.succ_le_of_lt hLC)
        have NE := NC.stay hDE
        clear VC XC FC hEC hLC NC SC S1 F3 F4 hbD hDE
        go_upto_region 11 with fail
        obtain ⟨Z, hZ⟩ : ∃ q, q = wD.heap.size := ⟨_, rfl⟩
        rw [← hZ] at QE ⊢
        clear hZ
        generalize wD.alloc (.cells #[.bool (nzB s (R k)), .slice a3 n3 f3, .slice a4 n4 f4] 26) = wE at *
        have cSk := fun (hV : Below w.heap.size w wE) => cS wE k a3 n3 f3 a4 n4 f4 hk5 hV G3.sl G4.sl
        have ⟨x0, x1, x2, _, _, _⟩ := XE
        have ⟨q0, q1, q2, _, _, _⟩ := QE
        have ⟨m0, _⟩ := NE
        have hE2 : ∀ m, m < k → EntE wE L (m * 3) (nzB s (R m)) (R m) := hEE
        cases hn : nzB s (R k)
        case' true =>
          have hk0 : ¬ ((kk : Int) = 0) := by have := hzk hn; omega
        all_goals
          rw [hn] at q0
          simp only [hn] at cSk
          go_wp2_with fail
          with_reducible refine (cSk VE).mono ?_
          rintro en wF ⟨rfl, hbF⟩
          have VF := next VE hbF
          have XF := XE.stay hbF
          have FF := FE.stay hbF
          have hEF := fun m hm => (hEE m hm).stay hbF
          have hLF := Nat.lt_of_lt_of_le hLE hbF.size
          have QF := QE.stay hbF
          have H3 := G3.below hbF
          have H4 := G4.below hbF
          rw [hn] at QF
          clear x0 x1 x2 q0 q1 q2 m0 VE XE FE hEE hE2 hLE QE NE G3 G4 cSk hbF
          have ⟨q0, q1, q2, _, _, _⟩ := QF
          obtain ⟨⟨v0, r0⟩, y0⟩ := FF (k * 3) (by omega)
          obtain ⟨⟨v1, r1⟩, y1⟩ := FF (k * 3 + 1) (by omega)
          obtain ⟨⟨v2, r2⟩, y2⟩ := FF (k * 3 + 2) (by omega)
          go_wp2
          go_roundw
          case rel =>
            refine ⟨k + 1, by omega, by go_num, ((VF.setCell hLw _).setCell hLw _).setCell hLw _, ?_, ((FF.put _ _).put _ _).put _ _, by simpa using hLF, fun m hm => ?_⟩
            · exact box3_off (box3_off (box3_off XF hLx _ _) hLx _ _) hLx _ _
            · by_cases h : m = k
              · subst h
                rw [hn]
                exact ⟨_, _, _, _, _, _, entI_new (fun j g1 g2 => (FF j (by omega)).1) H3 H4⟩
              · obtain ⟨_, _, _, _, _, _, e⟩ := hEF m (by omega)
                exact ⟨_, _, _, _, _, _, e.put (by omega) _ _ _⟩
          case measure => simp [intOf]; omega
      · as_aux_lemma =>
        obtain rfl : k = 5 := by omega
        have K0 : KeepI w wr L s a1 n1 c1 a2 n2 c2 R := ⟨V, X, hL, fun m hm => hE m hm⟩
        clear V X F hL hE
        obtain ⟨ua, uk, uc, ub, ul, ud, u0, u1, u2, uS, uT⟩ := ent_at 12 13 14 rfl rfl (K0.e 4 (by decide))
        have ⟨x0, x1, x2, _, _, _⟩ := K0.x
        go_wp2_with fail
        with_reducible refine (cL wr _ _ _ _ _ _ K0.v uS uT).mono ?_
        rintro en wlA ⟨la, ln, lc, lb, lm, ld, rfl, lF, lG, _, hbl⟩
        have hsl := more hbl (.cells #[.bool false, .slice la ln lc, .slice lb lm ld] 26)
        have K1 := K0.stay hsl
        have lX := box3_new wlA (.bool false) (.slice la ln lc) (.slice lb lm ld) 26
        have lP := (lF.alloc (.cells #[.bool false, .slice la ln lc, .slice lb lm ld] 26)).sl
        have lQ := (lG.alloc (.cells #[.bool false, .slice la ln lc, .slice lb lm ld] 26)).sl
        clear x0 x1 x2 u0 u1 u2 uS uT K0 hbl hsl lF lG
        go_upto_region 15 with fail
        obtain ⟨lZ, hZ⟩ : ∃ q, q = wlA.heap.size := ⟨_, rfl⟩
        rw [← hZ] at lX ⊢
        clear hZ
        generalize wlA.alloc (.cells #[.bool false, .slice la ln lc, .slice lb lm ld] 26) = wl at *
        obtain ⟨ua, uk, uc, ub, ul, ud, u0, u1, u2, uS, uT⟩ := ent_at 9 10 11 rfl rfl (K1.e 3 (by decide))
        have ⟨x0, x1, x2, _, _, _⟩ := K1.x
        go_wp2_with fail
        with_reducible refine (cU wl _ _ _ _ _ _ K1.v uS uT).mono ?_
        rintro en wrA ⟨ra, rn, rc, rb, rm, rd, rfl, rF, rG, _, hbr⟩
        have hsr := more hbr (.cells #[.bool false, .slice ra rn rc, .slice rb rm rd] 26)
        have K2 := K1.stay hsr
        replace lX := lX.stay hsr
        replace lP := lP.below hsr
        replace lQ := lQ.below hsr
        have rX := box3_new wrA (.bool false) (.slice ra rn rc) (.slice rb rm rd) 26
        have rP := (rF.alloc (.cells #[.bool false, .slice ra rn rc, .slice rb rm rd] 26)).sl
        have rQ := (rG.alloc (.cells #[.bool false, .slice ra rn rc, .slice rb rm rd] 26)).sl
        clear x0 x1 x2 u0 u1 u2 uS uT K1 hbr hsr rF rG
        go_upto_region 16 with fail
        obtain ⟨rZ, hZ⟩ : ∃ q, q = wrA.heap.size := ⟨_, rfl⟩
        rw [← hZ] at rX ⊢
        clear hZ
        generalize wrA.alloc (.cells #[.bool false, .slice ra rn rc, .slice rb rm rd] 26) = wr at *
        obtain ⟨ua, uk, uc, ub, ul, ud, u0, u1, u2, uS, uT⟩ := ent_at 9 10 11 rfl rfl (K2.e 3 (by decide))
        obtain ⟨va, vk, vc, vb, vl, vd, v0, v1, v2, vS, vT⟩ := ent_at 12 13 14 rfl rfl (K2.e 4 (by decide))
        have ⟨x0, x1, x2, _, _, _⟩ := K2.x
        go_wp2_with fail
        with_reducible refine (cG wr _ _ _ _ _ _ _ _ _ _ _ _ K2.v uS uT vS vT).mono ?_
        rintro en wgA ⟨ga, gn, gc, gb, gm, gd, rfl, gF, gG, _, hbg⟩
        have hsg := more hbg (.cells #[.bool false, .slice ga gn gc, .slice gb gm gd] 26)
        have K3 := K2.stay hsg
        replace lX := lX.stay hsg
        replace lP := lP.below hsg
        replace lQ := lQ.below hsg
        replace rX := rX.stay hsg
        replace rP := rP.below hsg
        replace rQ := rQ.below hsg
        have gX := box3_new wgA (.bool false) (.slice ga gn gc) (.slice gb gm gd) 26
        have gP := (gF.alloc (.cells #[.bool false, .slice ga gn gc, .slice gb gm gd] 26)).sl
        have gQ := (gG.alloc (.cells #[.bool false, .slice ga gn gc, .slice gb gm gd] 26)).sl
        clear x0 x1 x2 u0 u1 u2 uS uT v0 v1 v2 vS vT K2 hbg hsg gF gG
        go_upto_region 17 with fail
        obtain ⟨gZ, hZ⟩ : ∃ q, q = wgA.heap.size := ⟨_, rfl⟩
        rw [← hZ] at gX ⊢
        clear hZ
        generalize wgA.alloc (.cells #[.bool false, .slice ga gn gc, .slice gb gm gd] 26) = wg at *
        have ⟨l0, l1, l2, _, _, _⟩ := lX
        have ⟨r0, r1, r2, _, _, _⟩ := rX
        go_wp2_with fail
        with_reducible refine (cC wg _ _ _ _ _ _ _ _ _ _ _ _ K3.v lP lQ rP rQ).mono ?_
        rintro en wh ⟨rfl, hb⟩
        have K4 := K3.stay hb
        replace gX := gX.stay hb
        replace lX := lX.stay hb
        replace rX := rX.stay hb
        replace gP := gP.below hb
        replace gQ := gQ.below hb
        clear l0 l1 l2 r0 r1 r2 K3 lP lQ rP rQ hb cL cU cG cC cW cM cS hz
        have ⟨l0, l1, l2, _, _, _⟩ := lX
        have ⟨r0, r1, r2, _, _, _⟩ := rX
        go_upto_region 20 with fail
        clear l0 l1 l2 r0 r1 r2 lX rX
        have kSp : ∀ w' : World, Below wh.heap.size wh w' → (w'.cell? ⟨gZ, 0, none⟩ = some (.bool false) ∧ w'.cell? ⟨gZ, 1, none⟩ = some (.slice ga gn gc) ∧ w'.cell? ⟨gZ, 2, none⟩ = some (.slice gb gm gd) ∧ Below wh.heap.size wh w') := fun w' hb => ⟨cellStay gX.c0 hb, cellStay gX.c1 hb, cellStay gX.c2 hb, hb⟩
        have hb0p := Below.refl wh.heap.size wh
        go_region_held3 (fun w' => w'.cell? ⟨gZ, 0, none⟩ = some (.bool false) ∧ w'.cell? ⟨gZ, 1, none⟩ = some (.slice ga gn gc) ∧ w'.cell? ⟨gZ, 2, none⟩ = some (.slice gb gm gd) ∧ Below wh.heap.size wh w')
          ((refine kSp _ ?_; (repeat (with_reducible (first | assumption | exact Below.refl _ _ | refine Below.drew ?_ | refine more ?_ _))); done))
          (first
            | (go_at_call 13; (with_reducible refine (cN _ 1 1 rfl (by decide)).mono ?_); rintro en wXp ⟨ja, jk, je, jb, jl, jf, rfl, jS, jT, hbX⟩; have hWXp : Below wh.heap.size wh wXp := (by go_split_ands; exact next (by assumption) hbX))
            | (go_at_call 10; (with_reducible refine (cQ _ 1 _ _ _ _ _ _ _ _ _ _ _ _ ?_ ?_ ?_ ?_).mono ?_); (focus (go_split_ands; exact gP.below (by assumption))); (focus (go_split_ands; exact gQ.below (by assumption))); (focus (exact jS)); (focus (exact jT)); rintro en wYp ⟨rfl, hbY⟩; have hWYp : Below wh.heap.size wh wYp := (by go_split_ands; exact next (by assumption) hbY); clear jS jT))
        go_split_ands
        have K5 := K4.stay hWYp
        replace gX := gX.stay hWYp
        replace gP := gP.below hWYp
        replace gQ := gQ.below hWYp
        clear K4 kSp hb0p hWXp hWYp hbX hbY
        go_upto_region 21 with fail
        have kSq : ∀ w' : World, Below wYp.heap.size wYp w' → (w'.cell? ⟨gZ, 0, none⟩ = some (.bool false) ∧ w'.cell? ⟨gZ, 1, none⟩ = some (.slice ga gn gc) ∧ w'.cell? ⟨gZ, 2, none⟩ = some (.slice gb gm gd) ∧ Below wYp.heap.size wYp w') := fun w' hb => ⟨cellStay gX.c0 hb, cellStay gX.c1 hb, cellStay gX.c2 hb, hb⟩
        have hb0q := Below.refl wYp.heap.size wYp
        go_region_held3 (fun w' => w'.cell? ⟨gZ, 0, none⟩ = some (.bool false) ∧ w'.cell? ⟨gZ, 1, none⟩ = some (.slice ga gn gc) ∧ w'.cell? ⟨gZ, 2, none⟩ = some (.slice gb gm gd) ∧ Below wYp.heap.size wYp w')
          ((refine kSq _ ?_; (repeat (with_reducible (first | assumption | exact Below.refl _ _ | refine Below.drew ?_ | refine more ?_ _))); done))
          (first
            | (go_at_call 13; (with_reducible refine (cN _ 0 0 rfl (by decide)).mono ?_); rintro en wXq ⟨ja, jk, je, jb, jl, jf, rfl, jS, jT, hbX⟩; have hWXq : Below wYp.heap.size wYp wXq := (by go_split_ands; exact next (by assumption) hbX))
            | (go_at_call 10; (with_reducible refine (cQ _ 0 _ _ _ _ _ _ _ _ _ _ _ _ ?_ ?_ ?_ ?_).mono ?_); (focus (go_split_ands; exact gP.below (by assumption))); (focus (go_split_ands; exact gQ.below (by assumption))); (focus (exact jS)); (focus (exact jT)); rintro en wYq ⟨rfl, hbY⟩; have hWYq : Below wYp.heap.size wYp wYq := (by go_split_ands; exact next (by assumption) hbY); clear jS jT))
        go_split_ands
        have K6 := K5.stay hWYq
        clear K5 kSq hb0q hWXq hWYq hbX hbY gX gP gQ cQ cN
        go_upto_region 22 with fail
        obtain ⟨o1, ho⟩ : ∃ o, o = decide (d = 1) := ⟨_, rfl⟩
        have hn : decide (d = 0) = !o1 := by rw [ho]; rcases HD.out with rfl | rfl <;> rfl
        rw [← ho, hn]
        have HO := Lib.hid ho
        clear ho hn
        go_cut [140] from 27 (fun v140 wx => wx = wYq ∧ v140 = .bool false)
        case first => as_aux_lemma =>
          cases o1 <;> (go_wp2; go_meet; exact ⟨rfl, rfl⟩)
        case rest => as_aux_lemma =>
          obtain ⟨rfl, rfl⟩ := hcut
          generalize wc = wY at *
          obtain ⟨pa, pk, pc, pb, pl, pd, p0, p1, p2, pS, pT⟩ := ent_at 12 13 14 rfl rfl (K6.e 4 (by decide))
          obtain ⟨qa, qk, qc, qb, ql, qd, q0, q1, q2, qS, qT⟩ := ent_at 9 10 11 rfl rfl (K6.e 3 (by decide))
          have ⟨x0, x1, x2, _, _, _⟩ := K6.x
          go_upto_if 144 with fail
          have hN := more (Below.refl wY.heap.size wY) (.cells #[.bool (nzB s (R 4)), .slice pa pk pc, .slice pb pl pd] 26)
          have nX := box3_new wY (.bool (nzB s (R 4))) (.slice pa pk pc) (.slice pb pl pd) 26
          replace x0 := cellStay x0 hN
          replace p0 := cellStay p0 hN
          replace p1 := cellStay p1 hN
          replace p2 := cellStay p2 hN
          replace q0 := cellStay q0 hN
          replace q1 := cellStay q1 hN
          replace q2 := cellStay q2 hN
          obtain ⟨nZ, hZ⟩ : ∃ q, q = wY.heap.size := ⟨_, rfl⟩
          rw [← hZ] at nX ⊢
          have hle : wY.heap.size ≤ nZ := Nat.le_of_eq hZ.symm
          clear hZ x1 x2
          generalize wY.alloc (.cells #[.bool (nzB s (R 4)), .slice pa pk pc, .slice pb pl pd] 26) = wN at *
          go_cut [23] from 143 to 146 (fun v23 wx => v23 = .pointer (some ⟨nZ, 0, none⟩) ∧ PickB wY wx nZ (nzB s (R 2)) (R 2))
          case first => as_aux_lemma =>
            have ⟨n0, n1, n2, m0, m1, m2⟩ := nX
            cases s
            case' false =>
              have e2 : R 2 = R 4 := by simpa using I4.out
              go_wp2
              go_meet
              exact ⟨rfl, by rw [e2]; exact ⟨⟨_, _, _, _, _, _, nX, pS, pT⟩, hle, hN⟩⟩
            case' true =>
              have e2 : R 2 = R 3 := by simpa using I4.out
              go_wp2
              go_meet
              exact ⟨rfl, by rw [e2]; exact pickB_set nX hle hN qS qT⟩
          case rest => as_aux_lemma =>
            obtain ⟨rfl, Z⟩ := hcut
            have K7 := K6.stay Z.below
            have hZp : nZ < wc.heap.size := by obtain ⟨_, _, _, _, _, _, h, _⟩ := Z.box; exact h.lt
            obtain ⟨za, zk, zc, zb, zl, zd, zX, zS, zT⟩ := Z.box
            replace zS := zS.below Z.below
            replace zT := zT.below Z.below
            clear K6 hle nX hN p0 p1 p2 q0 q1 q2 pS pT qS qT x0 Z
            generalize wc = wP at *
            obtain ⟨ua, uk, uc, ub, ul, ud, u0, u1, u2, uS, uT⟩ := ent_at 12 13 14 rfl rfl (K7.e 4 (by decide))
            have kSz : ∀ w' : World, Below wP.heap.size wP w' → (w'.cell? ⟨L, 12, none⟩ = some (.bool (nzB s (R 4))) ∧ w'.cell? ⟨L, 13, none⟩ = some (.slice ua uk uc) ∧ w'.cell? ⟨L, 14, none⟩ = some (.slice ub ul ud) ∧ Below wP.heap.size wP w') := fun w' hb => ⟨cellStay u0 hb, cellStay u1 hb, cellStay u2 hb, hb⟩
            go_upto_region 27 with fail
            go_cut [24, 25] from 147 to 150 (fun v24 v25 wx => ∃ b24 b25 : Nat, v24 = .pointer (some ⟨b24, 0, none⟩) ∧ v25 = .pointer (some ⟨b25, 0, none⟩) ∧ TwoB wP wx b24 b25 (.bool (nzB s (R 4))) (.slice ua uk uc) (.slice ub ul ud))
            case first => as_aux_lemma =>
              go_region_held3 (fun w' => w'.cell? ⟨L, 12, none⟩ = some (.bool (nzB s (R 4))) ∧ w'.cell? ⟨L, 13, none⟩ = some (.slice ua uk uc) ∧ w'.cell? ⟨L, 14, none⟩ = some (.slice ub ul ud) ∧ Below wP.heap.size wP w')
                ((refine kSz _ ?_; (repeat (with_reducible (first | exact Below.refl _ _ | refine Below.drew ?_ | refine more ?_ _ | refine Below.setCell ?_ ?_ _ | exact Nat.le_refl _ | exact Nat.le_succ _ | (simp; done)))); done))
                (fail)
              all_goals go_wp2
              all_goals go_meet
              all_goals first | exact ⟨_, _, rfl, rfl, (twoB_new wP _ _ _ _).1⟩ | exact ⟨_, _, rfl, rfl, (twoB_new wP _ _ _ _).2⟩
            case rest => as_aux_lemma =>
              obtain ⟨b24, b25, rfl, rfl, B⟩ := hcut
              obtain ⟨va, vk, vc, vb, vl, vd, v0, v1, v2, vS, vT⟩ := ent_at 9 10 11 rfl rfl (K7.e 3 (by decide))
              replace v0 := cellStay v0 B.below
              replace v1 := cellStay v1 B.below
              replace v2 := cellStay v2 B.below
              have x0 := cellStay K7.x.c0 B.below
              have hn0 : nZ ≠ b24 := Nat.ne_of_lt (Nat.lt_of_lt_of_le hZp B.lb)
              have hn1 : nZ ≠ b25 := Nat.ne_of_lt (Nat.lt_of_lt_of_le hZp B.lc)
              clear kSz u0 u1 u2
              generalize wc = wQ at *
              go_upto_region 28 with fail
              obtain ⟨od, hod⟩ : ∃ o, o = decide (R 4 % 2 = 1) := ⟨_, rfl⟩
              have HOD := Lib.hid hod
              clear hod
              go_cut [26] from 151 to 164 (fun v26 wx => wx = wQ ∧ v26 = .bool od)
              case first => as_aux_lemma =>
                have ⟨t0, t1, t2, _, _, _⟩ := B.xb
                rcases limbs_odd (R 4) with ⟨o1, o2⟩ | ⟨o1, o2⟩
                · obtain rfl : uk = 0 := by rw [← uS.len]; exact o1
                  have hod : od = false := by rw [HOD.out, o2]; rfl
                  subst hod
                  go_wp2
                  go_meet
                  exact ⟨rfl, rfl⟩
                · have hu : 0 < uk := by rw [← uS.len]; exact o1
                  obtain ⟨b1, f1, rfl, hb1, hc1⟩ := uS.at_ hu
                  have k1 := cellStay (hc1 0 hu) B.below
                  rw [Nat.add_zero] at k1
                  have hu2 : (uk : Int) > 0 := by omega
                  have hod := HOD.out
                  rw [← o2] at hod
                  clear hc1 o2 o1
                  generalize nth (limbs (R 4)) 0 = g at *
                  rcases Nat.mod_two_eq_zero_or_one g with hg | hg
                  · have hg2 : (g : Int) % 2 = 0 := by omega
                    have hg3 : (g : Int).tmod 2 = 0 := by rw [Int.tmod_eq_emod_of_nonneg (by omega)]; exact hg2
                    have hod2 : od = false := by rw [hod, hg]; rfl
                    subst hod2
                    clear hod hg
                    go_wp2
                    go_meet
                    exact ⟨rfl, rfl⟩
                  · have hg2 : (g : Int) % 2 = 1 := by omega
                    have hg3 : (g : Int).tmod 2 = 1 := by rw [Int.tmod_eq_emod_of_nonneg (by omega)]; exact hg2
                    have hod2 : od = true := by rw [hod, hg]; rfl
                    subst hod2
                    clear hod hg
                    go_wp2
                    go_meet
                    exact ⟨rfl, rfl⟩
              case rest => as_aux_lemma =>
                obtain ⟨rfl, rfl⟩ := hcut
                generalize wc = wR at *
                obtain ⟨pe, hpe⟩ : ∃ o, o = decide (0 < c ∨ c = 0 ∧ R 4 % 2 = 1 ∧ d = 1) := ⟨_, rfl⟩
                have HPE := Lib.hid hpe
                obtain ⟨pw, hpw⟩ : ∃ o, o = decide (0 < c ∨ c = 0 ∧ s = false) := ⟨_, rfl⟩
                have HPW := Lib.hid hpw
                have E0 : Hid (R 0 = if pe = true then R 3 else R 4) := Lib.hid (by rw [hpe]; have := I0.out; simpa using this)
                have E1 : Hid (R 1 = if pw = true then R 3 else R 4) := Lib.hid (by rw [hpw]; have := I6.out; simpa using this)
                clear hpe hpw
                go_upto_region 29 with fail
                go_cut [176] from 165 to 176 (fun v176 wx => wx = wR ∧ v176 = .bool pe)
                case first => as_aux_lemma =>
                  rcases Int.lt_trichotomy c 0 with hc | hc | hc
                  · have g1 : ¬ c > 0 := by omega
                    have g2 : ¬ c = 0 := by omega
                    have h3 : pe = false := by rw [HPE.out]; exact decide_eq_false (by omega)
                    subst h3
                    clear hc
                    go_wp2
                    go_meet
                    exact ⟨rfl, rfl⟩
                  · subst hc
                    have h3 : pe = (od && o1) := by rw [HPE.out, HOD.out, HO.out]; simp
                    subst h3
                    cases od <;> cases o1 <;> (go_wp2; go_meet; exact ⟨rfl, rfl⟩)
                  · have g1 : c > 0 := hc
                    have h3 : pe = true := by rw [HPE.out]; exact decide_eq_true (.inl hc)
                    subst h3
                    clear hc
                    go_wp2
                    go_meet
                    exact ⟨rfl, rfl⟩
                case rest => as_aux_lemma =>
                  obtain ⟨rfl, rfl⟩ := hcut
                  generalize wc = wR at *
                  go_upto_if 176 with fail
                  go_cut [26] from 176 to 178 (fun _ wx => PickB wP wx b24 (nzB s (R 0)) (R 0) ∧ Box3 wx b25 (.bool (nzB s (R 4))) (.slice ua uk uc) (.slice ub ul ud))
                  case first => as_aux_lemma =>
                    have xb := B.xb
                    have ⟨t0, t1, t2, m0, m1, m2⟩ := xb
                    cases pe
                    case' false =>
                      have e2 : R 0 = R 4 := by simpa using E0.out
                      go_wp2
                      go_meet
                      exact ⟨by rw [e2]; exact ⟨⟨_, _, _, _, _, _, xb, uS, uT⟩, B.lb, B.below⟩, B.xc⟩
                    case' true =>
                      have e2 : R 0 = R 3 := by simpa using E0.out
                      go_wp2
                      go_meet
                      exact ⟨by rw [e2]; exact pickB_set xb B.lb B.below vS vT, box3_off (box3_off (box3_off B.xc B.ne.symm _ _) B.ne.symm _ _) B.ne.symm _ _⟩
                  case rest => as_aux_lemma =>
                    obtain ⟨P0, C0⟩ := hcut
                    have hb2 := P0.below
                    have x0 := cellStay K7.x.c0 hb2
                    generalize wc = wS at *
                    go_upto_region 31 with fail
                    go_cut [189] from 179 to 189 (fun v189 wx => wx = wS ∧ v189 = .bool pw)
                    case first => as_aux_lemma =>
                      rcases Int.lt_trichotomy c 0 with hc | hc | hc
                      · have g1 : ¬ c > 0 := by omega
                        have g2 : ¬ c = 0 := by omega
                        have h3 : pw = false := by rw [HPW.out]; exact decide_eq_false (by omega)
                        subst h3
                        clear hc
                        go_wp2
                        go_meet
                        exact ⟨rfl, rfl⟩
                      · subst hc
                        have h3 : pw = !s := by rw [HPW.out]; cases s <;> simp
                        subst h3
                        cases s <;> (go_wp2; go_meet; exact ⟨rfl, rfl⟩)
                      · have g1 : c > 0 := hc
                        have h3 : pw = true := by rw [HPW.out]; exact decide_eq_true (.inl hc)
                        subst h3
                        clear hc
                        go_wp2
                        go_meet
                        exact ⟨rfl, rfl⟩
                    case rest => as_aux_lemma =>
                      obtain ⟨rfl, rfl⟩ := hcut
                      generalize wc = wS at *
                      obtain ⟨va2, vk2, vc2, vb2, vl2, vd2, v0, v1, v2, vS, vT⟩ := ent_at 9 10 11 rfl rfl (K7.e 3 (by decide))
                      replace v0 := cellStay v0 hb2
                      replace v1 := cellStay v1 hb2
                      replace v2 := cellStay v2 hb2
                      go_upto_if 189 with fail
                      go_cut [26] from 189 to 191 (fun _ wx => PickB wP wx b24 (nzB s (R 0)) (R 0) ∧ PickB wP wx b25 (nzB s (R 1)) (R 1))
                      case first => as_aux_lemma =>
                        have ⟨t0, t1, t2, m0, m1, m2⟩ := C0
                        cases pw
                        case' false =>
                          have e2 : R 1 = R 4 := by simpa using E1.out
                          go_wp2
                          go_meet
                          exact ⟨P0, by rw [e2]; exact ⟨⟨_, _, _, _, _, _, C0, uS, uT⟩, B.lc, hb2⟩⟩
                        case' true =>
                          have e2 : R 1 = R 3 := by simpa using E1.out
                          go_wp2
                          go_meet
                          exact ⟨P0.put B.lc B.ne _ _ _, by rw [e2]; exact pickB_set C0 B.lc hb2 vS vT⟩
                      case rest => as_aux_lemma =>
                        obtain ⟨P0', P1⟩ := hcut
                        have hb3 := P1.below
                        have K9 := K7.stay hb3
                        have zY := zX.stay hb3
                        obtain ⟨da, dk, dc, db, dl, dd, dX, dS, dT⟩ := P0'.box
                        obtain ⟨fa, fk, fc, fb, fl, fd, fX, fS, fT⟩ := P1.box
                        replace zS := zS.below hb3
                        replace zT := zT.below hb3
                        replace dS := dS.below hb3
                        replace dT := dT.below hb3
                        replace fS := fS.below hb3
                        replace fT := fT.below hb3
                        clear K7 hb2 hb3 P0 P0' P1 C0 B uS uT vS vT v0 v1 v2 x0 zX hn0 hn1
                        generalize wc = wT at *
                        obtain ⟨ga, gk, gc, gb, gl, gd, g0, g1, g2, gS, gT⟩ := ent_at 6 7 8 rfl rfl (K9.e 2 (by decide))
                        have ⟨t0, t1, t2, _, _, _⟩ := zY
                        go_wp2_with fail
                        with_reducible refine (cE wT _ _ _ _ _ _ _ _ _ _ _ _ _ _ gS gT zS zT).mono ?_
                        rintro en wU ⟨rfl, hbU⟩
                        have KU := K9.stay hbU
                        replace dX := dX.stay hbU
                        replace fX := fX.stay hbU
                        replace dS := dS.below hbU
                        replace dT := dT.below hbU
                        replace fS := fS.below hbU
                        replace fT := fT.below hbU
                        clear K9 zY zS zT g0 g1 g2 gS gT t0 t1 t2 hbU
                        obtain ⟨ha, hk, hc, hb, hl, hd, h0, h1, h2, hS, hT⟩ := ent_at 0 1 2 rfl rfl (KU.e 0 (by decide))
                        have ⟨t0, t1, t2, _, _, _⟩ := dX
                        go_wp2_with fail
                        with_reducible refine (cE wU _ _ _ _ _ _ _ _ _ _ _ _ _ _ hS hT dS dT).mono ?_
                        rintro en wV ⟨rfl, hbV⟩
                        have KV := KU.stay hbV
                        replace fX := fX.stay hbV
                        replace fS := fS.below hbV
                        replace fT := fT.below hbV
                        clear KU dX dS dT h0 h1 h2 hS hT t0 t1 t2 hbV
                        obtain ⟨ja, jk, jc, jb, jl, jd, j0, j1, j2, jS, jT⟩ := ent_at 3 4 5 rfl rfl (KV.e 1 (by decide))
                        have ⟨t0, t1, t2, _, _, _⟩ := fX
                        go_wp2_with fail
                        with_reducible refine (cE wV _ _ _ _ _ _ _ _ _ _ _ _ _ _ jS jT fS fT).mono ?_
                        rintro en wW ⟨rfl, hbW⟩
                        go_wp2
                        go_ret
                        exact ⟨by simp, next KV.v hbW⟩
  · have hv1 : askB 5 10 s xs ys n1 n2 = false := by simpa using ha
    rw [hv1]
    clear ha hv1
    go_wp2
    go_ret
    exact ⟨rfl, V5⟩

end Go.Proofs.YteoceoepakfgiaaGreatDoor
