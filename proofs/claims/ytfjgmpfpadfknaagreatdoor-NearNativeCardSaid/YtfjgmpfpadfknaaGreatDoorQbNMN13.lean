/-
  Plain: products, quotients, sums of fractions in lowest terms, as they are reckoned. No program in sight. Plain: signs, inverses and order of fractions as they are reckoned. No program in sight.
-/
import Derived.Test.YtfjgmpfpadfknaaGreatDoorQbNIntL
namespace Go.Lb
open Go.RowKit Go.Proofs.YtfjgmpfpadfknaaGreatDoor
def addZ (x y : Rat) : Int := x.num * ((y.den / Nat.gcd x.den y.den : Nat) : Int) + y.num * ((x.den / Nat.gcd x.den y.den : Nat) : Int)
theorem added_parts (x y : Rat) : (x + y).num.natAbs = (addZ x y).natAbs / Nat.gcd (addZ x y).natAbs (Nat.gcd x.den y.den) ∧ (x + y).den = x.den / Nat.gcd x.den y.den * (y.den / Nat.gcd (addZ x y).natAbs (Nat.gcd x.den y.den)) ∧ decide ((x + y).num < 0) = decide (addZ x y < 0) := by
 have hg : 0 < Nat.gcd x.den y.den := Nat.gcd_pos_of_pos_left _ x.den_pos
 have hE : x.den / Nat.gcd x.den y.den * y.den ≠ 0 := Nat.ne_of_gt (Nat.mul_pos (Nat.div_gcd_pos_of_pos_left _ x.den_pos) y.den_pos)
 have haux := Rat.add.aux x y (g := Nat.gcd x.den y.den) rfl rfl rfl
 have e : x + y = mkRat (addZ x y) (x.den / Nat.gcd x.den y.den * y.den) := by
  rw [Rat.add_def', ← Rat.mkRat_mul_right (n := addZ x y) (d := x.den / Nat.gcd x.den y.den * y.den) (a := Nat.gcd x.den y.den) (by omega)]
  have e1 : x.den / Nat.gcd x.den y.den * y.den * Nat.gcd x.den y.den = x.den * y.den := by
   rw [Nat.mul_right_comm, Nat.div_mul_cancel (Nat.gcd_dvd_left _ _)]
  rw [e1]
  congr 1
  unfold addZ
  rw [Int.add_mul, Int.mul_assoc, Int.mul_assoc, ← Int.natCast_mul, ← Int.natCast_mul, Nat.div_mul_cancel (Nat.gcd_dvd_right _ _), Nat.div_mul_cancel (Nat.gcd_dvd_left _ _)]
 obtain ⟨h1, h2, h3⟩ := mk_parts (addZ x y) hE
 rw [← e] at h1 h2 h3
 have haux' : (addZ x y).natAbs.gcd (Nat.gcd x.den y.den) = (addZ x y).natAbs.gcd (x.den / Nat.gcd x.den y.den * y.den) := haux
 rw [← haux'] at h1 h2
 refine ⟨h1, ?_, h3⟩
 rw [h2, Nat.mul_div_assoc]
 exact Nat.dvd_trans (Nat.gcd_dvd_right _ _) (Nat.gcd_dvd_right _ _)
theorem addZ_zero {x y : Rat} (h : addZ x y = 0) : x + y = 0 := by
 obtain ⟨h1, _, _⟩ := added_parts x y
 rw [h] at h1
 simpa using h1
theorem neg_sub_z (x y : Rat) : x - y = x + -y := Rat.sub_eq_add_neg x y
theorem sgv_times (s : Bool) (A B : Nat) : sgv s A * (B : Int) = sgv s (A * B) := by
 unfold sgv
 split
 · rw [Int.neg_mul, Int.natCast_mul]
 · rw [Int.natCast_mul]
theorem In.sign {e : TypeId} {w : World} {base b : Nat} {s : Bool} {ao : Option Addr} {k c N : Nat} (h : In e w base b s ao k c N) (s' : Bool) : In e (w.setCell ⟨b, 0, none⟩ (.bool s')) base b s' ao k c N := by
 refine ⟨World.cell?_setCell_same _ _ _ h.c0, ?_, by simp [h.z0], by simp [h.z1], ?_, h.ne, h.hb⟩
 · rw [World.cell?_setCell_other _ _ _ _ (by simp)]; exact h.c1
 · exact fr_at h.fr (by simp) (fun g hgb hgl => (grown_set w b 0 _).block g hgl (fun e => h.ne (by rw [hgb, e])))
theorem Ra.sign {e : TypeId} {w : World} {base b : Nat} {s : Bool} {N D : Nat} (h : Ra e w base b s N D) (s' : Bool) : Ra e (w.setCell ⟨b, 0, none⟩ (.bool s')) base b s' N D := by
 obtain ⟨⟨ao, k, c, hi⟩, ⟨ad, kd, cd, ds, h2, hf, hd, hn⟩, hz⟩ := h
 refine ⟨⟨ao, k, c, hi.sign s'⟩, ⟨ad, kd, cd, ds, ?_, ?_, hd, hn⟩, by simp [hz]⟩
 · rw [World.cell?_setCell_other _ _ _ _ (by simp)]; exact h2
 · exact fr_at hf (by simp) (fun g hgb hgl => (grown_set w b 0 _).block g hgl (fun e => hn (by rw [hgb, e])))
theorem StQ.undrew {e : TypeId} {b base : Nat} {q : Rat} {w w' : World} {en : Ending} (h : StQ e b base q w.drew en w') : StQ e b base q w en w' :=
 ⟨h.1, h.2.1, grown_trans (grown_below (Below.refl _ _).drew _) h.2.2⟩
theorem StQ.pre {e : TypeId} {b base : Nat} {q : Rat} {w w1 w' : World} {en : Ending} (h : StQ e b base q w1 en w') (hb : Below w.heap.size w w1) : StQ e b base q w en w' :=
 ⟨h.1, h.2.1, grown_trans (grown_below hb _) h.2.2⟩
theorem res_new (w : World) (t : TypeId) (u v x : Value) : Res3 (w.alloc (.cells #[u, v, x] t)) w.heap.size := Res3.ofs (x := u) (y := v) (z := x) (by simp) (by simp) (by simp) (by simp [go_sem]) (by simp [go_sem]) (by simp [go_sem])
theorem StQ.mk {e t : TypeId} {q : Rat} {w w' : World} {u v x : Value} {en : Ending} (h : StQ e w.heap.size w.heap.size q (w.alloc (.cells #[u, v, x] t)) en w') : MkQ e q w en w' := by
 obtain ⟨he, hq, hg⟩ := h
 have h1 := (Below.refl w.heap.size w).alloc (Nat.le_refl _) (.cells #[u, v, x] t)
 exact ⟨_, he, hq, h1.grown hg (by simp) (by simp)⟩
def Hd (e : TypeId) (w : World) (b : Nat) : Prop := ∀ cur, w.heap[b]? ≠ some (.cells cur e (0, 0))
theorem Hd.stay {e : TypeId} {w w' : World} {b : Nat} (h : Hd e w b) (hb : b < w.heap.size) (k : Below w.heap.size w w') : Hd e w' b := fun cur => by rw [k.block b hb]; exact h cur
theorem hd_new {e t : TypeId} (w : World) (cs : Array Value) (h : t ≠ e) : Hd e (w.alloc (.cells cs t)) w.heap.size := fun cur => by
 rw [heap_alloc_new]
 intro h2
 injection h2 with h2
 injection h2 with _ h3 _
 exact h h3
theorem fr_hd {e : TypeId} {w : World} {base b : Nat} {ao : Option Addr} {n c : Nat} {xs : List Nat} (hf : Fr e w base ao n c xs) (h : Hd e w b) : blkOf ao ≠ some b := by
 rcases hf.blk with ⟨rfl, _⟩ | ⟨g, cur, rfl, _, hh, _⟩
 · intro h2; cases h2
 · intro h2
   have : g = b := Option.some.inj h2
   subst this
   exact h cur hh
def cmpQ (x y : Rat) : Int := if x < y then -1 else if y < x then 1 else 0
theorem cmpQ_cross (x y : Rat) : cmpQ x y = if x.num * y.den < y.num * x.den then -1 else if y.num * x.den < x.num * y.den then 1 else 0 := by
 unfold cmpQ
 simp only [Rat.lt_iff]
theorem cmpQ_signs {x y : Rat} (h : x.num.sign ≠ y.num.sign ∨ x.num.sign = 0) : cmpQ x y = if x.num.sign < y.num.sign then -1 else if x.num.sign > y.num.sign then 1 else 0 := by
 rw [cmpQ_cross]
 have hx : (0 : Int) < x.den := by have := x.den_pos; omega
 have hy : (0 : Int) < y.den := by have := y.den_pos; omega
 generalize (x.den : Int) = X at *
 generalize (y.den : Int) = Y at *
 generalize x.num = a at *
 generalize y.num = c at *
 have key : (a * Y < 0 ↔ a < 0) ∧ (0 < a * Y ↔ 0 < a) ∧ (c * X < 0 ↔ c < 0) ∧ (0 < c * X ↔ 0 < c) := by
  refine ⟨⟨fun h => ?_, fun h => Int.mul_neg_of_neg_of_pos h hy⟩, ⟨fun h => ?_, fun h => Int.mul_pos h hy⟩, ⟨fun h => ?_, fun h => Int.mul_neg_of_neg_of_pos h hx⟩, ⟨fun h => ?_, fun h => Int.mul_pos h hx⟩⟩
  · rcases Int.lt_or_le a 0 with h1 | h1
    · exact h1
    · have := Int.mul_nonneg h1 (Int.le_of_lt hy); omega
  · rcases Int.lt_or_le 0 a with h1 | h1
    · exact h1
    · have := Int.mul_nonpos_of_nonpos_of_nonneg h1 (Int.le_of_lt hy); omega
  · rcases Int.lt_or_le c 0 with h1 | h1
    · exact h1
    · have := Int.mul_nonneg h1 (Int.le_of_lt hx); omega
  · rcases Int.lt_or_le 0 c with h1 | h1
    · exact h1
    · have := Int.mul_nonpos_of_nonpos_of_nonneg h1 (Int.le_of_lt hx); omega
 obtain ⟨k1, k2, k3, k4⟩ := key
 generalize a * Y = P at *
 generalize c * X = Q at *
 have sg : ∀ z : Int, (z < 0 ∧ z.sign = -1) ∨ (z = 0 ∧ z.sign = 0) ∨ (0 < z ∧ z.sign = 1) := fun z => by
  rcases Int.lt_trichotomy z 0 with h1 | h1 | h1
  · exact .inl ⟨h1, Int.sign_eq_neg_one_of_neg h1⟩
  · subst h1; exact .inr (.inl ⟨rfl, rfl⟩)
  · exact .inr (.inr ⟨h1, Int.sign_eq_one_of_pos h1⟩)
 have s1 := sg a
 have s2 := sg c
 clear sg
 generalize a.sign = u at *
 generalize c.sign = v at *
 rcases s1 with ⟨h1, rfl⟩ | ⟨h1, rfl⟩ | ⟨h1, rfl⟩ <;> rcases s2 with ⟨h2, rfl⟩ | ⟨h2, rfl⟩ | ⟨h2, rfl⟩
 all_goals (repeat' split) <;> first | rfl | omega
theorem cmpQ_sizes {x y : Rat} (hx : x.num ≠ 0) (hs : x.num.sign = y.num.sign) : cmpQ x y = if x.num < 0 then -cmpN (x.num.natAbs * y.den) (y.num.natAbs * x.den) else cmpN (x.num.natAbs * y.den) (y.num.natAbs * x.den) := by
 rw [cmpQ_cross]
 have sg : ∀ z : Int, (z < 0 ∧ z.sign = -1) ∨ (z = 0 ∧ z.sign = 0) ∨ (0 < z ∧ z.sign = 1) := fun z => by
  rcases Int.lt_trichotomy z 0 with h1 | h1 | h1
  · exact .inl ⟨h1, Int.sign_eq_neg_one_of_neg h1⟩
  · subst h1; exact .inr (.inl ⟨rfl, rfl⟩)
  · exact .inr (.inr ⟨h1, Int.sign_eq_one_of_pos h1⟩)
 have s1 := sg x.num
 have s2 := sg y.num
 clear sg
 generalize x.num = a at *
 generalize y.num = c at *
 generalize x.den = X at *
 generalize y.den = Y at *
 unfold cmpN
 by_cases hn : a < 0
 · have hc : c < 0 := by omega
   rw [if_pos hn]
   have e1 : a * (Y : Int) = -((a.natAbs * Y : Nat) : Int) := by
    rw [Int.natCast_mul, ← Int.neg_mul, show -((a.natAbs : Nat) : Int) = a by omega]
   have e2 : c * (X : Int) = -((c.natAbs * X : Nat) : Int) := by
    rw [Int.natCast_mul, ← Int.neg_mul, show -((c.natAbs : Nat) : Int) = c by omega]
   rw [e1, e2]
   generalize a.natAbs * Y = P
   generalize c.natAbs * X = Q
   (repeat' split) <;> omega
 · have hc : 0 < c := by omega
   rw [if_neg hn]
   have e1 : a * (Y : Int) = ((a.natAbs * Y : Nat) : Int) := by
    rw [Int.natCast_mul, show ((a.natAbs : Nat) : Int) = a by omega]
   have e2 : c * (X : Int) = ((c.natAbs * X : Nat) : Int) := by
    rw [Int.natCast_mul, show ((c.natAbs : Nat) : Int) = c by omega]
   rw [e1, e2]
   generalize a.natAbs * Y = P
   generalize c.natAbs * X = Q
   (repeat' split) <;> omega
def mdB (mode : Nat) (neg odd : Bool) (h : Int) : Bool :=
 if mode = 0 then decide (0 < h ∨ h = 0 ∧ odd = true) else if mode = 1 then decide (0 ≤ h) else if mode = 2 then false else if mode = 3 then !neg else neg
def rdN (N D : Nat) (neg : Bool) (mode : Nat) : Nat :=
 if N % D = 0 then N / D else N / D + (if mdB mode neg (decide (N / D % 2 = 1)) (cmpN (2 * (N % D)) D) = true then 1 else 0)
def scN (N : Nat) (k : Int) : Nat := N * 2 ^ k.toNat
def scD (D : Nat) (k : Int) : Nat := D * 2 ^ (-k).toNat
def blN (N : Nat) : Nat := szN (limbs N)
def lgE (N D : Nat) : Int :=
 if scN N (-((blN N : Int) - blN D)) < scD D (-((blN N : Int) - blN D)) then (blN N : Int) - blN D - 1 else (blN N : Int) - blN D
def bsN (E : Nat) : Nat := 2 ^ (E - 1) - 1
def lwE (E N D : Nat) : Int := max (lgE N D) (1 - (bsN E : Int))
def sgM (E F N D : Nat) (neg : Bool) (mode : Nat) : Nat := rdN (scN N (F - lwE E N D)) (scD D (F - lwE E N D)) neg mode
def sgB (E F N D : Nat) (neg : Bool) (mode : Nat) : Nat := sgM E F N D neg mode + (lwE E N D + bsN E - 1).toNat * 2 ^ F
def p2 (n : Int) : Rat := (2 : Rat) ^ n
theorem mk_len (z : Int) {D : Nat} (hD : D ≠ 0) : ln (mkRat z D).num.natAbs ≤ ln z.natAbs ∧ ln (mkRat z D).den ≤ ln D := by
 obtain ⟨h1, h2, _⟩ := mk_parts z hD
 rw [h1, h2]
 exact ⟨ln_mono (Nat.div_le_self _ _), ln_mono (Nat.div_le_self _ _)⟩
end Go.Lb
