/-
  Plain: products, quotients, sums of fractions in lowest terms, as they are reckoned. No program in sight. Plain: signs, inverses and order of fractions as they are reckoned. No program in sight.
-/
import Derived.Test.YtaddnoneoflimaaGreatDoorQbNIntL
import Derived.Test.YtaddnoneoflimaaGreatDoorQbNMN15
import Derived.Test.YtaddnoneoflimaaGreatDoorQbNRdD
namespace Go.Lb

open Go.RowKit Go.Proofs.YtaddnoneoflimaaGreatDoor

theorem gcd_cross {A B C D : Nat} (hAD : Nat.Coprime A D) (hBC : Nat.Coprime B C) (hC : 0 < C) (hD : 0 < D) : Nat.gcd (A * B) (D * C) = Nat.gcd A C * Nat.gcd B D := by
  have hg : 0 < Nat.gcd A C := Nat.gcd_pos_of_pos_right _ hC
  have hh : 0 < Nat.gcd B D := Nat.gcd_pos_of_pos_right _ hD
  have c1 := Nat.coprime_div_gcd_div_gcd hg
  have c2 := Nat.coprime_div_gcd_div_gcd hh
  obtain ⟨A', hA⟩ := Nat.gcd_dvd_left A C
  obtain ⟨C', hC'⟩ := Nat.gcd_dvd_right A C
  obtain ⟨B', hB⟩ := Nat.gcd_dvd_left B D
  obtain ⟨D', hD'⟩ := Nat.gcd_dvd_right B D
  generalize Nat.gcd A C = g at *
  generalize Nat.gcd B D = h at *
  subst hA hC' hB hD'
  rw [Nat.mul_div_cancel_left _ hg, Nat.mul_div_cancel_left _ hg] at c1
  rw [Nat.mul_div_cancel_left _ hh, Nat.mul_div_cancel_left _ hh] at c2
  have c3 : Nat.Coprime A' D' := (hAD.coprime_dvd_left (Nat.dvd_mul_left A' g)).coprime_dvd_right (Nat.dvd_mul_left D' h)
  have c4 : Nat.Coprime B' C' := (hBC.coprime_dvd_left (Nat.dvd_mul_left B' h)).coprime_dvd_right (Nat.dvd_mul_left C' g)
  have c5 : Nat.Coprime (A' * B') (D' * C') := Nat.coprime_mul_iff_left.2 ⟨Nat.coprime_mul_iff_right.2 ⟨c3, c1⟩, Nat.coprime_mul_iff_right.2 ⟨c2, c4⟩⟩
  have e1 : g * A' * (h * B') = g * h * (A' * B') := Nat.mul_mul_mul_comm ..
  have e2 : h * D' * (g * C') = g * h * (D' * C') := by rw [Nat.mul_mul_mul_comm, Nat.mul_comm h g]
  rw [e1, e2, Nat.gcd_mul_left]
  have : Nat.gcd (A' * B') (D' * C') = 1 := c5
  rw [this, Nat.mul_one]

theorem mk_sign (s : Bool) (M : Nat) {E : Nat} (hE : E ≠ 0) : decide ((mkRat (sgv s M) E).num < 0) = nzB s (mkRat (sgv s M) E).num.natAbs := by
  have h1 := (mk_parts (sgv s M) hE).2.2
  by_cases hM : M = 0
  · subst hM
    have : sgv s 0 = 0 := by cases s <;> rfl
    rw [this, Rat.zero_mkRat]
    cases s <;> rfl
  · have hz : (mkRat (sgv s M) E).num ≠ 0 := by
      intro h
      have h2 : mkRat (sgv s M) E = 0 := Rat.num_eq_zero.1 h
      have h3 := (Rat.mkRat_eq_zero hE).1 h2
      have h4 := (sgv_abs s M).1
      rw [h3] at h4
      exact hM h4.symm
    rw [h1, (sgv_abs s M).2]
    unfold nzB
    rw [decide_eq_true hM, decide_eq_true (by omega : (mkRat (sgv s M) E).num.natAbs ≠ 0)]

theorem times_parts (s : Bool) {A B C D : Nat} (hAD : Nat.Coprime A D) (hBC : Nat.Coprime B C) (hC : C ≠ 0) (hD : D ≠ 0) :
    (mkRat (sgv s (A * B)) (D * C)).num.natAbs = A / Nat.gcd A C * (B / Nat.gcd B D) ∧ (mkRat (sgv s (A * B)) (D * C)).den = D / Nat.gcd B D * (C / Nat.gcd A C) ∧ decide ((mkRat (sgv s (A * B)) (D * C)).num < 0) = nzB s (A / Nat.gcd A C * (B / Nat.gcd B D)) := by
  have hE : D * C ≠ 0 := Nat.mul_ne_zero hD hC
  obtain ⟨h1, h2, h3⟩ := mk_parts (sgv s (A * B)) hE
  rw [(sgv_abs s (A * B)).1, gcd_cross hAD hBC (Nat.pos_of_ne_zero hC) (Nat.pos_of_ne_zero hD)] at h1 h2
  have e1 : A * B / (Nat.gcd A C * Nat.gcd B D) = A / Nat.gcd A C * (B / Nat.gcd B D) := (Nat.div_mul_div_comm (Nat.gcd_dvd_left A C) (Nat.gcd_dvd_left B D)).symm
  have e2 : D * C / (Nat.gcd A C * Nat.gcd B D) = D / Nat.gcd B D * (C / Nat.gcd A C) := by
    rw [Nat.mul_comm (Nat.gcd A C), (Nat.div_mul_div_comm (Nat.gcd_dvd_right B D) (Nat.gcd_dvd_right A C)).symm]
  rw [e1] at h1
  rw [e2] at h2
  refine ⟨h1, h2, ?_⟩
  rw [mk_sign s _ hE, h1]

theorem rat_cop (q : Rat) : Nat.Coprime q.num.natAbs q.den := q.reduced

theorem mul_mk (x y : Rat) : mkRat (sgv (decide (x.num < 0) != decide (y.num < 0)) (x.num.natAbs * y.num.natAbs)) (x.den * y.den) = x * y := by
  rw [Rat.mul_def']
  congr 1
  have h := sgn_mul x.num y.num
  rw [← sgv_of (x.num * y.num), ← h.1, ← h.2]
  unfold sgv nzB
  by_cases h0 : x.num.natAbs * y.num.natAbs = 0
  · rw [h0]; simp
  · rw [decide_eq_true h0, Bool.and_true]

/-- A sum: what is added above the lines, g having gone into what is below them. -/
def addZ (x y : Rat) : Int := x.num * ((y.den / Nat.gcd x.den y.den : Nat) : Int) + y.num * ((x.den / Nat.gcd x.den y.den : Nat) : Int)

theorem added_parts (x y : Rat) : (x + y).num.natAbs = (addZ x y).natAbs / Nat.gcd (addZ x y).natAbs (Nat.gcd x.den y.den) ∧ (x + y).den = x.den / Nat.gcd x.den y.den * (y.den / Nat.gcd (addZ x y).natAbs (Nat.gcd x.den y.den)) ∧ decide ((x + y).num < 0) = decide (addZ x y < 0) := by
  have hg : 0 < Nat.gcd x.den y.den := Nat.gcd_pos_of_pos_left _ x.den_pos
  have hE : x.den / Nat.gcd x.den y.den * y.den ≠ 0 := Nat.ne_of_gt (Nat.mul_pos (Nat.div_gcd_pos_of_pos_left _ x.den_pos) y.den_pos)
  have haux := Rat.add.aux x y (g := Nat.gcd x.den y.den) rfl rfl rfl
  have e : x + y = mkRat (addZ x y) (x.den / Nat.gcd x.den y.den * y.den) := by
    rw [Rat.add_def', ← Rat.mkRat_mul_right (n := addZ x y) (d := x.den / Nat.gcd x.den y.den * y.den) (a := Nat.gcd x.den y.den) (by omega)]
    have e1 : x.den / Nat.gcd x.den y.den * y.den * Nat.gcd x.den y.den = x.den * y.den := by
      rw [Nat.mul_right_comm, Nat.div_mul_cancel (Nat.gcd_dvd_left _ _)]
    rw [e1]
    congr 1
    unfold addZ
    rw [Int.add_mul, Int.mul_assoc, Int.mul_assoc, ← Int.natCast_mul, ← Int.natCast_mul, Nat.div_mul_cancel (Nat.gcd_dvd_right _ _), Nat.div_mul_cancel (Nat.gcd_dvd_left _ _)]
  obtain ⟨h1, h2, h3⟩ := mk_parts (addZ x y) hE
  rw [← e] at h1 h2 h3
  have haux' : (addZ x y).natAbs.gcd (Nat.gcd x.den y.den) = (addZ x y).natAbs.gcd (x.den / Nat.gcd x.den y.den * y.den) := haux
  rw [← haux'] at h1 h2
  refine ⟨h1, ?_, h3⟩
  rw [h2, Nat.mul_div_assoc]
  exact Nat.dvd_trans (Nat.gcd_dvd_right _ _) (Nat.gcd_dvd_right _ _)

theorem addZ_zero {x y : Rat} (h : addZ x y = 0) : x + y = 0 := by
  obtain ⟨h1, _, _⟩ := added_parts x y
  rw [h] at h1
  simpa using h1

theorem neg_sub_z (x y : Rat) : x - y = x + -y := Rat.sub_eq_add_neg x y

end Go.Lb

namespace Go.Lb

open Go.RowKit Go.Proofs.YtaddnoneoflimaaGreatDoor

theorem inv_parts {x : Rat} (hx : x ≠ 0) : (x⁻¹).den = x.num.natAbs ∧ (x⁻¹).num.natAbs = x.den ∧ decide ((x⁻¹).num < 0) = decide (x.num < 0) := by
  have hn : x.num ≠ 0 := fun h => hx (Rat.num_eq_zero.1 h)
  have hd := x.den_pos
  refine ⟨by rw [Rat.den_inv, if_neg hn], by rw [Rat.num_inv, Int.natAbs_mul, Int.natAbs_natCast, Int.natAbs_sign, if_neg hn, Nat.one_mul], ?_⟩
  rw [Rat.num_inv]
  rcases Int.lt_or_le x.num 0 with h | h
  · rw [Int.sign_eq_neg_one_of_neg h, decide_eq_true h, decide_eq_true (by omega)]
  · rw [Int.sign_eq_one_of_pos (by omega), decide_eq_false (by omega), decide_eq_false (by omega)]

theorem sgv_times (s : Bool) (A B : Nat) : sgv s A * (B : Int) = sgv s (A * B) := by
  unfold sgv
  split
  · rw [Int.neg_mul, Int.natCast_mul]
  · rw [Int.natCast_mul]

/-- A number's size. -/
def absR (x : Rat) : Rat := if x.num < 0 then -x else x

theorem absR_parts (x : Rat) : (absR x).num.natAbs = x.num.natAbs ∧ (absR x).den = x.den ∧ decide ((absR x).num < 0) = false := by
  unfold absR
  split
  · refine ⟨by rw [Rat.neg_num, Int.natAbs_neg], rfl, decide_eq_false ?_⟩
    rw [Rat.neg_num]; omega
  · exact ⟨rfl, rfl, decide_eq_false (by omega)⟩

/-- The sign's cell was written. -/
theorem In.sign {e : TypeId} {w : World} {base b : Nat} {s : Bool} {ao : Option Addr} {k c N : Nat} (h : In e w base b s ao k c N) (s' : Bool) : In e (w.setCell ⟨b, 0, none⟩ (.bool s')) base b s' ao k c N := by
  refine ⟨World.cell?_setCell_same _ _ _ h.c0, ?_, by simp [h.z0], by simp [h.z1], ?_, h.ne, h.hb⟩
  · rw [World.cell?_setCell_other _ _ _ _ (by simp)]; exact h.c1
  · exact fr_at h.fr (by simp) (fun g hgb hgl => (grown_set w b 0 _).block g hgl (fun e => h.ne (by rw [hgb, e])))

theorem Ra.sign {e : TypeId} {w : World} {base b : Nat} {s : Bool} {N D : Nat} (h : Ra e w base b s N D) (s' : Bool) : Ra e (w.setCell ⟨b, 0, none⟩ (.bool s')) base b s' N D := by
  obtain ⟨⟨ao, k, c, hi⟩, ⟨ad, kd, cd, ds, h2, hf, hd, hn⟩, hz⟩ := h
  refine ⟨⟨ao, k, c, hi.sign s'⟩, ⟨ad, kd, cd, ds, ?_, ?_, hd, hn⟩, by simp [hz]⟩
  · rw [World.cell?_setCell_other _ _ _ _ (by simp)]; exact h2
  · exact fr_at hf (by simp) (fun g hgb hgl => (grown_set w b 0 _).block g hgl (fun e => hn (by rw [hgb, e])))

theorem StQ.pre {e : TypeId} {b base : Nat} {q : Rat} {w w1 w' : World} {en : Ending} (h : StQ e b base q w1 en w') (hb : Below w.heap.size w w1) : StQ e b base q w en w' :=
  ⟨h.1, h.2.1, grown_trans (grown_below hb _) h.2.2⟩

/-- A new fraction in cells. -/
theorem res_new (w : World) (t : TypeId) (u v x : Value) : Res3 (w.alloc (.cells #[u, v, x] t)) w.heap.size := Res3.ofs (x := u) (y := v) (z := x) (by simp) (by simp) (by simp) (by simp [go_sem]) (by simp [go_sem]) (by simp [go_sem])

/-- No block of words. -/
def Hd (e : TypeId) (w : World) (b : Nat) : Prop := ∀ cur, w.heap[b]? ≠ some (.cells cur e (0, 0))

theorem Hd.stay {e : TypeId} {w w' : World} {b : Nat} (h : Hd e w b) (hb : b < w.heap.size) (k : Below w.heap.size w w') : Hd e w' b := fun cur => by rw [k.block b hb]; exact h cur

theorem hd_new {e t : TypeId} (w : World) (cs : Array Value) (h : t ≠ e) : Hd e (w.alloc (.cells cs t)) w.heap.size := fun cur => by
  rw [heap_alloc_new]
  intro h2
  injection h2 with h2
  injection h2 with _ h3 _
  exact h h3

theorem fr_hd {e : TypeId} {w : World} {base b : Nat} {ao : Option Addr} {n c : Nat} {xs : List Nat} (hf : Fr e w base ao n c xs) (h : Hd e w b) : blkOf ao ≠ some b := by
  rcases hf.blk with ⟨rfl, _⟩ | ⟨g, cur, rfl, _, hh, _⟩
  · intro h2; cases h2
  · intro h2
    have : g = b := Option.some.inj h2
    subst this
    exact h cur hh

def cmpQ (x y : Rat) : Int := if x < y then -1 else if y < x then 1 else 0

theorem cmpQ_cross (x y : Rat) : cmpQ x y = if x.num * y.den < y.num * x.den then -1 else if y.num * x.den < x.num * y.den then 1 else 0 := by
  unfold cmpQ
  simp only [Rat.lt_iff]

/-- Of two with unlike signs, the signs tell. -/
theorem cmpQ_signs {x y : Rat} (h : x.num.sign ≠ y.num.sign ∨ x.num.sign = 0) : cmpQ x y = if x.num.sign < y.num.sign then -1 else if x.num.sign > y.num.sign then 1 else 0 := by
  rw [cmpQ_cross]
  have hx : (0 : Int) < x.den := by have := x.den_pos; omega
  have hy : (0 : Int) < y.den := by have := y.den_pos; omega
  generalize (x.den : Int) = X at *
  generalize (y.den : Int) = Y at *
  generalize x.num = a at *
  generalize y.num = c at *
  have key : (a * Y < 0 ↔ a < 0) ∧ (0 < a * Y ↔ 0 < a) ∧ (c * X < 0 ↔ c < 0) ∧ (0 < c * X ↔ 0 < c) := by
    refine ⟨⟨fun h => ?_, fun h => Int.mul_neg_of_neg_of_pos h hy⟩, ⟨fun h => ?_, fun h => Int.mul_pos h hy⟩, ⟨fun h => ?_, fun h => Int.mul_neg_of_neg_of_pos h hx⟩, ⟨fun h => ?_, fun h => Int.mul_pos h hx⟩⟩
    · rcases Int.lt_or_le a 0 with h1 | h1
      · exact h1
      · have := Int.mul_nonneg h1 (Int.le_of_lt hy); omega
    · rcases Int.lt_or_le 0 a with h1 | h1
      · exact h1
      · have := Int.mul_nonpos_of_nonpos_of_nonneg h1 (Int.le_of_lt hy); omega
    · rcases Int.lt_or_le c 0 with h1 | h1
      · exact h1
      · have := Int.mul_nonneg h1 (Int.le_of_lt hx); omega
    · rcases Int.lt_or_le 0 c with h1 | h1
      · exact h1
      · have := Int.mul_nonpos_of_nonpos_of_nonneg h1 (Int.le_of_lt hx); omega
  obtain ⟨k1, k2, k3, k4⟩ := key
  generalize a * Y = P at *
  generalize c * X = Q at *
  have sg : ∀ z : Int, (z < 0 ∧ z.sign = -1) ∨ (z = 0 ∧ z.sign = 0) ∨ (0 < z ∧ z.sign = 1) := fun z => by
    rcases Int.lt_trichotomy z 0 with h1 | h1 | h1
    · exact .inl ⟨h1, Int.sign_eq_neg_one_of_neg h1⟩
    · subst h1; exact .inr (.inl ⟨rfl, rfl⟩)
    · exact .inr (.inr ⟨h1, Int.sign_eq_one_of_pos h1⟩)
  have s1 := sg a
  have s2 := sg c
  clear sg
  generalize a.sign = u at *
  generalize c.sign = v at *
  rcases s1 with ⟨h1, rfl⟩ | ⟨h1, rfl⟩ | ⟨h1, rfl⟩ <;> rcases s2 with ⟨h2, rfl⟩ | ⟨h2, rfl⟩ | ⟨h2, rfl⟩
  all_goals (repeat' split) <;> first | rfl | omega

/-- Of two with like signs, not nought, their sizes tell. -/
theorem cmpQ_sizes {x y : Rat} (hx : x.num ≠ 0) (hs : x.num.sign = y.num.sign) : cmpQ x y = if x.num < 0 then -cmpN (x.num.natAbs * y.den) (y.num.natAbs * x.den) else cmpN (x.num.natAbs * y.den) (y.num.natAbs * x.den) := by
  rw [cmpQ_cross]
  have sg : ∀ z : Int, (z < 0 ∧ z.sign = -1) ∨ (z = 0 ∧ z.sign = 0) ∨ (0 < z ∧ z.sign = 1) := fun z => by
    rcases Int.lt_trichotomy z 0 with h1 | h1 | h1
    · exact .inl ⟨h1, Int.sign_eq_neg_one_of_neg h1⟩
    · subst h1; exact .inr (.inl ⟨rfl, rfl⟩)
    · exact .inr (.inr ⟨h1, Int.sign_eq_one_of_pos h1⟩)
  have s1 := sg x.num
  have s2 := sg y.num
  clear sg
  generalize x.num = a at *
  generalize y.num = c at *
  generalize x.den = X at *
  generalize y.den = Y at *
  unfold cmpN
  by_cases hn : a < 0
  · have hc : c < 0 := by omega
    rw [if_pos hn]
    have e1 : a * (Y : Int) = -((a.natAbs * Y : Nat) : Int) := by
      rw [Int.natCast_mul, ← Int.neg_mul, show -((a.natAbs : Nat) : Int) = a by omega]
    have e2 : c * (X : Int) = -((c.natAbs * X : Nat) : Int) := by
      rw [Int.natCast_mul, ← Int.neg_mul, show -((c.natAbs : Nat) : Int) = c by omega]
    rw [e1, e2]
    generalize a.natAbs * Y = P
    generalize c.natAbs * X = Q
    (repeat' split) <;> omega
  · have hc : 0 < c := by omega
    rw [if_neg hn]
    have e1 : a * (Y : Int) = ((a.natAbs * Y : Nat) : Int) := by
      rw [Int.natCast_mul, show ((a.natAbs : Nat) : Int) = a by omega]
    have e2 : c * (X : Int) = ((c.natAbs * X : Nat) : Int) := by
      rw [Int.natCast_mul, show ((c.natAbs : Nat) : Int) = c by omega]
    rw [e1, e2]
    generalize a.natAbs * Y = P
    generalize c.natAbs * X = Q
    (repeat' split) <;> omega

end Go.Lb

/-
  Plain: powers of two as fractions; products with them. No program in sight. Plain: the reference's roundings of fractions, said by RndL's words. No program in sight.
-/
namespace Go.Lb

open Go.RowKit Go.Proofs.YtaddnoneoflimaaGreatDoor

/-- 2 to the power of n. -/
def p2 (n : Int) : Rat := (2 : Rat) ^ n

theorem p2_nat (k : Nat) : p2 (k : Int) = ((2 ^ k : Nat) : Rat) := by
  unfold p2
  rw [Rat.zpow_natCast, Rat.natCast_pow]
  rfl

theorem p2_neg (n : Int) : p2 (-n) = (p2 n)⁻¹ := Rat.zpow_neg 2 n

theorem p2_add (m n : Int) : p2 (m + n) = p2 m * p2 n := Rat.zpow_add (by decide) m n

theorem p2_pos (n : Int) : 0 < p2 n := Rat.zpow_pos (by decide)

theorem p2_ne (n : Int) : p2 n ≠ 0 := Rat.ne_of_gt (p2_pos n)

theorem p2_parts (n : Int) : (p2 n).num = ((2 ^ n.toNat : Nat) : Int) ∧ (p2 n).den = 2 ^ (-n).toNat := by
  rcases Int.lt_or_le n 0 with h | h
  · obtain ⟨k, hk⟩ : ∃ k : Nat, n = -(k : Int) := ⟨(-n).toNat, by omega⟩
    have hk1 : k ≠ 0 := by omega
    have hp := Nat.two_pow_pos k
    have e1 : (-(-(k : Int))).toNat = k := by omega
    have e2 : (-(k : Int)).toNat = 0 := by omega
    have hn : ((2 ^ k : Nat) : Rat).num = ((2 ^ k : Nat) : Int) := Rat.num_natCast _
    have hd : ((2 ^ k : Nat) : Rat).den = 1 := Rat.den_natCast _
    rw [hk, e1, e2, p2_neg, p2_nat, Rat.num_inv, Rat.den_inv, hn, hd]
    generalize (2 : Nat) ^ k = P at *
    refine ⟨by rw [Int.sign_eq_one_of_pos (by omega)]; rfl, by rw [if_neg (by omega), Int.natAbs_natCast]⟩
  · obtain ⟨k, rfl⟩ : ∃ k : Nat, n = (k : Int) := ⟨n.toNat, by omega⟩
    rw [p2_nat, Int.toNat_natCast, show (-(k : Int)).toNat = 0 by omega]
    exact ⟨Rat.num_natCast _, Rat.den_natCast _⟩

/-- A fraction made of two numbers reads across as they do. -/
theorem mk_cross (z : Int) {D : Nat} (hD : D ≠ 0) : (mkRat z D).num.natAbs * D = z.natAbs * (mkRat z D).den := by
  obtain ⟨h1, h2, _⟩ := mk_parts z hD
  have hg := Nat.gcd_pos_of_pos_right z.natAbs (Nat.pos_of_ne_zero hD)
  have e1 := Nat.div_mul_cancel (Nat.gcd_dvd_left z.natAbs D)
  have e2 := Nat.div_mul_cancel (Nat.gcd_dvd_right z.natAbs D)
  rw [h1, h2]
  generalize z.natAbs / Nat.gcd z.natAbs D = a at *
  generalize D / Nat.gcd z.natAbs D = b at *
  generalize Nat.gcd z.natAbs D = g at *
  rw [← e1, ← e2]
  simp only [Nat.mul_comm, Nat.mul_left_comm]

theorem mk_len (z : Int) {D : Nat} (hD : D ≠ 0) : ln (mkRat z D).num.natAbs ≤ ln z.natAbs ∧ ln (mkRat z D).den ≤ ln D := by
  obtain ⟨h1, h2, _⟩ := mk_parts z hD
  rw [h1, h2]
  exact ⟨ln_mono (Nat.div_le_self _ _), ln_mono (Nat.div_le_self _ _)⟩

theorem mul_p2 (x : Rat) (k : Int) : x * p2 k = mkRat (x.num * ((2 ^ k.toNat : Nat) : Int)) (scD x.den k) := by
  rw [Rat.mul_def', (p2_parts k).1, (p2_parts k).2]
  rfl

/-- x times 2^k, across. -/
theorem mul_cross (x : Rat) (k : Int) : (x * p2 k).num.natAbs * scD x.den k = scN x.num.natAbs k * (x * p2 k).den := by
  have hD : scD x.den k ≠ 0 := Nat.ne_of_gt (scD_pos x.den_pos k)
  have h := mk_cross (x.num * ((2 ^ k.toNat : Nat) : Int)) hD
  rw [mul_p2, h, Int.natAbs_mul, Int.natAbs_natCast]
  rfl

theorem mul_sign {x : Rat} (h : 0 ≤ x) (k : Int) : 0 ≤ x * p2 k := Rat.mul_nonneg h (Rat.le_of_lt (p2_pos k))

theorem ln_p2 (k : Nat) : ln (2 ^ k) ≤ k / 32 + 1 := ln_two k

theorem mul_len (x : Rat) (k : Int) : ln (x * p2 k).num.natAbs ≤ ln x.num.natAbs + (k.toNat / 32 + 1) ∧ ln (x * p2 k).den ≤ ln x.den + ((-k).toNat / 32 + 1) := by
  have hD : scD x.den k ≠ 0 := Nat.ne_of_gt (scD_pos x.den_pos k)
  obtain ⟨h1, h2⟩ := mk_len (x.num * ((2 ^ k.toNat : Nat) : Int)) hD
  rw [mul_p2]
  rw [Int.natAbs_mul, Int.natAbs_natCast] at h1
  refine ⟨Nat.le_trans h1 (Nat.le_trans (ln_mul _ _) ?_), Nat.le_trans h2 (Nat.le_trans (ln_mul _ _) ?_)⟩
  · have := ln_p2 k.toNat; omega
  · have := ln_p2 (-k).toNat; omega

/-- Rounding x times 2^k. -/
theorem rd_mul (x : Rat) (k : Int) (neg : Bool) (m : Nat) : rdN (x * p2 k).num.natAbs (x * p2 k).den neg m = rdN (scN x.num.natAbs k) (scD x.den k) neg m :=
  rd_same (Rat.den_pos _) (scD_pos x.den_pos k) (mul_cross x k) neg m

/-- How 2^e stands to x. -/
theorem cmp_p2 {x : Rat} (hx : 0 < x) (e : Int) : (0 < cmpQ (p2 e) x) ↔ scN x.num.natAbs (-e) < scD x.den (-e) := by
  have hn : 0 < x.num := by
    have := Rat.num_nonneg.2 (Rat.le_of_lt hx)
    have h0 : x.num ≠ 0 := fun h => Rat.ne_of_gt hx (Rat.num_eq_zero.1 h)
    omega
  obtain ⟨h1, h2⟩ := p2_parts e
  rw [cmpQ_cross, h1, h2]
  unfold scN scD
  rw [Int.neg_neg]
  have e1 : x.num = ((x.num.natAbs : Nat) : Int) := by omega
  rw [e1, Int.natAbs_natCast]
  generalize x.num.natAbs = N
  generalize x.den = D
  generalize 2 ^ e.toNat = A
  generalize 2 ^ (-e).toNat = B
  rw [show ((A : Nat) : Int) * ((D : Nat) : Int) = ((A * D : Nat) : Int) by simp, show ((N : Nat) : Int) * ((B : Nat) : Int) = ((N * B : Nat) : Int) by simp, Nat.mul_comm A D]
  generalize D * A = P
  generalize N * B = Q
  (repeat' split) <;> omega

end Go.Lb

namespace Go.Lb

open Go.RowKit Go.Proofs.YtaddnoneoflimaaGreatDoor

theorem cmpQ_scale (x y : Rat) (k : Int) : cmpQ (x * p2 k) (y * p2 k) = cmpQ x y := by
  unfold cmpQ
  have hp := p2_pos k
  simp only [Rat.mul_lt_mul_right hp]

theorem cmpQ_nat (a b : Nat) : cmpQ ((a : Int) : Rat) ((b : Int) : Rat) = cmpN a b := by
  unfold cmpQ cmpN
  simp only [Rat.intCast_lt_intCast, Int.ofNat_lt]

theorem cmpQ_zero (x y : Rat) : cmpQ x y = 0 ↔ x = y := by
  unfold cmpQ
  constructor
  · intro h
    by_cases h1 : x < y
    · rw [if_pos h1] at h; omega
    · by_cases h2 : y < x
      · rw [if_neg h1, if_pos h2] at h; omega
      · exact Rat.le_antisymm (Rat.not_lt.1 h2) (Rat.not_lt.1 h1)
  · rintro rfl
    rw [if_neg Rat.lt_irrefl, if_neg Rat.lt_irrefl]

theorem p2_zero : p2 0 = 1 := Rat.zpow_zero 2

theorem p2_back (n : Int) : p2 n * p2 (-n) = 1 := by rw [← p2_add, Int.add_right_neg, p2_zero]

theorem p2_cast (k : Nat) : p2 (k : Int) = (((2 ^ k : Nat) : Int) : Rat) := by rw [p2_nat]; rfl

/-- x is n times 2^k just where x times 2^-k is n. -/
theorem scale_iff (x : Rat) (n : Rat) (k : Int) : n * p2 k = x ↔ n = x * p2 (-k) := by
  constructor
  · rintro rfl
    rw [Rat.mul_assoc, p2_back, Rat.mul_one]
  · rintro rfl
    have := p2_back (-k)
    rw [Int.neg_neg] at this
    rw [Rat.mul_assoc, this, Rat.mul_one]

/-- A fraction of two numbers is whole just where the one goes into the other. -/
theorem mk_whole (M N : Nat) {D : Nat} (hD : D ≠ 0) : ((M : Int) : Rat) = mkRat (N : Int) D ↔ N = M * D := by
  rw [show ((M : Int) : Rat) = mkRat (M : Int) 1 from (Rat.mkRat_self ((M : Int) : Rat)).symm, Rat.mkRat_eq_iff (by decide) hD]
  constructor
  · intro h
    have : ((M * D : Nat) : Int) = ((N * 1 : Nat) : Int) := by simpa using h
    omega
  · rintro rfl
    simp

theorem pos_num {a : Rat} (ha : 0 ≤ a) : a.num = ((a.num.natAbs : Nat) : Int) := by have := Rat.num_nonneg.2 ha; omega

theorem mul_p2_nat {a : Rat} (ha : 0 ≤ a) (k : Int) : a * p2 k = mkRat ((scN a.num.natAbs k : Nat) : Int) (scD a.den k) := by
  rw [mul_p2]
  congr 1
  rw [pos_num ha, Int.natAbs_natCast]
  unfold scN
  simp

/-- Is the rounded number the number itself? -/
theorem rd_exact {a : Rat} (ha : 0 ≤ a) (k : Int) (neg : Bool) (m : Nat) :
    (((rdN (scN a.num.natAbs k) (scD a.den k) neg m : Nat) : Int) : Rat) * p2 (-k) = a ↔ exB (scN a.num.natAbs k) (scD a.den k) = true := by
  have hD : scD a.den k ≠ 0 := Nat.ne_of_gt (scD_pos a.den_pos k)
  rw [scale_iff, Int.neg_neg, mul_p2_nat ha, mk_whole _ _ hD]
  generalize scN a.num.natAbs k = N
  generalize scD a.den k = D at *
  unfold exB
  rw [decide_eq_true_iff]
  constructor
  · intro h
    rw [h]
    exact Nat.mul_mod_left _ _
  · intro h
    unfold rdN
    rw [if_pos h]
    exact (Nat.div_mul_cancel (Nat.dvd_of_mod_eq_zero h)).symm

/-- Two whole numbers times powers of two, one beside the other. -/
theorem cmp_two (a b : Nat) (i j : Int) : cmpQ (((a : Int) : Rat) * p2 i) (((b : Int) : Rat) * p2 j) = cmpN (a * 2 ^ (i - j).toNat) (b * 2 ^ (j - i).toNat) := by
  have key : ∀ (a : Nat) (i l : Int), l ≤ i → ((a : Int) : Rat) * p2 i = (((a * 2 ^ (i - l).toNat : Nat) : Int) : Rat) * p2 l := fun a i l h => by
    have e : i = ((i - l).toNat : Int) + l := by omega
    conv => lhs; rw [e]
    rw [p2_add, p2_cast, ← Rat.mul_assoc, ← Rat.intCast_mul]
    simp
  have h1 := key a i (min i j) (by omega)
  have h2 := key b j (min i j) (by omega)
  rw [h1, h2, cmpQ_scale, cmpQ_nat, show (i - min i j).toNat = (i - j).toNat by omega, show (j - min i j).toNat = (j - i).toNat by omega]

theorem cmp_one (a : Nat) (i j : Int) : cmpQ (((a : Int) : Rat) * p2 i) (p2 j) = cmpN (a * 2 ^ (i - j).toNat) (2 ^ (j - i).toNat) := by
  have h := cmp_two a 1 i j
  rw [show (((1 : Nat) : Int) : Rat) = 1 from rfl, Rat.one_mul, Nat.one_mul] at h
  exact h

theorem cmpN_neg (a b : Nat) : cmpN a b < 0 ↔ a < b := by unfold cmpN; (repeat' split) <;> omega

theorem cmpN_pos (a b : Nat) : 0 < cmpN a b ↔ b < a := by unfold cmpN; (repeat' split) <;> omega

theorem bl_iff {K : Nat} (h : K ≠ 0) (n : Nat) : blN K ≤ n ↔ K < 2 ^ n := by
  obtain ⟨h1, h2, h3⟩ := bl_spec h
  constructor
  · intro hn
    exact Nat.lt_of_lt_of_le h3 (Nat.pow_le_pow_right (by decide) hn)
  · intro hn
    have := (Nat.pow_lt_pow_iff_right (a := 2) (by decide)).1 (Nat.lt_of_le_of_lt h2 hn)
    omega

/-- Is it tiny? -/
theorem tiny_iff {E F N D : Nat} (hN : N ≠ 0) (hD : D ≠ 0) (neg : Bool) (m : Nat) :
    cmpQ (((sgK F N D neg m : Int)) * p2 (lgE N D - F)) (p2 (1 - (bsN E : Int))) < 0 ↔ tiny E F N D neg m = true := by
  obtain ⟨h1, h2⟩ := sgK_bounds (F := F) hN hD neg m
  rw [cmp_one, cmpN_neg]
  unfold tiny
  rw [decide_eq_true_iff]
  have hK0 : sgK F N D neg m ≠ 0 := by have := Nat.two_pow_pos F; omega
  rw [bl_iff hK0]
  generalize sgK F N D neg m = K at *
  generalize lgE N D = e at *
  generalize bsN E = bs at *
  rcases Int.lt_or_le e (1 - (bs : Int)) with h | h
  · obtain ⟨s, hs⟩ : ∃ s : Nat, 1 - (bs : Int) - e = ((s + 1 : Nat) : Int) := ⟨(1 - (bs : Int) - e - 1).toNat, by omega⟩
    have z1 : (e - F - (1 - (bs : Int))).toNat = 0 := by omega
    have z2 : (1 - (bs : Int) - (e - F)).toNat = F + 1 + s := by omega
    rw [z1, z2, Nat.pow_zero, Nat.mul_one]
    by_cases hs0 : s = 0
    · subst hs0
      constructor
      · intro hk; exact ⟨h, .inr hk⟩
      · rintro ⟨_, hk | hk⟩
        · omega
        · exact hk
    · have : 2 ^ (F + 1) < 2 ^ (F + 1 + s) := Nat.pow_lt_pow_right (by decide) (by omega)
      exact ⟨fun _ => ⟨h, .inl (by omega)⟩, fun _ => by omega⟩
  · constructor
    · intro hk
      exfalso
      rcases Int.lt_or_le (e - F) (1 - (bs : Int)) with h3 | h3
      · have z1 : (e - F - (1 - (bs : Int))).toNat = 0 := by omega
        have z2 : (1 - (bs : Int) - (e - F)).toNat ≤ F := by omega
        rw [z1, Nat.pow_zero, Nat.mul_one] at hk
        have := Nat.pow_le_pow_right (n := 2) (by decide) z2
        omega
      · have z2 : (1 - (bs : Int) - (e - F)).toNat = 0 := by omega
        rw [z2] at hk
        have := Nat.mul_pos (Nat.pos_of_ne_zero hK0) (Nat.two_pow_pos (e - F - (1 - (bs : Int))).toNat)
        omega
    · rintro ⟨hk, _⟩
      omega

/-- Is it beyond the greatest float? -/
theorem over_iff {E F N D : Nat} (hE : 2 ≤ E) (hN : N ≠ 0) (hD : D ≠ 0) (neg : Bool) (m : Nat) :
    0 < cmpQ (((sgM E F N D neg m : Int)) * p2 (lwE E N D - F)) ((((2 ^ (F + 1) - 1 : Nat) : Int) : Rat) * p2 ((bsN E : Int) - F)) ↔ ovB E F N D neg m = true := by
  have hle := sg_le (E := E) (F := F) hN hD neg m
  have hge : lwE E N D = lgE N D → 2 ^ F ≤ sgM E F N D neg m := fun h => sg_ge hN hD neg m h
  have hlc := lw_cases E N D
  have hlg := lw_ge E N D
  have hb : 2 ^ (E + F) = (2 * bsN E + 2) * 2 ^ F ∧ 1 ≤ bsN E := by
    unfold bsN
    obtain ⟨e, rfl⟩ : ∃ e, E = e + 2 := ⟨E - 2, by omega⟩
    have h0 := Nat.two_pow_pos e
    have h1 : 2 ^ (e + 2 - 1) = 2 * 2 ^ e := by rw [show e + 2 - 1 = e + 1 by omega, Nat.pow_succ]; omega
    have h2 : 2 ^ (e + 2 + F) = 4 * 2 ^ e * 2 ^ F := by rw [Nat.pow_add, Nat.pow_add, Nat.mul_comm (2 ^ e)]
    rw [h1, h2]
    refine ⟨?_, by omega⟩
    congr 1
    omega
  rw [cmp_two, cmpN_pos]
  unfold ovB sgB infN
  rw [decide_eq_true_iff, hb.1]
  have hF0 := Nat.two_pow_pos F
  rw [Nat.pow_succ] at hle ⊢
  generalize sgM E F N D neg m = M at *
  generalize lwE E N D = lo at *
  generalize lgE N D = e at *
  obtain ⟨_, hb1⟩ := hb
  generalize bsN E = bs at *
  generalize 2 ^ F = Q at *
  rcases Int.lt_trichotomy lo bs with h | h | h
  · obtain ⟨d, hd⟩ : ∃ d : Nat, (bs : Int) - lo = ((d + 1 : Nat) : Int) := ⟨((bs : Int) - lo - 1).toNat, by omega⟩
    rw [show (lo - F - ((bs : Int) - F)).toNat = 0 by omega, show ((bs : Int) - F - (lo - F)).toNat = d + 1 by omega, Nat.pow_zero, Nat.mul_one, Nat.pow_succ]
    have hp := Nat.two_pow_pos d
    have k1 : (Q * 2 - 1) * 2 ≤ (Q * 2 - 1) * (2 ^ d * 2) := Nat.mul_le_mul_left _ (by omega)
    have k2 : (lo + bs - 1).toNat ≤ 2 * bs - 2 := by omega
    have k3 := Nat.mul_le_mul_right Q k2
    have k4 : (2 * bs - 2) * Q + 4 * Q = (2 * bs + 2) * Q := by rw [← Nat.add_mul]; congr 1; omega
    constructor
    · intro hk; omega
    · rintro (hk | hk) <;> omega
  · subst h
    rw [show ((bs : Int) - F - ((bs : Int) - F)).toNat = 0 by omega, Nat.pow_zero, Nat.mul_one, Nat.mul_one]
    have k2 : ((bs : Int) + bs - 1).toNat = 2 * bs - 1 := by omega
    rw [k2]
    have k4 : (2 * bs - 1) * Q + 3 * Q = (2 * bs + 2) * Q := by rw [← Nat.add_mul]; congr 1; omega
    constructor
    · intro hk; exact .inr (by omega)
    · rintro (hk | hk)
      · omega
      · omega
  · obtain ⟨d, hd⟩ : ∃ d : Nat, lo - (bs : Int) = ((d + 1 : Nat) : Int) := ⟨(lo - (bs : Int) - 1).toNat, by omega⟩
    rw [show (lo - F - ((bs : Int) - F)).toNat = d + 1 by omega, show ((bs : Int) - F - (lo - F)).toNat = 0 by omega, Nat.pow_zero, Nat.mul_one, Nat.pow_succ]
    have hp := Nat.two_pow_pos d
    have hg := hge (by omega)
    have k1 : M * 2 ≤ M * (2 ^ d * 2) := Nat.mul_le_mul_left _ (by omega)
    exact ⟨fun _ => .inl h, fun _ => by omega⟩

/-- How 2^e stands to x, and the highest bit's place. -/
theorem lg_of {x : Rat} (hx : 0 < x) {e : Int} (h1 : ¬ 0 < cmpQ (p2 e) x) (h2 : 0 < cmpQ (p2 (e + 1)) x) : lgE x.num.natAbs x.den = e := by
  have hn : x.num.natAbs ≠ 0 := fun h => Rat.ne_of_gt hx (Rat.num_eq_zero.1 (by omega))
  rw [cmp_p2 hx] at h1 h2
  refine lg_uniq x.den_nz (lg_spec hn x.den_nz) ⟨by omega, ?_⟩
  have hs := sc_step x.num.natAbs x.den (-(e + 1)) 1
  rw [show -(e + 1) + ((1 : Nat) : Int) = -e by omega, Nat.pow_one] at hs
  have hp := scD_pos x.den_pos (-(e + 1))
  have hgp := scD_pos x.den_pos (-e)
  generalize scN x.num.natAbs (-(e + 1)) = A at *
  generalize scD x.den (-(e + 1)) = B at *
  generalize scN x.num.natAbs (-e) = C at *
  generalize scD x.den (-e) = G at *
  -- C * B = A * 2 * G, A < B
  have h3 : A * 2 * G ≤ (B - 1) * 2 * G := Nat.mul_le_mul_right _ (Nat.mul_le_mul_right _ (by omega))
  rcases Nat.lt_or_ge C (2 * G) with h | h
  · exact h
  · exfalso
    have h4 := Nat.mul_le_mul_right B h
    rw [hs] at h4
    have h5 : 2 * G * B = B * 2 * G := by rw [Nat.mul_assoc, Nat.mul_comm G B, ← Nat.mul_assoc, Nat.mul_comm 2 B]
    rw [h5] at h4
    have h6 : A * 2 * G < B * 2 * G ∨ G = 0 := by
      rcases Nat.eq_zero_or_pos G with hg | hg
      · exact .inr hg
      · exact .inl (Nat.mul_lt_mul_of_pos_right (by omega) hg)
    rcases h6 with h6 | h6
    · omega
    · omega

/-- The highest bit of a whole number times a power of two. -/
theorem lg_scaled {M : Nat} {F c : Nat} (lo : Int) (h1 : 2 ^ (F + c) ≤ M) (h2 : M < 2 ^ (F + c + 1)) : lgE ((((M : Int)) : Rat) * p2 (lo - F)).num.natAbs ((((M : Int)) : Rat) * p2 (lo - F)).den = lo + c := by
  have hM : 0 < M := Nat.lt_of_lt_of_le (Nat.two_pow_pos _) h1
  have hx : 0 < (((M : Int)) : Rat) * p2 (lo - F) := Rat.mul_pos (Rat.intCast_pos.2 (by omega)) (p2_pos _)
  have flip : ∀ (e : Int), 0 < cmpQ (p2 e) ((((M : Int)) : Rat) * p2 (lo - F)) ↔ M * 2 ^ (lo - F - e).toNat < 2 ^ (e - (lo - F)).toNat := fun e => by
    have h := cmp_two 1 M e (lo - F)
    rw [show (((1 : Nat) : Int) : Rat) = 1 from rfl, Rat.one_mul, Nat.one_mul] at h
    rw [h, cmpN_pos]
  refine lg_of hx ?_ ?_
  · rw [flip, show (lo - F - (lo + c)).toNat = 0 by omega, show (lo + c - (lo - F)).toNat = F + c by omega, Nat.pow_zero, Nat.mul_one]
    omega
  · rw [flip, show (lo - F - (lo + c + 1)).toNat = 0 by omega, show (lo + c + 1 - (lo - F)).toNat = F + c + 1 by omega, Nat.pow_zero, Nat.mul_one]
    exact h2

end Go.Lb

/-
  Plain: rounding does not change where both are multiplied (fl_same); a number far beyond all floats, or far below them, rounds alike whatever its power (sg_near). No program in sight. Plain: a fraction in its lowest terms, out of its sign and two numbers (mk_low); a fraction times a power of ten, across (tn_cross). No program in sight.
-/
namespace Go.Proofs.YtaddnoneoflimaaGreatDoor

open Go.RowKit Go.Lb

theorem sgM_same {E F N D N' D' : Nat} (hN : N ≠ 0) (hD : D ≠ 0) (hN' : N' ≠ 0) (hD' : D' ≠ 0) (h : N * D' = N' * D) (neg : Bool) (m : Nat) : sgM E F N D neg m = sgM E F N' D' neg m := by
  unfold sgM lwE
  rw [lgE_same hN hD hN' hD' h]
  exact rd_same (scD_pos (Nat.pos_of_ne_zero hD) _) (scD_pos (Nat.pos_of_ne_zero hD') _) (sc_cross h _) neg m

theorem sgX_same {E F N D N' D' : Nat} (hN : N ≠ 0) (hD : D ≠ 0) (hN' : N' ≠ 0) (hD' : D' ≠ 0) (h : N * D' = N' * D) : sgX E F N D = sgX E F N' D' := by
  unfold sgX lwE
  rw [lgE_same hN hD hN' hD' h]
  exact ex_same (scD_pos (Nat.pos_of_ne_zero hD) _) (scD_pos (Nat.pos_of_ne_zero hD') _) (sc_cross h _)

theorem sgK_same {F N D N' D' : Nat} (hN : N ≠ 0) (hD : D ≠ 0) (hN' : N' ≠ 0) (hD' : D' ≠ 0) (h : N * D' = N' * D) (neg : Bool) (m : Nat) : sgK F N D neg m = sgK F N' D' neg m := by
  unfold sgK
  rw [lgE_same hN hD hN' hD' h]
  exact rd_same (scD_pos (Nat.pos_of_ne_zero hD) _) (scD_pos (Nat.pos_of_ne_zero hD') _) (sc_cross h _) neg m

theorem fl_same {E F N D N' D' : Nat} (hN : N ≠ 0) (hD : D ≠ 0) (hN' : N' ≠ 0) (hD' : D' ≠ 0) (h : N * D' = N' * D) (neg : Bool) (m : Nat) : flB E F N D neg m = flB E F N' D' neg m ∧ flG E F N D neg m = flG E F N' D' neg m := by
  have h1 := sgM_same (E := E) (F := F) hN hD hN' hD' h neg m
  have h2 := sgX_same (E := E) (F := F) hN hD hN' hD' h
  have h3 := sgK_same (F := F) hN hD hN' hD' h neg m
  have h4 := lgE_same hN hD hN' hD' h
  have h5 : lwE E N D = lwE E N' D' := by unfold lwE; rw [h4]
  have h6 : Lb.sgB E F N D neg m = Lb.sgB E F N' D' neg m := by unfold Lb.sgB; rw [h1, h5]
  have h7 : ovB E F N D neg m = ovB E F N' D' neg m := by unfold ovB; rw [h6, h5]
  have h8 : tiny E F N D neg m = tiny E F N' D' neg m := by unfold tiny; rw [h4, h3]
  constructor
  · unfold flB; rw [h7, h6]
  · unfold flG; rw [h7, h2, h8]

theorem sgs_same {E F N D N' D' : Nat} (hD : D ≠ 0) (hD' : D' ≠ 0) (h : N * D' = N' * D) (s neg : Bool) (m : Nat) : sgBits E F N D s neg m = sgBits E F N' D' s neg m ∧ sgFlags E F N D s m = sgFlags E F N' D' s m := by
  by_cases hN : N = 0
  · have hN' : N' = 0 := by
      rw [hN, Nat.zero_mul] at h
      rcases Nat.mul_eq_zero.1 h.symm with h1 | h1
      · exact h1
      · exact absurd h1 hD
    rw [hN, hN']
    exact ⟨rfl, rfl⟩
  · have hN' : N' ≠ 0 := by
      intro hh
      rw [hh, Nat.zero_mul] at h
      rcases Nat.mul_eq_zero.1 h with h1 | h1
      · exact hN h1
      · exact hD' h1
    obtain ⟨h1, h2⟩ := fl_same (E := E) (F := F) hN hD hN' hD' h s m
    unfold sgBits sgFlags
    rw [if_neg hN, if_neg hN', if_neg hN, if_neg hN', h1, h2]
    exact ⟨rfl, rfl⟩

end Go.Proofs.YtaddnoneoflimaaGreatDoor

namespace Go.Proofs.YtaddnoneoflimaaGreatDoor

open Go.RowKit Go.Lb

/-- A fraction of a sign and two numbers. -/
def sgQ' (s : Bool) (N D : Nat) : Rat := mkRat (if s = true then -(N : Int) else (N : Int)) D

theorem mk_low {s : Bool} {N D : Nat} (hD : D ≠ 0) (hG : Nat.gcd N D = 1) (hs : s = true → N ≠ 0) : (sgQ' s N D).num.natAbs = N ∧ (sgQ' s N D).den = D ∧ decide ((sgQ' s N D).num < 0) = s := by
  have hz : (if s = true then -(N : Int) else (N : Int)).natAbs = N := by cases s <;> simp
  obtain ⟨e1, e2, e3⟩ := mk_parts (if s = true then -(N : Int) else (N : Int)) hD
  rw [hz, hG, Nat.div_one] at e1 e2
  refine ⟨e1, e2, Eq.trans e3 ?_⟩
  cases s
  · exact decide_eq_false (by simp)
  · have := hs rfl
    exact decide_eq_true (by simp; omega)

end Go.Proofs.YtaddnoneoflimaaGreatDoor

/-
  Plain: of a fraction the whole numbers by Down and Up lie one on each side of it, at most one apart; which of the two Even and Away take. No program in sight.
-/
namespace Go.Lb

open Go.RowKit Go.Proofs.YtaddnoneoflimaaGreatDoor

/-- A number with its sign. -/
def sgZ (s : Bool) (R : Nat) : Int := if s = true then -(R : Int) else (R : Int)

end Go.Lb

