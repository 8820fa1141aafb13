/-
  Plain: products, quotients, sums of fractions in lowest terms, as they are reckoned. No program in sight. Plain: signs, inverses and order of fractions as they are reckoned. No program in sight.
-/
import Derived.Test.YtfjgmpfpadfknaaGreatDoorQbDIntL
import Derived.Test.YtfjgmpfpadfknaaGreatDoorQbDBigL
namespace Go.Lb

open Go.RowKit Go.Proofs.YtfjgmpfpadfknaaGreatDoor

theorem gcd_cross {A B C D : Nat} (hAD : Nat.Coprime A D) (hBC : Nat.Coprime B C) (hC : 0 < C) (hD : 0 < D) : Nat.gcd (A * B) (D * C) = Nat.gcd A C * Nat.gcd B D := by
  have hg : 0 < Nat.gcd A C := Nat.gcd_pos_of_pos_right _ hC
  have hh : 0 < Nat.gcd B D := Nat.gcd_pos_of_pos_right _ hD
  have c1 := Nat.coprime_div_gcd_div_gcd hg
  have c2 := Nat.coprime_div_gcd_div_gcd hh
  obtain ⟨A', hA⟩ := Nat.gcd_dvd_left A C
  obtain ⟨C', hC'⟩ := Nat.gcd_dvd_right A C
  obtain ⟨B', hB⟩ := Nat.gcd_dvd_left B D
  obtain ⟨D', hD'⟩ := Nat.gcd_dvd_right B D
  generalize Nat.gcd A C = g at *
  generalize Nat.gcd B D = h at *
  subst hA hC' hB hD'
  rw [Nat.mul_div_cancel_left _ hg, Nat.mul_div_cancel_left _ hg] at c1
  rw [Nat.mul_div_cancel_left _ hh, Nat.mul_div_cancel_left _ hh] at c2
  have c3 : Nat.Coprime A' D' := (hAD.coprime_dvd_left (Nat.dvd_mul_left A' g)).coprime_dvd_right (Nat.dvd_mul_left D' h)
  have c4 : Nat.Coprime B' C' := (hBC.coprime_dvd_left (Nat.dvd_mul_left B' h)).coprime_dvd_right (Nat.dvd_mul_left C' g)
  have c5 : Nat.Coprime (A' * B') (D' * C') := Nat.coprime_mul_iff_left.2 ⟨Nat.coprime_mul_iff_right.2 ⟨c3, c1⟩, Nat.coprime_mul_iff_right.2 ⟨c2, c4⟩⟩
  have e1 : g * A' * (h * B') = g * h * (A' * B') := Nat.mul_mul_mul_comm ..
  have e2 : h * D' * (g * C') = g * h * (D' * C') := by rw [Nat.mul_mul_mul_comm, Nat.mul_comm h g]
  rw [e1, e2, Nat.gcd_mul_left]
  have : Nat.gcd (A' * B') (D' * C') = 1 := c5
  rw [this, Nat.mul_one]

theorem mk_sign (s : Bool) (M : Nat) {E : Nat} (hE : E ≠ 0) : decide ((mkRat (sgv s M) E).num < 0) = nzB s (mkRat (sgv s M) E).num.natAbs := by
  have h1 := (mk_parts (sgv s M) hE).2.2
  by_cases hM : M = 0
  · subst hM
    have : sgv s 0 = 0 := by cases s <;> rfl
    rw [this, Rat.zero_mkRat]
    cases s <;> rfl
  · have hz : (mkRat (sgv s M) E).num ≠ 0 := by
      intro h
      have h2 : mkRat (sgv s M) E = 0 := Rat.num_eq_zero.1 h
      have h3 := (Rat.mkRat_eq_zero hE).1 h2
      have h4 := (sgv_abs s M).1
      rw [h3] at h4
      exact hM h4.symm
    rw [h1, (sgv_abs s M).2]
    unfold nzB
    rw [decide_eq_true hM, decide_eq_true (by omega : (mkRat (sgv s M) E).num.natAbs ≠ 0)]

theorem times_parts (s : Bool) {A B C D : Nat} (hAD : Nat.Coprime A D) (hBC : Nat.Coprime B C) (hC : C ≠ 0) (hD : D ≠ 0) :
    (mkRat (sgv s (A * B)) (D * C)).num.natAbs = A / Nat.gcd A C * (B / Nat.gcd B D) ∧ (mkRat (sgv s (A * B)) (D * C)).den = D / Nat.gcd B D * (C / Nat.gcd A C) ∧ decide ((mkRat (sgv s (A * B)) (D * C)).num < 0) = nzB s (A / Nat.gcd A C * (B / Nat.gcd B D)) := by
  have hE : D * C ≠ 0 := Nat.mul_ne_zero hD hC
  obtain ⟨h1, h2, h3⟩ := mk_parts (sgv s (A * B)) hE
  rw [(sgv_abs s (A * B)).1, gcd_cross hAD hBC (Nat.pos_of_ne_zero hC) (Nat.pos_of_ne_zero hD)] at h1 h2
  have e1 : A * B / (Nat.gcd A C * Nat.gcd B D) = A / Nat.gcd A C * (B / Nat.gcd B D) := (Nat.div_mul_div_comm (Nat.gcd_dvd_left A C) (Nat.gcd_dvd_left B D)).symm
  have e2 : D * C / (Nat.gcd A C * Nat.gcd B D) = D / Nat.gcd B D * (C / Nat.gcd A C) := by
    rw [Nat.mul_comm (Nat.gcd A C), (Nat.div_mul_div_comm (Nat.gcd_dvd_right B D) (Nat.gcd_dvd_right A C)).symm]
  rw [e1] at h1
  rw [e2] at h2
  refine ⟨h1, h2, ?_⟩
  rw [mk_sign s _ hE, h1]

theorem rat_cop (q : Rat) : Nat.Coprime q.num.natAbs q.den := q.reduced

theorem mul_mk (x y : Rat) : mkRat (sgv (decide (x.num < 0) != decide (y.num < 0)) (x.num.natAbs * y.num.natAbs)) (x.den * y.den) = x * y := by
  rw [Rat.mul_def']
  congr 1
  have h := sgn_mul x.num y.num
  rw [← sgv_of (x.num * y.num), ← h.1, ← h.2]
  unfold sgv nzB
  by_cases h0 : x.num.natAbs * y.num.natAbs = 0
  · rw [h0]; simp
  · rw [decide_eq_true h0, Bool.and_true]

/-- A sum: what is added above the lines, g having gone into what is below them. -/
def addZ (x y : Rat) : Int := x.num * ((y.den / Nat.gcd x.den y.den : Nat) : Int) + y.num * ((x.den / Nat.gcd x.den y.den : Nat) : Int)

theorem added_parts (x y : Rat) : (x + y).num.natAbs = (addZ x y).natAbs / Nat.gcd (addZ x y).natAbs (Nat.gcd x.den y.den) ∧ (x + y).den = x.den / Nat.gcd x.den y.den * (y.den / Nat.gcd (addZ x y).natAbs (Nat.gcd x.den y.den)) ∧ decide ((x + y).num < 0) = decide (addZ x y < 0) := by
  have hg : 0 < Nat.gcd x.den y.den := Nat.gcd_pos_of_pos_left _ x.den_pos
  have hE : x.den / Nat.gcd x.den y.den * y.den ≠ 0 := Nat.ne_of_gt (Nat.mul_pos (Nat.div_gcd_pos_of_pos_left _ x.den_pos) y.den_pos)
  have haux := Rat.add.aux x y (g := Nat.gcd x.den y.den) rfl rfl rfl
  have e : x + y = mkRat (addZ x y) (x.den / Nat.gcd x.den y.den * y.den) := by
    rw [Rat.add_def', ← Rat.mkRat_mul_right (n := addZ x y) (d := x.den / Nat.gcd x.den y.den * y.den) (a := Nat.gcd x.den y.den) (by omega)]
    have e1 : x.den / Nat.gcd x.den y.den * y.den * Nat.gcd x.den y.den = x.den * y.den := by
      rw [Nat.mul_right_comm, Nat.div_mul_cancel (Nat.gcd_dvd_left _ _)]
    rw [e1]
    congr 1
    unfold addZ
    rw [Int.add_mul, Int.mul_assoc, Int.mul_assoc, ← Int.natCast_mul, ← Int.natCast_mul, Nat.div_mul_cancel (Nat.gcd_dvd_right _ _), Nat.div_mul_cancel (Nat.gcd_dvd_left _ _)]
  obtain ⟨h1, h2, h3⟩ := mk_parts (addZ x y) hE
  rw [← e] at h1 h2 h3
  have haux' : (addZ x y).natAbs.gcd (Nat.gcd x.den y.den) = (addZ x y).natAbs.gcd (x.den / Nat.gcd x.den y.den * y.den) := haux
  rw [← haux'] at h1 h2
  refine ⟨h1, ?_, h3⟩
  rw [h2, Nat.mul_div_assoc]
  exact Nat.dvd_trans (Nat.gcd_dvd_right _ _) (Nat.gcd_dvd_right _ _)

theorem addZ_zero {x y : Rat} (h : addZ x y = 0) : x + y = 0 := by
  obtain ⟨h1, _, _⟩ := added_parts x y
  rw [h] at h1
  simpa using h1

theorem neg_sub_z (x y : Rat) : x - y = x + -y := Rat.sub_eq_add_neg x y

end Go.Lb

namespace Go.Lb

open Go.RowKit Go.Proofs.YtfjgmpfpadfknaaGreatDoor

theorem inv_parts {x : Rat} (hx : x ≠ 0) : (x⁻¹).den = x.num.natAbs ∧ (x⁻¹).num.natAbs = x.den ∧ decide ((x⁻¹).num < 0) = decide (x.num < 0) := by
  have hn : x.num ≠ 0 := fun h => hx (Rat.num_eq_zero.1 h)
  have hd := x.den_pos
  refine ⟨by rw [Rat.den_inv, if_neg hn], by rw [Rat.num_inv, Int.natAbs_mul, Int.natAbs_natCast, Int.natAbs_sign, if_neg hn, Nat.one_mul], ?_⟩
  rw [Rat.num_inv]
  rcases Int.lt_or_le x.num 0 with h | h
  · rw [Int.sign_eq_neg_one_of_neg h, decide_eq_true h, decide_eq_true (by omega)]
  · rw [Int.sign_eq_one_of_pos (by omega), decide_eq_false (by omega), decide_eq_false (by omega)]

theorem sgv_times (s : Bool) (A B : Nat) : sgv s A * (B : Int) = sgv s (A * B) := by
  unfold sgv
  split
  · rw [Int.neg_mul, Int.natCast_mul]
  · rw [Int.natCast_mul]

/-- The sign's cell was written. -/
theorem In.sign {e : TypeId} {w : World} {base b : Nat} {s : Bool} {ao : Option Addr} {k c N : Nat} (h : In e w base b s ao k c N) (s' : Bool) : In e (w.setCell ⟨b, 0, none⟩ (.bool s')) base b s' ao k c N := by
  refine ⟨World.cell?_setCell_same _ _ _ h.c0, ?_, by simp [h.z0], by simp [h.z1], ?_, h.ne, h.hb⟩
  · rw [World.cell?_setCell_other _ _ _ _ (by simp)]; exact h.c1
  · exact fr_at h.fr (by simp) (fun g hgb hgl => (grown_set w b 0 _).block g hgl (fun e => h.ne (by rw [hgb, e])))

theorem Ra.sign {e : TypeId} {w : World} {base b : Nat} {s : Bool} {N D : Nat} (h : Ra e w base b s N D) (s' : Bool) : Ra e (w.setCell ⟨b, 0, none⟩ (.bool s')) base b s' N D := by
  obtain ⟨⟨ao, k, c, hi⟩, ⟨ad, kd, cd, ds, h2, hf, hd, hn⟩, hz⟩ := h
  refine ⟨⟨ao, k, c, hi.sign s'⟩, ⟨ad, kd, cd, ds, ?_, ?_, hd, hn⟩, by simp [hz]⟩
  · rw [World.cell?_setCell_other _ _ _ _ (by simp)]; exact h2
  · exact fr_at hf (by simp) (fun g hgb hgl => (grown_set w b 0 _).block g hgl (fun e => hn (by rw [hgb, e])))

theorem StQ.undrew {e : TypeId} {b base : Nat} {q : Rat} {w w' : World} {en : Ending} (h : StQ e b base q w.drew en w') : StQ e b base q w en w' :=
  ⟨h.1, h.2.1, grown_trans (grown_below (Below.refl _ _).drew _) h.2.2⟩

theorem StQ.pre {e : TypeId} {b base : Nat} {q : Rat} {w w1 w' : World} {en : Ending} (h : StQ e b base q w1 en w') (hb : Below w.heap.size w w1) : StQ e b base q w en w' :=
  ⟨h.1, h.2.1, grown_trans (grown_below hb _) h.2.2⟩

/-- A new fraction in cells. -/
theorem res_new (w : World) (t : TypeId) (u v x : Value) : Res3 (w.alloc (.cells #[u, v, x] t)) w.heap.size := Res3.ofs (x := u) (y := v) (z := x) (by simp) (by simp) (by simp) (by simp [go_sem]) (by simp [go_sem]) (by simp [go_sem])

/-- A method asked of a new fraction. -/
theorem StQ.mk {e t : TypeId} {q : Rat} {w w' : World} {u v x : Value} {en : Ending} (h : StQ e w.heap.size w.heap.size q (w.alloc (.cells #[u, v, x] t)) en w') : MkQ e q w en w' := by
  obtain ⟨he, hq, hg⟩ := h
  have h1 := (Below.refl w.heap.size w).alloc (Nat.le_refl _) (.cells #[u, v, x] t)
  exact ⟨_, he, hq, h1.grown hg (by simp) (by simp)⟩

/-- No block of words. -/
def Hd (e : TypeId) (w : World) (b : Nat) : Prop := ∀ cur, w.heap[b]? ≠ some (.cells cur e (0, 0))

theorem Hd.stay {e : TypeId} {w w' : World} {b : Nat} (h : Hd e w b) (hb : b < w.heap.size) (k : Below w.heap.size w w') : Hd e w' b := fun cur => by rw [k.block b hb]; exact h cur

theorem hd_new {e t : TypeId} (w : World) (cs : Array Value) (h : t ≠ e) : Hd e (w.alloc (.cells cs t)) w.heap.size := fun cur => by
  rw [heap_alloc_new]
  intro h2
  injection h2 with h2
  injection h2 with _ h3 _
  exact h h3

theorem fr_hd {e : TypeId} {w : World} {base b : Nat} {ao : Option Addr} {n c : Nat} {xs : List Nat} (hf : Fr e w base ao n c xs) (h : Hd e w b) : blkOf ao ≠ some b := by
  rcases hf.blk with ⟨rfl, _⟩ | ⟨g, cur, rfl, _, hh, _⟩
  · intro h2; cases h2
  · intro h2
    have : g = b := Option.some.inj h2
    subst this
    exact h cur hh

def cmpQ (x y : Rat) : Int := if x < y then -1 else if y < x then 1 else 0

theorem cmpQ_cross (x y : Rat) : cmpQ x y = if x.num * y.den < y.num * x.den then -1 else if y.num * x.den < x.num * y.den then 1 else 0 := by
  unfold cmpQ
  simp only [Rat.lt_iff]

/-- Of two with unlike signs, the signs tell. -/
theorem cmpQ_signs {x y : Rat} (h : x.num.sign ≠ y.num.sign ∨ x.num.sign = 0) : cmpQ x y = if x.num.sign < y.num.sign then -1 else if x.num.sign > y.num.sign then 1 else 0 := by
  rw [cmpQ_cross]
  have hx : (0 : Int) < x.den := by have := x.den_pos; omega
  have hy : (0 : Int) < y.den := by have := y.den_pos; omega
  generalize (x.den : Int) = X at *
  generalize (y.den : Int) = Y at *
  generalize x.num = a at *
  generalize y.num = c at *
  have key : (a * Y < 0 ↔ a < 0) ∧ (0 < a * Y ↔ 0 < a) ∧ (c * X < 0 ↔ c < 0) ∧ (0 < c * X ↔ 0 < c) := by
    refine ⟨⟨fun h => ?_, fun h => Int.mul_neg_of_neg_of_pos h hy⟩, ⟨fun h => ?_, fun h => Int.mul_pos h hy⟩, ⟨fun h => ?_, fun h => Int.mul_neg_of_neg_of_pos h hx⟩, ⟨fun h => ?_, fun h => Int.mul_pos h hx⟩⟩
    · rcases Int.lt_or_le a 0 with h1 | h1
      · exact h1
      · have := Int.mul_nonneg h1 (Int.le_of_lt hy); omega
    · rcases Int.lt_or_le 0 a with h1 | h1
      · exact h1
      · have := Int.mul_nonpos_of_nonpos_of_nonneg h1 (Int.le_of_lt hy); omega
    · rcases Int.lt_or_le c 0 with h1 | h1
      · exact h1
      · have := Int.mul_nonneg h1 (Int.le_of_lt hx); omega
    · rcases Int.lt_or_le 0 c with h1 | h1
      · exact h1
      · have := Int.mul_nonpos_of_nonpos_of_nonneg h1 (Int.le_of_lt hx); omega
  obtain ⟨k1, k2, k3, k4⟩ := key
  generalize a * Y = P at *
  generalize c * X = Q at *
  have sg : ∀ z : Int, (z < 0 ∧ z.sign = -1) ∨ (z = 0 ∧ z.sign = 0) ∨ (0 < z ∧ z.sign = 1) := fun z => by
    rcases Int.lt_trichotomy z 0 with h1 | h1 | h1
    · exact .inl ⟨h1, Int.sign_eq_neg_one_of_neg h1⟩
    · subst h1; exact .inr (.inl ⟨rfl, rfl⟩)
    · exact .inr (.inr ⟨h1, Int.sign_eq_one_of_pos h1⟩)
  have s1 := sg a
  have s2 := sg c
  clear sg
  generalize a.sign = u at *
  generalize c.sign = v at *
  rcases s1 with ⟨h1, rfl⟩ | ⟨h1, rfl⟩ | ⟨h1, rfl⟩ <;> rcases s2 with ⟨h2, rfl⟩ | ⟨h2, rfl⟩ | ⟨h2, rfl⟩
  all_goals (repeat' split) <;> first | rfl | omega

/-- Of two with like signs, not nought, their sizes tell. -/
theorem cmpQ_sizes {x y : Rat} (hx : x.num ≠ 0) (hs : x.num.sign = y.num.sign) : cmpQ x y = if x.num < 0 then -cmpN (x.num.natAbs * y.den) (y.num.natAbs * x.den) else cmpN (x.num.natAbs * y.den) (y.num.natAbs * x.den) := by
  rw [cmpQ_cross]
  have sg : ∀ z : Int, (z < 0 ∧ z.sign = -1) ∨ (z = 0 ∧ z.sign = 0) ∨ (0 < z ∧ z.sign = 1) := fun z => by
    rcases Int.lt_trichotomy z 0 with h1 | h1 | h1
    · exact .inl ⟨h1, Int.sign_eq_neg_one_of_neg h1⟩
    · subst h1; exact .inr (.inl ⟨rfl, rfl⟩)
    · exact .inr (.inr ⟨h1, Int.sign_eq_one_of_pos h1⟩)
  have s1 := sg x.num
  have s2 := sg y.num
  clear sg
  generalize x.num = a at *
  generalize y.num = c at *
  generalize x.den = X at *
  generalize y.den = Y at *
  unfold cmpN
  by_cases hn : a < 0
  · have hc : c < 0 := by omega
    rw [if_pos hn]
    have e1 : a * (Y : Int) = -((a.natAbs * Y : Nat) : Int) := by
      rw [Int.natCast_mul, ← Int.neg_mul, show -((a.natAbs : Nat) : Int) = a by omega]
    have e2 : c * (X : Int) = -((c.natAbs * X : Nat) : Int) := by
      rw [Int.natCast_mul, ← Int.neg_mul, show -((c.natAbs : Nat) : Int) = c by omega]
    rw [e1, e2]
    generalize a.natAbs * Y = P
    generalize c.natAbs * X = Q
    (repeat' split) <;> omega
  · have hc : 0 < c := by omega
    rw [if_neg hn]
    have e1 : a * (Y : Int) = ((a.natAbs * Y : Nat) : Int) := by
      rw [Int.natCast_mul, show ((a.natAbs : Nat) : Int) = a by omega]
    have e2 : c * (X : Int) = ((c.natAbs * X : Nat) : Int) := by
      rw [Int.natCast_mul, show ((c.natAbs : Nat) : Int) = c by omega]
    rw [e1, e2]
    generalize a.natAbs * Y = P
    generalize c.natAbs * X = Q
    (repeat' split) <;> omega

end Go.Lb

/-
  Plain: a fraction rounded to a whole number, and to a form's float. No program in sight.
-/
namespace Go.Lb

open Go.RowKit Go.Proofs.YtfjgmpfpadfknaaGreatDoor

/-- Does the number farther from nought stand for what lies between? h: where it lies against the middle. -/
def mdB (mode : Nat) (neg odd : Bool) (h : Int) : Bool :=
  if mode = 0 then decide (0 < h ∨ h = 0 ∧ odd = true) else if mode = 1 then decide (0 ≤ h) else if mode = 2 then false else if mode = 3 then !neg else neg

/-- N by D rounded to a whole number. -/
def rdN (N D : Nat) (neg : Bool) (mode : Nat) : Nat :=
  if N % D = 0 then N / D else N / D + (if mdB mode neg (decide (N / D % 2 = 1)) (cmpN (2 * (N % D)) D) = true then 1 else 0)

/-- Is it a whole number? -/
def exB (N D : Nat) : Bool := decide (N % D = 0)

theorem cmp_mul {a b c : Nat} (hc : 0 < c) : cmpN (a * c) (b * c) = cmpN a b := by
  unfold cmpN
  have h1 : a * c < b * c ↔ a < b := Nat.mul_lt_mul_right hc
  have h2 : b * c < a * c ↔ b < a := Nat.mul_lt_mul_right hc
  simp only [h1, h2]

theorem rd_ge (N D : Nat) (neg : Bool) (mode : Nat) : N / D ≤ rdN N D neg mode := by
  unfold rdN
  split
  · exact Nat.le_refl _
  · exact Nat.le_add_right _ _

theorem rd_le (N D : Nat) (neg : Bool) (mode : Nat) : rdN N D neg mode ≤ N / D + 1 := by
  unfold rdN
  split
  · omega
  · split <;> omega

/-- Times two to the power of k, as two numbers. -/
def scN (N : Nat) (k : Int) : Nat := N * 2 ^ k.toNat

def scD (D : Nat) (k : Int) : Nat := D * 2 ^ (-k).toNat

theorem scN_pos {N : Nat} (h : 0 < N) (k : Int) : 0 < scN N k := Nat.mul_pos h (Nat.two_pow_pos _)

theorem scD_pos {D : Nat} (h : 0 < D) (k : Int) : 0 < scD D k := Nat.mul_pos h (Nat.two_pow_pos _)

/-- The same number times 2^k: one more power. -/
theorem sc_step (N D : Nat) (k : Int) (j : Nat) : scN N (k + j) * scD D k = scN N k * 2 ^ j * scD D (k + j) := by
  unfold scN scD
  by_cases h1 : 0 ≤ k
  · have e1 : (k + j).toNat = k.toNat + j := by omega
    have e2 : (-k).toNat = 0 := by omega
    have e3 : (-(k + j)).toNat = 0 := by omega
    rw [e1, e2, e3, Nat.pow_add, ← Nat.mul_assoc N]
  · by_cases h2 : 0 ≤ k + j
    · have e1 : j = (k + j).toNat + (-k).toNat := by omega
      have e2 : k.toNat = 0 := by omega
      have e3 : (-(k + j)).toNat = 0 := by omega
      rw [e2, e3]
      have e4 : 2 ^ j = 2 ^ (k + j).toNat * 2 ^ (-k).toNat := by rw [← Nat.pow_add, ← e1]
      rw [e4, Nat.pow_zero, Nat.mul_one, Nat.mul_one]
      generalize 2 ^ (k + j).toNat = A
      generalize 2 ^ (-k).toNat = B
      rw [Nat.mul_assoc, Nat.mul_assoc, Nat.mul_assoc, Nat.mul_comm D B]
    · have e1 : (-k).toNat = (-(k + j)).toNat + j := by omega
      have e2 : k.toNat = 0 := by omega
      have e3 : (k + j).toNat = 0 := by omega
      rw [e1, e2, e3, Nat.pow_add, Nat.pow_zero, Nat.mul_one, Nat.mul_assoc, ← Nat.mul_assoc D, Nat.mul_comm (D * 2 ^ _) (2 ^ j)]

/-- How many bits a number has. -/
def blN (N : Nat) : Nat := szN (limbs N)

theorem bl_spec {N : Nat} (h : N ≠ 0) : 1 ≤ blN N ∧ 2 ^ (blN N - 1) ≤ N ∧ N < 2 ^ blN N := by
  have hf := fine_limbs N
  have hn : (limbs N).length ≠ 0 := fun hh => h (by rw [← val_limbs' N]; exact (val_zero hf).2 hh)
  have := sz_fine hf hn
  rwa [val_limbs'] at this

/-- The exponent of two of the highest bit. -/
def LgP (N D : Nat) (e : Int) : Prop := scD D (-e) ≤ scN N (-e) ∧ scN N (-e) < 2 * scD D (-e)

def lgE (N D : Nat) : Int :=
  if scN N (-((blN N : Int) - blN D)) < scD D (-((blN N : Int) - blN D)) then (blN N : Int) - blN D - 1 else (blN N : Int) - blN D

theorem lg_spec {N D : Nat} (hN : N ≠ 0) (hD : D ≠ 0) : LgP N D (lgE N D) := by
  obtain ⟨a1, a2, a3⟩ := bl_spec hN
  obtain ⟨b1, b2, b3⟩ := bl_spec hD
  generalize ha : blN N = a at a1 a2 a3
  generalize hb : blN D = b at b1 b2 b3
  have hA : scN N (-((a : Int) - b)) < 2 * scD D (-((a : Int) - b)) := by
    unfold scN scD
    by_cases hab : b ≤ a
    · have e1 : (-((a : Int) - b)).toNat = 0 := by omega
      have e2 : (- -((a : Int) - b)).toNat = a - b := by omega
      rw [e1, e2, Nat.pow_zero, Nat.mul_one]
      have e3 : 2 ^ a = 2 * (2 ^ (b - 1) * 2 ^ (a - b)) := by rw [← Nat.pow_add, ← Nat.pow_succ', show (b - 1 + (a - b)).succ = a by omega]
      have := Nat.mul_le_mul_right (2 ^ (a - b)) b2
      omega
    · have e1 : (-((a : Int) - b)).toNat = b - a := by omega
      have e2 : (- -((a : Int) - b)).toNat = 0 := by omega
      rw [e1, e2, Nat.pow_zero, Nat.mul_one]
      have e3 : 2 ^ b = 2 ^ a * 2 ^ (b - a) := by rw [← Nat.pow_add, show a + (b - a) = b by omega]
      have e4 : 2 ^ b = 2 * 2 ^ (b - 1) := by rw [← Nat.pow_succ', show (b - 1).succ = b by omega]
      have := Nat.mul_lt_mul_of_pos_right a3 (Nat.two_pow_pos (b - a))
      omega
  have hB : scD D (-((a : Int) - b - 1)) ≤ scN N (-((a : Int) - b - 1)) := by
    unfold scN scD
    by_cases hab : b + 1 ≤ a
    · have e1 : (-((a : Int) - b - 1)).toNat = 0 := by omega
      have e2 : (- -((a : Int) - b - 1)).toNat = a - b - 1 := by omega
      rw [e1, e2, Nat.pow_zero, Nat.mul_one]
      have e3 : 2 ^ (a - 1) = 2 ^ b * 2 ^ (a - b - 1) := by rw [← Nat.pow_add, show b + (a - b - 1) = a - 1 by omega]
      have := Nat.mul_le_mul_right (2 ^ (a - b - 1)) (Nat.le_of_lt b3)
      omega
    · have e1 : (-((a : Int) - b - 1)).toNat = b + 1 - a := by omega
      have e2 : (- -((a : Int) - b - 1)).toNat = 0 := by omega
      rw [e1, e2, Nat.pow_zero, Nat.mul_one]
      have e3 : 2 ^ b = 2 ^ (a - 1) * 2 ^ (b + 1 - a) := by rw [← Nat.pow_add, show a - 1 + (b + 1 - a) = b by omega]
      have := Nat.mul_le_mul_right (2 ^ (b + 1 - a)) a2
      omega
  unfold lgE
  rw [ha, hb]
  split
  · rename_i hlt
    refine ⟨hB, ?_⟩
    have hs := sc_step N D (-((a : Int) - b)) 1
    rw [show -((a : Int) - b) + (1 : Nat) = -((a : Int) - b - 1) by omega, Nat.pow_one] at hs
    have hp := scD_pos (Nat.pos_of_ne_zero hD) (-((a : Int) - b))
    have hp2 := scD_pos (Nat.pos_of_ne_zero hD) (-((a : Int) - b - 1))
    have h1 : scN N (-((a : Int) - b)) * 2 * scD D (-((a : Int) - b - 1)) < scD D (-((a : Int) - b)) * 2 * scD D (-((a : Int) - b - 1)) := Nat.mul_lt_mul_of_pos_right (by omega) hp2
    rw [← hs, Nat.mul_assoc (scD D (-((a : Int) - b))), Nat.mul_comm (scD D (-((a : Int) - b)))] at h1
    exact Nat.lt_of_mul_lt_mul_right h1
  · rename_i hlt
    exact ⟨by omega, hA⟩

/-- A number times 2^(F-e), its highest bit at e: it has F+1 bits ahead of the point. -/
theorem sc_norm {N D : Nat} (hD : D ≠ 0) {e : Int} (h : LgP N D e) (F : Nat) : 2 ^ F * scD D (F - e) ≤ scN N (F - e) ∧ scN N (F - e) < 2 ^ (F + 1) * scD D (F - e) := by
  have hs := sc_step N D (-e) F
  rw [show -e + (F : Int) = F - e by omega] at hs
  have hp := scD_pos (Nat.pos_of_ne_zero hD) (-e)
  have hp2 := scD_pos (Nat.pos_of_ne_zero hD) ((F : Int) - e)
  obtain ⟨h1, h2⟩ := h
  generalize scD D (-e) = A at hs hp h1 h2
  generalize scN N (-e) = B at hs h1 h2
  generalize scN N (F - e) = X at hs ⊢
  generalize scD D (F - e) = Y at hs hp2 ⊢
  have hF := Nat.two_pow_pos F
  constructor
  · have h3 : 2 ^ F * Y * A ≤ X * A := by
      rw [hs, Nat.mul_comm (2 ^ F * Y), ← Nat.mul_assoc]
      exact Nat.mul_le_mul_right _ (Nat.mul_le_mul_right _ h1)
    exact Nat.le_of_mul_le_mul_right h3 hp
  · have h3 : X * A < 2 ^ (F + 1) * Y * A := by
      rw [hs, Nat.pow_succ, Nat.mul_assoc, Nat.mul_assoc (2 ^ F * 2), Nat.mul_comm Y A, Nat.mul_comm (2 ^ F) 2, ← Nat.mul_assoc B, ← Nat.mul_assoc (2 * 2 ^ F), Nat.mul_comm (2 * 2 ^ F) A, ← Nat.mul_assoc A, Nat.mul_comm A 2]
      exact Nat.mul_lt_mul_of_pos_right (Nat.mul_lt_mul_of_pos_right h2 hF) hp2
    exact Nat.lt_of_mul_lt_mul_right h3

theorem sc_low {N D : Nat} (hD : D ≠ 0) {e low : Int} (h : LgP N D e) (hl : e < low) (F : Nat) : scN N (F - low) < 2 ^ F * scD D (F - low) := by
  obtain ⟨d, hd⟩ : ∃ d : Nat, low = e + (d + 1 : Nat) := ⟨(low - e - 1).toNat, by omega⟩
  have hn := (sc_norm hD h F).2
  have hs := sc_step N D (F - low) (d + 1)
  rw [show (F : Int) - low + ((d + 1 : Nat) : Int) = F - e by omega] at hs
  have hp := scD_pos (Nat.pos_of_ne_zero hD) ((F : Int) - low)
  have hp2 := scD_pos (Nat.pos_of_ne_zero hD) ((F : Int) - e)
  generalize scD D (F - low) = A at hs hp ⊢
  generalize scN N (F - low) = B at hs ⊢
  generalize scN N (F - e) = X at hs hn
  generalize scD D (F - e) = Y at hs hn hp2
  have h1 : B * 2 ^ (d + 1) * Y < 2 ^ (F + 1) * A * Y := by
    rw [← hs, Nat.mul_assoc, Nat.mul_comm A Y, ← Nat.mul_assoc]
    exact Nat.mul_lt_mul_of_pos_right hn hp
  have h2 := Nat.lt_of_mul_lt_mul_right h1
  have h3 : B * 2 ≤ B * 2 ^ (d + 1) := Nat.mul_le_mul_left _ (by rw [Nat.pow_succ]; have := Nat.two_pow_pos d; omega)
  have h4 : 2 ^ (F + 1) * A = 2 ^ F * A * 2 := by rw [Nat.pow_succ, Nat.mul_right_comm]
  omega

/-- A form's numbers. -/
def bsN (E : Nat) : Nat := 2 ^ (E - 1) - 1

def infN (E F : Nat) : Nat := 2 ^ (E + F) - 2 ^ F

def lwE (E N D : Nat) : Int := max (lgE N D) (1 - (bsN E : Int))

/-- The whole number that a number above nought is rounded to, in the form's unit; whether it is that. -/
def sgM (E F N D : Nat) (neg : Bool) (mode : Nat) : Nat := rdN (scN N (F - lwE E N D)) (scD D (F - lwE E N D)) neg mode

def sgX (E F N D : Nat) : Bool := exB (scN N (F - lwE E N D)) (scD D (F - lwE E N D))

/-- The like as if exponents had no lower end. -/
def sgK (F N D : Nat) (neg : Bool) (mode : Nat) : Nat := rdN (scN N (F - lgE N D)) (scD D (F - lgE N D)) neg mode

/-- The bits, where it is no overflow. -/
def sgB (E F N D : Nat) (neg : Bool) (mode : Nat) : Nat := sgM E F N D neg mode + (lwE E N D + bsN E - 1).toNat * 2 ^ F

def ovB (E F N D : Nat) (neg : Bool) (mode : Nat) : Bool := decide ((bsN E : Int) < lwE E N D ∨ infN E F ≤ sgB E F N D neg mode)

def tiny (E F N D : Nat) (neg : Bool) (mode : Nat) : Bool := decide (lgE N D < 1 - (bsN E : Int) ∧ (lgE N D < -(bsN E : Int) ∨ blN (sgK F N D neg mode) ≤ F + 1))

/-- Does a mode stay finite beyond the greatest float? -/
def stayB (neg : Bool) (mode : Nat) : Bool := decide (mode = 2 ∨ mode = 3 ∧ neg = true ∨ mode = 4 ∧ neg = false)

/-- The float to which N by D is rounded (without its sign), and the flags. -/
def flB (E F N D : Nat) (neg : Bool) (mode : Nat) : Nat := if ovB E F N D neg mode = true then (if stayB neg mode = true then infN E F - 1 else infN E F) else sgB E F N D neg mode

def flG (E F N D : Nat) (neg : Bool) (mode : Nat) : Nat := if ovB E F N D neg mode = true then 3 else if sgX E F N D = true then 0 else if tiny E F N D neg mode = true then 5 else 1

theorem lw_cases (E N D : Nat) : lwE E N D = lgE N D ∨ lgE N D < lwE E N D ∧ lwE E N D = 1 - (bsN E : Int) := by
  unfold lwE
  omega

theorem lw_ge (E N D : Nat) : 1 - (bsN E : Int) ≤ lwE E N D := by unfold lwE; omega

theorem sg_le {E F N D : Nat} (hN : N ≠ 0) (hD : D ≠ 0) (neg : Bool) (mode : Nat) : sgM E F N D neg mode ≤ 2 ^ (F + 1) := by
  have hl := lg_spec hN hD
  have hp := scD_pos (Nat.pos_of_ne_zero hD) (F - lwE E N D)
  have hr := rd_le (scN N (F - lwE E N D)) (scD D (F - lwE E N D)) neg mode
  have hq : scN N (F - lwE E N D) / scD D (F - lwE E N D) < 2 ^ (F + 1) := by
    rw [Nat.div_lt_iff_lt_mul hp]
    rcases lw_cases E N D with h | ⟨h, _⟩
    · rw [h]; exact (sc_norm hD hl F).2
    · have := sc_low hD hl h F
      have h2 : 2 ^ F * scD D (F - lwE E N D) ≤ 2 ^ (F + 1) * scD D (F - lwE E N D) := Nat.mul_le_mul_right _ (Nat.pow_le_pow_right (by decide) (by omega))
      omega
  unfold sgM
  omega

theorem sg_ge {E F N D : Nat} (hN : N ≠ 0) (hD : D ≠ 0) (neg : Bool) (mode : Nat) (h : lwE E N D = lgE N D) : 2 ^ F ≤ sgM E F N D neg mode := by
  have hl := lg_spec hN hD
  have hp := scD_pos (Nat.pos_of_ne_zero hD) (F - lwE E N D)
  refine Nat.le_trans ?_ (rd_ge _ _ neg mode)
  rw [Nat.le_div_iff_mul_le hp, h]
  exact (sc_norm hD hl F).1

theorem sgK_bounds {F N D : Nat} (hN : N ≠ 0) (hD : D ≠ 0) (neg : Bool) (mode : Nat) : 2 ^ F ≤ sgK F N D neg mode ∧ sgK F N D neg mode ≤ 2 ^ (F + 1) := by
  have hl := lg_spec hN hD
  have hp := scD_pos (Nat.pos_of_ne_zero hD) (F - lgE N D)
  have hr := rd_le (scN N (F - lgE N D)) (scD D (F - lgE N D)) neg mode
  obtain ⟨h1, h2⟩ := sc_norm hD hl F
  constructor
  · refine Nat.le_trans ?_ (rd_ge _ _ neg mode)
    rw [Nat.le_div_iff_mul_le hp]
    exact h1
  · have hq : scN N (F - lgE N D) / scD D (F - lgE N D) < 2 ^ (F + 1) := by
      rw [Nat.div_lt_iff_lt_mul hp]
      exact h2
    unfold sgK
    omega

end Go.Lb

/-
  Plain: powers of two as fractions; products with them. No program in sight. Plain: the reference's roundings of fractions, said by RndL's words. No program in sight.
-/
namespace Go.Lb

open Go.RowKit Go.Proofs.YtfjgmpfpadfknaaGreatDoor

/-- 2 to the power of n. -/
def p2 (n : Int) : Rat := (2 : Rat) ^ n

theorem mk_len (z : Int) {D : Nat} (hD : D ≠ 0) : ln (mkRat z D).num.natAbs ≤ ln z.natAbs ∧ ln (mkRat z D).den ≤ ln D := by
  obtain ⟨h1, h2, _⟩ := mk_parts z hD
  rw [h1, h2]
  exact ⟨ln_mono (Nat.div_le_self _ _), ln_mono (Nat.div_le_self _ _)⟩

end Go.Lb

namespace Go.Lb

open Go.RowKit Go.Proofs.YtfjgmpfpadfknaaGreatDoor

theorem cmpQ_zero (x y : Rat) : cmpQ x y = 0 ↔ x = y := by
  unfold cmpQ
  constructor
  · intro h
    by_cases h1 : x < y
    · rw [if_pos h1] at h; omega
    · by_cases h2 : y < x
      · rw [if_neg h1, if_pos h2] at h; omega
      · exact Rat.le_antisymm (Rat.not_lt.1 h2) (Rat.not_lt.1 h1)
  · rintro rfl
    rw [if_neg Rat.lt_irrefl, if_neg Rat.lt_irrefl]

end Go.Lb

