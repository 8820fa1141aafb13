/-
  Contract of ratio: Make, of two numbers that may be, the lower one not nought.
-/
import Derived.Test.YtklibjdhlmdkpaaGreatDoorQbBRtD
import Derived.Test.YtklibjdhlmdkpaaGreatDoorQbBMB1
import Derived.Deep.Cut
import Derived.Deep.RegionHeld3
import Derived.Test.YtklibjdhlmdkpaaGreatDoorQbBSplits
import Derived.Test.YtklibjdhlmdkpaaGreatDoorQbBMB10
namespace Go.Proofs.YtklibjdhlmdkpaaGreatDoor

open Go.RowKit Go.Lb

attribute [local go_sem] Go.World.cell?_alloc_some

theorem len_divB (N G : Nat) : (limbs (N / G)).length ≤ (limbs N).length := limbs_length_le (Nat.lt_of_le_of_lt (Nat.div_le_self N G) (lt_of_limbs_length (Nat.le_refl _)))

theorem nz_divB (s : Bool) (N D : Nat) : nzB (nzB s N) (N / Nat.gcd N D) = nzB s N := by
  unfold nzB
  by_cases h : N = 0
  · simp [h]
  · have : N / Nat.gcd N D ≠ 0 := Nat.ne_of_gt (Nat.div_pos (Nat.gcd_le_left D (Nat.pos_of_ne_zero h)) (Nat.gcd_pos_of_pos_left _ (Nat.pos_of_ne_zero h)))
    simp [h, this]

end Go.Proofs.YtklibjdhlmdkpaaGreatDoor

/-
  The walks of forms.Inf, soft's kit.inf.
-/
namespace Go.Proofs.YtklibjdhlmdkpaaGreatDoor

open Go.RowKit Go.Lb

set_option maxRecDepth 100000 in
theorem infLit_any (q e f : Nat) (w : World) (he : e ≤ 64) (hB : Box2 w q (.int .i64 e) (.int .i64 f)) :
    Calls Tryz.prog 183 #[.pointer (some ⟨q, 0, none⟩)] w fun en w' => en = .returned (.tuple #[.int .u64 (maskN e : Int), .int .u64 0]) ∧ w = w' := by
  have ⟨a0, a1⟩ := hB
  have cM := mask_any e w he
  generalize maskN e = M at *
  go_enter Tryz.func183, Tryz.ntmps183
  go_wp2_with fail
  refine cM.mono ?_
  rintro en w1 ⟨rfl, rfl⟩
  go_wp2
  go_ret2
  exact ⟨rfl, rfl⟩

set_option maxRecDepth 100000 in
set_option maxHeartbeats 1600000 in
theorem knownInf_any (q e f : Nat) (neg : Bool) (w : World) (h : formE (e : Int) (f : Int) = 0) (hB : Box2 w q (.int .i64 e) (.int .i64 f)) :
    Calls Tryz.prog 182 #[.agg #[.int .i64 e, .int .i64 f], .bool neg, .func (.func 183) #[] #[.pointer (some ⟨q, 0, none⟩)]] w fun en w' => en = .returned (.tuple #[.int .u64 (joinN e f neg (maskN e) 0 : Int), .int .i64 0]) ∧ Below w.heap.size w w' := by
  obtain ⟨h1, h2, h3, h4⟩ := formE_ok h
  have g1 : 2 ≤ e := by omega
  have g2 : e ≤ 11 := by omega
  have g3 : f ≤ 52 := by omega
  have pe : maskN e < pw e := by rw [maskN_eq]; have := pw_pos e; omega
  have pf := pw_pos f
  have cJ := fun W => join_any e f neg (maskN e) 0 W g1 g2 g3 pe pf
  have cL := fun W hB => infLit_any q e f W (by omega) hB
  generalize maskN e = M at *
  go_enter Tryz.func182, Tryz.ntmps182
  go_wp2_with fail
  refine (formCheck_any e f _).mono ?_
  rintro en w1 ⟨rfl, hb1⟩
  rw [h]
  have ⟨a0, a1⟩ := (box2_new w (.int .i64 (e : Int)) (.int .i64 (f : Int)) 24).stay hb1
  have B1 := (hB.alloc (.cells #[.int .i64 (e : Int), .int .i64 (f : Int)] 24)).stay hb1
  go_wp2_with (go_at_call 183; refine (cL _ B1).mono ?_; rintro en w2 ⟨rfl, rfl⟩)
  refine (cJ _).mono ?_
  rintro en w2 ⟨rfl, hb2⟩
  go_wp2
  go_ret2
  exact ⟨rfl, next (next (more (Below.refl _ _) _) hb1) hb2⟩

set_option maxRecDepth 100000 in
set_option maxHeartbeats 1600000 in
theorem formsInf_any (e f : Nat) (neg : Bool) (w : World) (h : formE (e : Int) (f : Int) = 0) :
    Calls Tryz.prog 87 #[.agg #[.int .i64 e, .int .i64 f], .bool neg] w fun en w' => en = .returned (.tuple #[.int .u64 (joinN e f neg (maskN e) 0 : Int), .int .i64 0]) ∧ Below w.heap.size w w' := by
  have B := box2_new w (.int .i64 (e : Int)) (.int .i64 (f : Int)) 24
  have hW := more (Below.refl w.heap.size w) (.cells #[.int .i64 (e : Int), .int .i64 (f : Int)] 24)
  have cK := fun W hB => knownInf_any w.heap.size e f neg W h hB
  generalize joinN e f neg (maskN e) 0 = J at *
  go_enter Tryz.func87, Tryz.ntmps87
  go_wp2_with fail
  refine (cK _ B).mono ?_
  rintro en w1 ⟨rfl, hb1⟩
  go_wp2
  go_ret2
  exact ⟨rfl, next hW hb1⟩

end Go.Proofs.YtklibjdhlmdkpaaGreatDoor

/-
  Plain: products, quotients, sums of fractions in lowest terms, as they are reckoned. No program in sight. Plain: signs, inverses and order of fractions as they are reckoned. No program in sight.
-/
namespace Go.Lb

open Go.RowKit Go.Proofs.YtklibjdhlmdkpaaGreatDoor

theorem gcd_cross {A B C D : Nat} (hAD : Nat.Coprime A D) (hBC : Nat.Coprime B C) (hC : 0 < C) (hD : 0 < D) : Nat.gcd (A * B) (D * C) = Nat.gcd A C * Nat.gcd B D := by
  have hg : 0 < Nat.gcd A C := Nat.gcd_pos_of_pos_right _ hC
  have hh : 0 < Nat.gcd B D := Nat.gcd_pos_of_pos_right _ hD
  have c1 := Nat.coprime_div_gcd_div_gcd hg
  have c2 := Nat.coprime_div_gcd_div_gcd hh
  obtain ⟨A', hA⟩ := Nat.gcd_dvd_left A C
  obtain ⟨C', hC'⟩ := Nat.gcd_dvd_right A C
  obtain ⟨B', hB⟩ := Nat.gcd_dvd_left B D
  obtain ⟨D', hD'⟩ := Nat.gcd_dvd_right B D
  generalize Nat.gcd A C = g at *
  generalize Nat.gcd B D = h at *
  subst hA hC' hB hD'
  rw [Nat.mul_div_cancel_left _ hg, Nat.mul_div_cancel_left _ hg] at c1
  rw [Nat.mul_div_cancel_left _ hh, Nat.mul_div_cancel_left _ hh] at c2
  have c3 : Nat.Coprime A' D' := (hAD.coprime_dvd_left (Nat.dvd_mul_left A' g)).coprime_dvd_right (Nat.dvd_mul_left D' h)
  have c4 : Nat.Coprime B' C' := (hBC.coprime_dvd_left (Nat.dvd_mul_left B' h)).coprime_dvd_right (Nat.dvd_mul_left C' g)
  have c5 : Nat.Coprime (A' * B') (D' * C') := Nat.coprime_mul_iff_left.2 ⟨Nat.coprime_mul_iff_right.2 ⟨c3, c1⟩, Nat.coprime_mul_iff_right.2 ⟨c2, c4⟩⟩
  have e1 : g * A' * (h * B') = g * h * (A' * B') := Nat.mul_mul_mul_comm ..
  have e2 : h * D' * (g * C') = g * h * (D' * C') := by rw [Nat.mul_mul_mul_comm, Nat.mul_comm h g]
  rw [e1, e2, Nat.gcd_mul_left]
  have : Nat.gcd (A' * B') (D' * C') = 1 := c5
  rw [this, Nat.mul_one]

theorem mk_sign (s : Bool) (M : Nat) {E : Nat} (hE : E ≠ 0) : decide ((mkRat (sgv s M) E).num < 0) = nzB s (mkRat (sgv s M) E).num.natAbs := by
  have h1 := (mk_parts (sgv s M) hE).2.2
  by_cases hM : M = 0
  · subst hM
    have : sgv s 0 = 0 := by cases s <;> rfl
    rw [this, Rat.zero_mkRat]
    cases s <;> rfl
  · have hz : (mkRat (sgv s M) E).num ≠ 0 := by
      intro h
      have h2 : mkRat (sgv s M) E = 0 := Rat.num_eq_zero.1 h
      have h3 := (Rat.mkRat_eq_zero hE).1 h2
      have h4 := (sgv_abs s M).1
      rw [h3] at h4
      exact hM h4.symm
    rw [h1, (sgv_abs s M).2]
    unfold nzB
    rw [decide_eq_true hM, decide_eq_true (by omega : (mkRat (sgv s M) E).num.natAbs ≠ 0)]

theorem times_parts (s : Bool) {A B C D : Nat} (hAD : Nat.Coprime A D) (hBC : Nat.Coprime B C) (hC : C ≠ 0) (hD : D ≠ 0) :
    (mkRat (sgv s (A * B)) (D * C)).num.natAbs = A / Nat.gcd A C * (B / Nat.gcd B D) ∧ (mkRat (sgv s (A * B)) (D * C)).den = D / Nat.gcd B D * (C / Nat.gcd A C) ∧ decide ((mkRat (sgv s (A * B)) (D * C)).num < 0) = nzB s (A / Nat.gcd A C * (B / Nat.gcd B D)) := by
  have hE : D * C ≠ 0 := Nat.mul_ne_zero hD hC
  obtain ⟨h1, h2, h3⟩ := mk_parts (sgv s (A * B)) hE
  rw [(sgv_abs s (A * B)).1, gcd_cross hAD hBC (Nat.pos_of_ne_zero hC) (Nat.pos_of_ne_zero hD)] at h1 h2
  have e1 : A * B / (Nat.gcd A C * Nat.gcd B D) = A / Nat.gcd A C * (B / Nat.gcd B D) := (Nat.div_mul_div_comm (Nat.gcd_dvd_left A C) (Nat.gcd_dvd_left B D)).symm
  have e2 : D * C / (Nat.gcd A C * Nat.gcd B D) = D / Nat.gcd B D * (C / Nat.gcd A C) := by
    rw [Nat.mul_comm (Nat.gcd A C), (Nat.div_mul_div_comm (Nat.gcd_dvd_right B D) (Nat.gcd_dvd_right A C)).symm]
  rw [e1] at h1
  rw [e2] at h2
  refine ⟨h1, h2, ?_⟩
  rw [mk_sign s _ hE, h1]

theorem rat_cop (q : Rat) : Nat.Coprime q.num.natAbs q.den := q.reduced

theorem mul_mk (x y : Rat) : mkRat (sgv (decide (x.num < 0) != decide (y.num < 0)) (x.num.natAbs * y.num.natAbs)) (x.den * y.den) = x * y := by
  rw [Rat.mul_def']
  congr 1
  have h := sgn_mul x.num y.num
  rw [← sgv_of (x.num * y.num), ← h.1, ← h.2]
  unfold sgv nzB
  by_cases h0 : x.num.natAbs * y.num.natAbs = 0
  · rw [h0]; simp
  · rw [decide_eq_true h0, Bool.and_true]

theorem quo_mk (x y : Rat) (hy : y ≠ 0) : mkRat (sgv (decide (x.num < 0) != decide (y.num < 0)) (x.num.natAbs * y.den)) (x.den * y.num.natAbs) = x / y := by
  rw [Rat.div_def, ← mul_mk]
  have hn : y.num ≠ 0 := fun h => hy (Rat.num_eq_zero.1 h)
  have e1 : (y⁻¹).den = y.num.natAbs := by rw [Rat.den_inv, if_neg hn]
  have e2 : (y⁻¹).num.natAbs = y.den := by
    rw [Rat.num_inv, Int.natAbs_mul, Int.natAbs_natCast, Int.natAbs_sign, if_neg hn, Nat.one_mul]
  have e3 : decide ((y⁻¹).num < 0) = decide (y.num < 0) := by
    have hd := y.den_pos
    rw [Rat.num_inv]
    rcases Int.lt_or_le y.num 0 with h | h
    · rw [Int.sign_eq_neg_one_of_neg h, decide_eq_true h, decide_eq_true (by omega)]
    · rw [Int.sign_eq_one_of_pos (by omega), decide_eq_false (by omega), decide_eq_false (by omega)]
  rw [e1, e2, e3]

/-- A sum: what is added above the lines, g having gone into what is below them. -/
def addZ (x y : Rat) : Int := x.num * ((y.den / Nat.gcd x.den y.den : Nat) : Int) + y.num * ((x.den / Nat.gcd x.den y.den : Nat) : Int)

theorem added_parts (x y : Rat) : (x + y).num.natAbs = (addZ x y).natAbs / Nat.gcd (addZ x y).natAbs (Nat.gcd x.den y.den) ∧ (x + y).den = x.den / Nat.gcd x.den y.den * (y.den / Nat.gcd (addZ x y).natAbs (Nat.gcd x.den y.den)) ∧ decide ((x + y).num < 0) = decide (addZ x y < 0) := by
  have hg : 0 < Nat.gcd x.den y.den := Nat.gcd_pos_of_pos_left _ x.den_pos
  have hE : x.den / Nat.gcd x.den y.den * y.den ≠ 0 := Nat.ne_of_gt (Nat.mul_pos (Nat.div_gcd_pos_of_pos_left _ x.den_pos) y.den_pos)
  have haux := Rat.add.aux x y (g := Nat.gcd x.den y.den) rfl rfl rfl
  have e : x + y = mkRat (addZ x y) (x.den / Nat.gcd x.den y.den * y.den) := by
    rw [Rat.add_def', ← Rat.mkRat_mul_right (n := addZ x y) (d := x.den / Nat.gcd x.den y.den * y.den) (a := Nat.gcd x.den y.den) (by omega)]
    have e1 : x.den / Nat.gcd x.den y.den * y.den * Nat.gcd x.den y.den = x.den * y.den := by
      rw [Nat.mul_right_comm, Nat.div_mul_cancel (Nat.gcd_dvd_left _ _)]
    rw [e1]
    congr 1
    unfold addZ
    rw [Int.add_mul, Int.mul_assoc, Int.mul_assoc, ← Int.natCast_mul, ← Int.natCast_mul, Nat.div_mul_cancel (Nat.gcd_dvd_right _ _), Nat.div_mul_cancel (Nat.gcd_dvd_left _ _)]
  obtain ⟨h1, h2, h3⟩ := mk_parts (addZ x y) hE
  rw [← e] at h1 h2 h3
  have haux' : (addZ x y).natAbs.gcd (Nat.gcd x.den y.den) = (addZ x y).natAbs.gcd (x.den / Nat.gcd x.den y.den * y.den) := haux
  rw [← haux'] at h1 h2
  refine ⟨h1, ?_, h3⟩
  rw [h2, Nat.mul_div_assoc]
  exact Nat.dvd_trans (Nat.gcd_dvd_right _ _) (Nat.gcd_dvd_right _ _)

theorem addZ_zero {x y : Rat} (h : addZ x y = 0) : x + y = 0 := by
  obtain ⟨h1, _, _⟩ := added_parts x y
  rw [h] at h1
  simpa using h1

theorem neg_sub_z (x y : Rat) : x - y = x + -y := Rat.sub_eq_add_neg x y

end Go.Lb

namespace Go.Lb

open Go.RowKit Go.Proofs.YtklibjdhlmdkpaaGreatDoor

theorem inv_parts {x : Rat} (hx : x ≠ 0) : (x⁻¹).den = x.num.natAbs ∧ (x⁻¹).num.natAbs = x.den ∧ decide ((x⁻¹).num < 0) = decide (x.num < 0) := by
  have hn : x.num ≠ 0 := fun h => hx (Rat.num_eq_zero.1 h)
  have hd := x.den_pos
  refine ⟨by rw [Rat.den_inv, if_neg hn], by rw [Rat.num_inv, Int.natAbs_mul, Int.natAbs_natCast, Int.natAbs_sign, if_neg hn, Nat.one_mul], ?_⟩
  rw [Rat.num_inv]
  rcases Int.lt_or_le x.num 0 with h | h
  · rw [Int.sign_eq_neg_one_of_neg h, decide_eq_true h, decide_eq_true (by omega)]
  · rw [Int.sign_eq_one_of_pos (by omega), decide_eq_false (by omega), decide_eq_false (by omega)]

theorem sgv_times (s : Bool) (A B : Nat) : sgv s A * (B : Int) = sgv s (A * B) := by
  unfold sgv
  split
  · rw [Int.neg_mul, Int.natCast_mul]
  · rw [Int.natCast_mul]

/-- A number's size. -/
def absR (x : Rat) : Rat := if x.num < 0 then -x else x

theorem absR_parts (x : Rat) : (absR x).num.natAbs = x.num.natAbs ∧ (absR x).den = x.den ∧ decide ((absR x).num < 0) = false := by
  unfold absR
  split
  · refine ⟨by rw [Rat.neg_num, Int.natAbs_neg], rfl, decide_eq_false ?_⟩
    rw [Rat.neg_num]; omega
  · exact ⟨rfl, rfl, decide_eq_false (by omega)⟩

/-- The sign's cell was written. -/
theorem In.sign {e : TypeId} {w : World} {base b : Nat} {s : Bool} {ao : Option Addr} {k c N : Nat} (h : In e w base b s ao k c N) (s' : Bool) : In e (w.setCell ⟨b, 0, none⟩ (.bool s')) base b s' ao k c N := by
  refine ⟨World.cell?_setCell_same _ _ _ h.c0, ?_, by simp [h.z0], by simp [h.z1], ?_, h.ne, h.hb⟩
  · rw [World.cell?_setCell_other _ _ _ _ (by simp)]; exact h.c1
  · exact fr_at h.fr (by simp) (fun g hgb hgl => (grown_set w b 0 _).block g hgl (fun e => h.ne (by rw [hgb, e])))

theorem Ra.sign {e : TypeId} {w : World} {base b : Nat} {s : Bool} {N D : Nat} (h : Ra e w base b s N D) (s' : Bool) : Ra e (w.setCell ⟨b, 0, none⟩ (.bool s')) base b s' N D := by
  obtain ⟨⟨ao, k, c, hi⟩, ⟨ad, kd, cd, ds, h2, hf, hd, hn⟩, hz⟩ := h
  refine ⟨⟨ao, k, c, hi.sign s'⟩, ⟨ad, kd, cd, ds, ?_, ?_, hd, hn⟩, by simp [hz]⟩
  · rw [World.cell?_setCell_other _ _ _ _ (by simp)]; exact h2
  · exact fr_at hf (by simp) (fun g hgb hgl => (grown_set w b 0 _).block g hgl (fun e => hn (by rw [hgb, e])))

theorem StQ.pre {e : TypeId} {b base : Nat} {q : Rat} {w w1 w' : World} {en : Ending} (h : StQ e b base q w1 en w') (hb : Below w.heap.size w w1) : StQ e b base q w en w' :=
  ⟨h.1, h.2.1, grown_trans (grown_below hb _) h.2.2⟩

/-- A new fraction in cells. -/
theorem res_new (w : World) (t : TypeId) (u v x : Value) : Res3 (w.alloc (.cells #[u, v, x] t)) w.heap.size := Res3.ofs (x := u) (y := v) (z := x) (by simp) (by simp) (by simp) (by simp [go_sem]) (by simp [go_sem]) (by simp [go_sem])

/-- No block of words. -/
def Hd (e : TypeId) (w : World) (b : Nat) : Prop := ∀ cur, w.heap[b]? ≠ some (.cells cur e (0, 0))

theorem Hd.stay {e : TypeId} {w w' : World} {b : Nat} (h : Hd e w b) (hb : b < w.heap.size) (k : Below w.heap.size w w') : Hd e w' b := fun cur => by rw [k.block b hb]; exact h cur

theorem hd_new {e t : TypeId} (w : World) (cs : Array Value) (h : t ≠ e) : Hd e (w.alloc (.cells cs t)) w.heap.size := fun cur => by
  rw [heap_alloc_new]
  intro h2
  injection h2 with h2
  injection h2 with _ h3 _
  exact h h3

theorem fr_hd {e : TypeId} {w : World} {base b : Nat} {ao : Option Addr} {n c : Nat} {xs : List Nat} (hf : Fr e w base ao n c xs) (h : Hd e w b) : blkOf ao ≠ some b := by
  rcases hf.blk with ⟨rfl, _⟩ | ⟨g, cur, rfl, _, hh, _⟩
  · intro h2; cases h2
  · intro h2
    have : g = b := Option.some.inj h2
    subst this
    exact h cur hh

def cmpQ (x y : Rat) : Int := if x < y then -1 else if y < x then 1 else 0

theorem cmpQ_cross (x y : Rat) : cmpQ x y = if x.num * y.den < y.num * x.den then -1 else if y.num * x.den < x.num * y.den then 1 else 0 := by
  unfold cmpQ
  simp only [Rat.lt_iff]

/-- Of two with unlike signs, the signs tell. -/
theorem cmpQ_signs {x y : Rat} (h : x.num.sign ≠ y.num.sign ∨ x.num.sign = 0) : cmpQ x y = if x.num.sign < y.num.sign then -1 else if x.num.sign > y.num.sign then 1 else 0 := by
  rw [cmpQ_cross]
  have hx : (0 : Int) < x.den := by have := x.den_pos; omega
  have hy : (0 : Int) < y.den := by have := y.den_pos; omega
  generalize (x.den : Int) = X at *
  generalize (y.den : Int) = Y at *
  generalize x.num = a at *
  generalize y.num = c at *
  have key : (a * Y < 0 ↔ a < 0) ∧ (0 < a * Y ↔ 0 < a) ∧ (c * X < 0 ↔ c < 0) ∧ (0 < c * X ↔ 0 < c) := by
    refine ⟨⟨fun h => ?_, fun h => Int.mul_neg_of_neg_of_pos h hy⟩, ⟨fun h => ?_, fun h => Int.mul_pos h hy⟩, ⟨fun h => ?_, fun h => Int.mul_neg_of_neg_of_pos h hx⟩, ⟨fun h => ?_, fun h => Int.mul_pos h hx⟩⟩
    · rcases Int.lt_or_le a 0 with h1 | h1
      · exact h1
      · have := Int.mul_nonneg h1 (Int.le_of_lt hy); omega
    · rcases Int.lt_or_le 0 a with h1 | h1
      · exact h1
      · have := Int.mul_nonpos_of_nonpos_of_nonneg h1 (Int.le_of_lt hy); omega
    · rcases Int.lt_or_le c 0 with h1 | h1
      · exact h1
      · have := Int.mul_nonneg h1 (Int.le_of_lt hx); omega
    · rcases Int.lt_or_le 0 c with h1 | h1
      · exact h1
      · have := Int.mul_nonpos_of_nonpos_of_nonneg h1 (Int.le_of_lt hx); omega
  obtain ⟨k1, k2, k3, k4⟩ := key
  generalize a * Y = P at *
  generalize c * X = Q at *
  have sg : ∀ z : Int, (z < 0 ∧ z.sign = -1) ∨ (z = 0 ∧ z.sign = 0) ∨ (0 < z ∧ z.sign = 1) := fun z => by
    rcases Int.lt_trichotomy z 0 with h1 | h1 | h1
    · exact .inl ⟨h1, Int.sign_eq_neg_one_of_neg h1⟩
    · subst h1; exact .inr (.inl ⟨rfl, rfl⟩)
    · exact .inr (.inr ⟨h1, Int.sign_eq_one_of_pos h1⟩)
  have s1 := sg a
  have s2 := sg c
  clear sg
  generalize a.sign = u at *
  generalize c.sign = v at *
  rcases s1 with ⟨h1, rfl⟩ | ⟨h1, rfl⟩ | ⟨h1, rfl⟩ <;> rcases s2 with ⟨h2, rfl⟩ | ⟨h2, rfl⟩ | ⟨h2, rfl⟩
  all_goals (repeat' split) <;> first | rfl | omega

/-- Of two with like signs, not nought, their sizes tell. -/
theorem cmpQ_sizes {x y : Rat} (hx : x.num ≠ 0) (hs : x.num.sign = y.num.sign) : cmpQ x y = if x.num < 0 then -cmpN (x.num.natAbs * y.den) (y.num.natAbs * x.den) else cmpN (x.num.natAbs * y.den) (y.num.natAbs * x.den) := by
  rw [cmpQ_cross]
  have sg : ∀ z : Int, (z < 0 ∧ z.sign = -1) ∨ (z = 0 ∧ z.sign = 0) ∨ (0 < z ∧ z.sign = 1) := fun z => by
    rcases Int.lt_trichotomy z 0 with h1 | h1 | h1
    · exact .inl ⟨h1, Int.sign_eq_neg_one_of_neg h1⟩
    · subst h1; exact .inr (.inl ⟨rfl, rfl⟩)
    · exact .inr (.inr ⟨h1, Int.sign_eq_one_of_pos h1⟩)
  have s1 := sg x.num
  have s2 := sg y.num
  clear sg
  generalize x.num = a at *
  generalize y.num = c at *
  generalize x.den = X at *
  generalize y.den = Y at *
  unfold cmpN
  by_cases hn : a < 0
  · have hc : c < 0 := by omega
    rw [if_pos hn]
    have e1 : a * (Y : Int) = -((a.natAbs * Y : Nat) : Int) := by
      rw [Int.natCast_mul, ← Int.neg_mul, show -((a.natAbs : Nat) : Int) = a by omega]
    have e2 : c * (X : Int) = -((c.natAbs * X : Nat) : Int) := by
      rw [Int.natCast_mul, ← Int.neg_mul, show -((c.natAbs : Nat) : Int) = c by omega]
    rw [e1, e2]
    generalize a.natAbs * Y = P
    generalize c.natAbs * X = Q
    (repeat' split) <;> omega
  · have hc : 0 < c := by omega
    rw [if_neg hn]
    have e1 : a * (Y : Int) = ((a.natAbs * Y : Nat) : Int) := by
      rw [Int.natCast_mul, show ((a.natAbs : Nat) : Int) = a by omega]
    have e2 : c * (X : Int) = ((c.natAbs * X : Nat) : Int) := by
      rw [Int.natCast_mul, show ((c.natAbs : Nat) : Int) = c by omega]
    rw [e1, e2]
    generalize a.natAbs * Y = P
    generalize c.natAbs * X = Q
    (repeat' split) <;> omega

end Go.Lb

