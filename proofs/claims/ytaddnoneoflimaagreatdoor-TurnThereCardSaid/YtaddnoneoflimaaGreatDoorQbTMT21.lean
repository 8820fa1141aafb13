/-
  Plain: products, quotients, sums of fractions in lowest terms, as they are reckoned. No program in sight. Plain: signs, inverses and order of fractions as they are reckoned. No program in sight.
-/
import Derived.Test.YtaddnoneoflimaaGreatDoorQbTMT11
import Derived.Test.YtaddnoneoflimaaGreatDoorQbTMT17
import Derived.Test.YtaddnoneoflimaaGreatDoorQbTRdD
import Derived.Test.YtaddnoneoflimaaGreatDoorQbTBigL
import Derived.Deep.RegionWith
import Derived.Deep.CutBlock
import Derived.Deep.Cut
import Derived.Deep.RegionHeld3
import Derived.Deep.CutRange
import Derived.StillTailTactics
import Derived.Deep.DrawnRows
import Derived.Test.YtaddnoneoflimaaGreatDoorQbTRdA
import Derived.Test.YtaddnoneoflimaaGreatDoorQbTMT20
namespace Go.Lb

open Go.RowKit Go.Proofs.YtaddnoneoflimaaGreatDoor

theorem mk_sign (s : Bool) (M : Nat) {E : Nat} (hE : E ≠ 0) : decide ((mkRat (sgv s M) E).num < 0) = nzB s (mkRat (sgv s M) E).num.natAbs := by
  have h1 := (mk_parts (sgv s M) hE).2.2
  by_cases hM : M = 0
  · subst hM
    have : sgv s 0 = 0 := by cases s <;> rfl
    rw [this, Rat.zero_mkRat]
    cases s <;> rfl
  · have hz : (mkRat (sgv s M) E).num ≠ 0 := by
      intro h
      have h2 : mkRat (sgv s M) E = 0 := Rat.num_eq_zero.1 h
      have h3 := (Rat.mkRat_eq_zero hE).1 h2
      have h4 := (sgv_abs s M).1
      rw [h3] at h4
      exact hM h4.symm
    rw [h1, (sgv_abs s M).2]
    unfold nzB
    rw [decide_eq_true hM, decide_eq_true (by omega : (mkRat (sgv s M) E).num.natAbs ≠ 0)]

end Go.Lb

namespace Go.Lb

open Go.RowKit Go.Proofs.YtaddnoneoflimaaGreatDoor

/-- No block of words. -/
def Hd (e : TypeId) (w : World) (b : Nat) : Prop := ∀ cur, w.heap[b]? ≠ some (.cells cur e (0, 0))

theorem Hd.stay {e : TypeId} {w w' : World} {b : Nat} (h : Hd e w b) (hb : b < w.heap.size) (k : Below w.heap.size w w') : Hd e w' b := fun cur => by rw [k.block b hb]; exact h cur

theorem hd_new {e t : TypeId} (w : World) (cs : Array Value) (h : t ≠ e) : Hd e (w.alloc (.cells cs t)) w.heap.size := fun cur => by
  rw [heap_alloc_new]
  intro h2
  injection h2 with h2
  injection h2 with _ h3 _
  exact h h3

theorem fr_hd {e : TypeId} {w : World} {base b : Nat} {ao : Option Addr} {n c : Nat} {xs : List Nat} (hf : Fr e w base ao n c xs) (h : Hd e w b) : blkOf ao ≠ some b := by
  rcases hf.blk with ⟨rfl, _⟩ | ⟨g, cur, rfl, _, hh, _⟩
  · intro h2; cases h2
  · intro h2
    have : g = b := Option.some.inj h2
    subst this
    exact h cur hh

def cmpQ (x y : Rat) : Int := if x < y then -1 else if y < x then 1 else 0

end Go.Lb

/-
  Plain: powers of two as fractions; products with them. No program in sight. Plain: the reference's roundings of fractions, said by RndL's words. No program in sight.
-/
namespace Go.Lb

open Go.RowKit Go.Proofs.YtaddnoneoflimaaGreatDoor

/-- 2 to the power of n. -/
def p2 (n : Int) : Rat := (2 : Rat) ^ n

theorem p2_nat (k : Nat) : p2 (k : Int) = ((2 ^ k : Nat) : Rat) := by
  unfold p2
  rw [Rat.zpow_natCast, Rat.natCast_pow]
  rfl

theorem p2_neg (n : Int) : p2 (-n) = (p2 n)⁻¹ := Rat.zpow_neg 2 n

theorem p2_add (m n : Int) : p2 (m + n) = p2 m * p2 n := Rat.zpow_add (by decide) m n

theorem p2_pos (n : Int) : 0 < p2 n := Rat.zpow_pos (by decide)

theorem p2_ne (n : Int) : p2 n ≠ 0 := Rat.ne_of_gt (p2_pos n)

theorem p2_parts (n : Int) : (p2 n).num = ((2 ^ n.toNat : Nat) : Int) ∧ (p2 n).den = 2 ^ (-n).toNat := by
  rcases Int.lt_or_le n 0 with h | h
  · obtain ⟨k, hk⟩ : ∃ k : Nat, n = -(k : Int) := ⟨(-n).toNat, by omega⟩
    have hk1 : k ≠ 0 := by omega
    have hp := Nat.two_pow_pos k
    have e1 : (-(-(k : Int))).toNat = k := by omega
    have e2 : (-(k : Int)).toNat = 0 := by omega
    have hn : ((2 ^ k : Nat) : Rat).num = ((2 ^ k : Nat) : Int) := Rat.num_natCast _
    have hd : ((2 ^ k : Nat) : Rat).den = 1 := Rat.den_natCast _
    rw [hk, e1, e2, p2_neg, p2_nat, Rat.num_inv, Rat.den_inv, hn, hd]
    generalize (2 : Nat) ^ k = P at *
    refine ⟨by rw [Int.sign_eq_one_of_pos (by omega)]; rfl, by rw [if_neg (by omega), Int.natAbs_natCast]⟩
  · obtain ⟨k, rfl⟩ : ∃ k : Nat, n = (k : Int) := ⟨n.toNat, by omega⟩
    rw [p2_nat, Int.toNat_natCast, show (-(k : Int)).toNat = 0 by omega]
    exact ⟨Rat.num_natCast _, Rat.den_natCast _⟩

/-- A fraction made of two numbers reads across as they do. -/
theorem mk_cross (z : Int) {D : Nat} (hD : D ≠ 0) : (mkRat z D).num.natAbs * D = z.natAbs * (mkRat z D).den := by
  obtain ⟨h1, h2, _⟩ := mk_parts z hD
  have hg := Nat.gcd_pos_of_pos_right z.natAbs (Nat.pos_of_ne_zero hD)
  have e1 := Nat.div_mul_cancel (Nat.gcd_dvd_left z.natAbs D)
  have e2 := Nat.div_mul_cancel (Nat.gcd_dvd_right z.natAbs D)
  rw [h1, h2]
  generalize z.natAbs / Nat.gcd z.natAbs D = a at *
  generalize D / Nat.gcd z.natAbs D = b at *
  generalize Nat.gcd z.natAbs D = g at *
  rw [← e1, ← e2]
  simp only [Nat.mul_comm, Nat.mul_left_comm]

theorem mul_p2 (x : Rat) (k : Int) : x * p2 k = mkRat (x.num * ((2 ^ k.toNat : Nat) : Int)) (scD x.den k) := by
  rw [Rat.mul_def', (p2_parts k).1, (p2_parts k).2]
  rfl

end Go.Lb

namespace Go.Lb

open Go.RowKit Go.Proofs.YtaddnoneoflimaaGreatDoor

theorem p2_zero : p2 0 = 1 := Rat.zpow_zero 2

theorem p2_back (n : Int) : p2 n * p2 (-n) = 1 := by rw [← p2_add, Int.add_right_neg, p2_zero]

theorem p2_cast (k : Nat) : p2 (k : Int) = (((2 ^ k : Nat) : Int) : Rat) := by rw [p2_nat]; rfl

/-- x is n times 2^k just where x times 2^-k is n. -/
theorem scale_iff (x : Rat) (n : Rat) (k : Int) : n * p2 k = x ↔ n = x * p2 (-k) := by
  constructor
  · rintro rfl
    rw [Rat.mul_assoc, p2_back, Rat.mul_one]
  · rintro rfl
    have := p2_back (-k)
    rw [Int.neg_neg] at this
    rw [Rat.mul_assoc, this, Rat.mul_one]

end Go.Lb

/-
  Plain: rounding does not change where both are multiplied (fl_same); a number far beyond all floats, or far below them, rounds alike whatever its power (sg_near). No program in sight. Plain: a fraction in its lowest terms, out of its sign and two numbers (mk_low); a fraction times a power of ten, across (tn_cross). No program in sight.
-/
namespace Go.Proofs.YtaddnoneoflimaaGreatDoor

open Go.RowKit Go.Lb

theorem sgM_same {E F N D N' D' : Nat} (hN : N ≠ 0) (hD : D ≠ 0) (hN' : N' ≠ 0) (hD' : D' ≠ 0) (h : N * D' = N' * D) (neg : Bool) (m : Nat) : sgM E F N D neg m = sgM E F N' D' neg m := by
  unfold sgM lwE
  rw [lgE_same hN hD hN' hD' h]
  exact rd_same (scD_pos (Nat.pos_of_ne_zero hD) _) (scD_pos (Nat.pos_of_ne_zero hD') _) (sc_cross h _) neg m

theorem sgX_same {E F N D N' D' : Nat} (hN : N ≠ 0) (hD : D ≠ 0) (hN' : N' ≠ 0) (hD' : D' ≠ 0) (h : N * D' = N' * D) : sgX E F N D = sgX E F N' D' := by
  unfold sgX lwE
  rw [lgE_same hN hD hN' hD' h]
  exact ex_same (scD_pos (Nat.pos_of_ne_zero hD) _) (scD_pos (Nat.pos_of_ne_zero hD') _) (sc_cross h _)

theorem sgK_same {F N D N' D' : Nat} (hN : N ≠ 0) (hD : D ≠ 0) (hN' : N' ≠ 0) (hD' : D' ≠ 0) (h : N * D' = N' * D) (neg : Bool) (m : Nat) : sgK F N D neg m = sgK F N' D' neg m := by
  unfold sgK
  rw [lgE_same hN hD hN' hD' h]
  exact rd_same (scD_pos (Nat.pos_of_ne_zero hD) _) (scD_pos (Nat.pos_of_ne_zero hD') _) (sc_cross h _) neg m

theorem fl_same {E F N D N' D' : Nat} (hN : N ≠ 0) (hD : D ≠ 0) (hN' : N' ≠ 0) (hD' : D' ≠ 0) (h : N * D' = N' * D) (neg : Bool) (m : Nat) : flB E F N D neg m = flB E F N' D' neg m ∧ flG E F N D neg m = flG E F N' D' neg m := by
  have h1 := sgM_same (E := E) (F := F) hN hD hN' hD' h neg m
  have h2 := sgX_same (E := E) (F := F) hN hD hN' hD' h
  have h3 := sgK_same (F := F) hN hD hN' hD' h neg m
  have h4 := lgE_same hN hD hN' hD' h
  have h5 : lwE E N D = lwE E N' D' := by unfold lwE; rw [h4]
  have h6 : Lb.sgB E F N D neg m = Lb.sgB E F N' D' neg m := by unfold Lb.sgB; rw [h1, h5]
  have h7 : ovB E F N D neg m = ovB E F N' D' neg m := by unfold ovB; rw [h6, h5]
  have h8 : tiny E F N D neg m = tiny E F N' D' neg m := by unfold tiny; rw [h4, h3]
  constructor
  · unfold flB; rw [h7, h6]
  · unfold flG; rw [h7, h2, h8]

theorem sgs_same {E F N D N' D' : Nat} (hD : D ≠ 0) (hD' : D' ≠ 0) (h : N * D' = N' * D) (s neg : Bool) (m : Nat) : sgBits E F N D s neg m = sgBits E F N' D' s neg m ∧ sgFlags E F N D s m = sgFlags E F N' D' s m := by
  by_cases hN : N = 0
  · have hN' : N' = 0 := by
      rw [hN, Nat.zero_mul] at h
      rcases Nat.mul_eq_zero.1 h.symm with h1 | h1
      · exact h1
      · exact absurd h1 hD
    rw [hN, hN']
    exact ⟨rfl, rfl⟩
  · have hN' : N' ≠ 0 := by
      intro hh
      rw [hh, Nat.zero_mul] at h
      rcases Nat.mul_eq_zero.1 h with h1 | h1
      · exact hN h1
      · exact hD' h1
    obtain ⟨h1, h2⟩ := fl_same (E := E) (F := F) hN hD hN' hD' h s m
    unfold sgBits sgFlags
    rw [if_neg hN, if_neg hN', if_neg hN, if_neg hN', h1, h2]
    exact ⟨rfl, rfl⟩

end Go.Proofs.YtaddnoneoflimaaGreatDoor

namespace Go.Proofs.YtaddnoneoflimaaGreatDoor

open Go.RowKit Go.Lb

/-- A fraction of a sign and two numbers. -/
def sgQ' (s : Bool) (N D : Nat) : Rat := mkRat (if s = true then -(N : Int) else (N : Int)) D

theorem mk_low {s : Bool} {N D : Nat} (hD : D ≠ 0) (hG : Nat.gcd N D = 1) (hs : s = true → N ≠ 0) : (sgQ' s N D).num.natAbs = N ∧ (sgQ' s N D).den = D ∧ decide ((sgQ' s N D).num < 0) = s := by
  have hz : (if s = true then -(N : Int) else (N : Int)).natAbs = N := by cases s <;> simp
  obtain ⟨e1, e2, e3⟩ := mk_parts (if s = true then -(N : Int) else (N : Int)) hD
  rw [hz, hG, Nat.div_one] at e1 e2
  refine ⟨e1, e2, Eq.trans e3 ?_⟩
  cases s
  · exact decide_eq_false (by simp)
  · have := hs rfl
    exact decide_eq_true (by simp; omega)

end Go.Proofs.YtaddnoneoflimaaGreatDoor

/-
  Plain: rounding keeps the order (fl_mono). No program in sight.
-/
namespace Go.Proofs.YtaddnoneoflimaaGreatDoor

open Go.RowKit Go.Lb

/-- A float's bits as a number that rises with its worth. -/
def keyZ (E F b : Nat) : Int := if 2 ^ (E + F) ≤ b then -((b - 2 ^ (E + F) : Nat) : Int) else (b : Int)

theorem fl_lt {E F : Nat} (N D : Nat) (neg : Bool) (m : Nat) : flB E F N D neg m < 2 ^ (E + F) := by
  have h1 := flB_le E F N D neg m
  have h2 : 0 < 2 ^ F := Nat.two_pow_pos F
  have h3 : 2 ^ F ≤ 2 ^ (E + F) := Nat.pow_le_pow_right (by decide) (by omega)
  unfold infN at h1
  omega

end Go.Proofs.YtaddnoneoflimaaGreatDoor

/-
  Plain: of a fraction the whole numbers by Down and Up lie one on each side of it, at most one apart; which of the two Even and Away take. No program in sight.
-/
namespace Go.Lb

open Go.RowKit Go.Proofs.YtaddnoneoflimaaGreatDoor

/-- A number with its sign. -/
def sgZ (s : Bool) (R : Nat) : Int := if s = true then -(R : Int) else (R : Int)

/-- How two whole numbers stand. -/
def cmpZ (x y : Int) : Int := if x < y then -1 else if y < x then 1 else 0

/-- How far Up lies from Down. -/
def dlN (N D : Nat) : Nat := if N % D = 0 then 0 else 1

theorem sides_rd (N D : Nat) (s : Bool) : rdN N D s 2 = N / D ∧ rdN N D s 3 = N / D + (if s = true then 0 else dlN N D) ∧ rdN N D s 4 = N / D + (if s = true then dlN N D else 0) := by
  unfold rdN dlN mdB
  by_cases h : N % D = 0 <;> cases s <;> simp [h]

theorem sides_near (N D : Nat) (s : Bool) : rdN N D s 0 = N / D + (if dlN N D = 0 then 0 else if 0 < cmpN (2 * (N % D)) D ∨ cmpN (2 * (N % D)) D = 0 ∧ N / D % 2 = 1 then 1 else 0) ∧ rdN N D s 1 = N / D + (if dlN N D = 0 then 0 else if 0 ≤ cmpN (2 * (N % D)) D then 1 else 0) := by
  unfold rdN dlN mdB
  by_cases h : N % D = 0 <;> simp [h]

/-- What Down and Up are; which of the two Even and Away take, by what lies on each side. -/
theorem sides_take {N D : Nat} (hD : 0 < D) (s : Bool) :
    sgZ s (rdN N D s 4) * D ≤ sgZ s N ∧ sgZ s N ≤ sgZ s (rdN N D s 3) * D ∧ sgZ s (rdN N D s 3) = sgZ s (rdN N D s 4) + dlN N D ∧
    ∀ c, c = cmpZ (2 * sgZ s N) ((sgZ s (rdN N D s 3) + sgZ s (rdN N D s 4)) * D) →
      rdN N D s 0 = (if 0 < c ∨ c = 0 ∧ rdN N D s 4 % 2 = 1 ∧ dlN N D = 1 then rdN N D s 3 else rdN N D s 4) ∧
      rdN N D s 1 = (if 0 < c ∨ c = 0 ∧ s = false then rdN N D s 3 else rdN N D s 4) := by
  obtain ⟨_, h3, h4⟩ := sides_rd N D s
  obtain ⟨h0, h1⟩ := sides_near N D s
  rw [h3, h4, h0, h1]
  have e := Nat.div_add_mod N D
  have hr := Nat.mod_lt N hD
  have hd : (dlN N D = 0 ∧ N % D = 0) ∨ (dlN N D = 1 ∧ N % D ≠ 0) := by unfold dlN; split <;> simp [*]
  clear h0 h1 h3 h4
  generalize N / D = k at *
  generalize N % D = r at *
  generalize dlN N D = d at *
  have e2 : ((k : Int)) * D = ((D * k : Nat) : Int) := by push_cast; exact Int.mul_comm _ _
  have e3 : ((k + 1 : Nat) : Int) * D = ((D * k : Nat) : Int) + D := by push_cast; rw [Int.add_mul, Int.one_mul, Int.mul_comm]
  generalize D * k = P at *
  unfold sgZ cmpZ cmpN
  rcases hd with ⟨rfl, rfl⟩ | ⟨rfl, hr0⟩
  · cases s
    · simp only [Bool.false_eq_true, if_false, Nat.add_zero, if_true, Int.add_mul, e2]
      refine ⟨by omega, by omega, by omega, ?_⟩
      intro c hc
      simp
    · simp only [if_true, Nat.add_zero, Int.add_mul, Int.neg_mul, e2]
      refine ⟨by omega, by omega, by omega, ?_⟩
      intro c hc
      simp
  · cases s
    · simp only [Bool.false_eq_true, if_false, Nat.add_zero, Int.add_mul, e2, e3]
      refine ⟨by omega, by omega, by omega, ?_⟩
      rintro c rfl
      constructor <;> (repeat' split) <;> simp_all <;> omega
    · simp only [if_true, Nat.add_zero, Int.add_mul, Int.neg_mul, e2, e3]
      refine ⟨by omega, by omega, by omega, ?_⟩
      rintro c rfl
      constructor <;> (repeat' split) <;> simp_all <;> omega

theorem sgQ_num {s : Bool} {N D : Nat} (hD : D ≠ 0) (hG : Nat.gcd N D = 1) : (sgQ' s N D).num = sgZ s N ∧ (sgQ' s N D).den = D := by
  unfold sgQ' sgZ
  have hg : D.gcd (if s = true then -(N : Int) else (N : Int)).natAbs = 1 := by
    cases s <;> simp [Nat.gcd_comm, hG]
  constructor
  · rw [Rat.num_mkRat, if_neg hD, hg]
    simp
  · rw [Rat.den_mkRat, if_neg hD, hg]
    simp

/-- Less and greater of a fraction and a whole number of units. -/
theorem unit_le {x u : Rat} {B : Nat} {Z : Int} (hB : 0 < B) (hu : 0 < u) (hx : x * B = Z * u) (W : Int) : ((W : Rat) * u ≤ x ↔ W * B ≤ Z) ∧ (x ≤ (W : Rat) * u ↔ Z ≤ W * B) := by
  have hb : (0 : Rat) < (B : Rat) := Rat.natCast_pos.2 hB
  constructor
  · constructor
    · intro h
      have h1 := Rat.mul_le_mul_of_nonneg_right h (Rat.le_of_lt hb)
      rw [hx, Rat.mul_assoc, Rat.mul_comm u, ← Rat.mul_assoc] at h1
      have h2 := Rat.le_of_mul_le_mul_right h1 hu
      have h3 : ((W * B : Int) : Rat) ≤ (Z : Rat) := by rw [Rat.intCast_mul]; exact h2
      exact Rat.intCast_le_intCast.1 h3
    · intro h
      have h3 : ((W * B : Int) : Rat) ≤ (Z : Rat) := Rat.intCast_le_intCast.2 h
      rw [Rat.intCast_mul] at h3
      have h1 := Rat.mul_le_mul_of_nonneg_right h3 (Rat.le_of_lt hu)
      rw [← hx, Rat.mul_assoc, Rat.mul_comm _ u, ← Rat.mul_assoc] at h1
      exact Rat.le_of_mul_le_mul_right h1 hb
  · constructor
    · intro h
      have h1 := Rat.mul_le_mul_of_nonneg_right h (Rat.le_of_lt hb)
      rw [hx, Rat.mul_assoc, Rat.mul_comm u, ← Rat.mul_assoc] at h1
      have h2 := Rat.le_of_mul_le_mul_right h1 hu
      have h3 : (Z : Rat) ≤ ((W * B : Int) : Rat) := by rw [Rat.intCast_mul]; exact h2
      exact Rat.intCast_le_intCast.1 h3
    · intro h
      have h3 : (Z : Rat) ≤ ((W * B : Int) : Rat) := Rat.intCast_le_intCast.2 h
      rw [Rat.intCast_mul] at h3
      have h1 := Rat.mul_le_mul_of_nonneg_right h3 (Rat.le_of_lt hu)
      rw [← hx, Rat.mul_assoc, Rat.mul_comm _ u, ← Rat.mul_assoc] at h1
      exact Rat.le_of_mul_le_mul_right h1 hb

theorem gaps_le (x a b : Rat) : (x - a ≤ b - x ↔ 2 * x ≤ a + b) ∧ (b - x ≤ x - a ↔ a + b ≤ 2 * x) := by
  constructor <;> constructor <;> intro h <;> grind

/-- How the gaps on both sides of a fraction stand: by whole numbers. -/
theorem gaps_cmp {x u : Rat} {B : Nat} {Z : Int} (hB : 0 < B) (hu : 0 < u) (hx : x * B = Z * u) (W V : Int) : cmpQ (x - (W : Rat) * u) ((V : Rat) * u - x) = cmpZ (2 * Z) ((V + W) * B) := by
  have h2 : (2 * x) * B = ((2 * Z : Int) : Rat) * u := by
    rw [Rat.mul_assoc, hx, Rat.intCast_mul, Rat.mul_assoc]
    rfl
  obtain ⟨p1, p2⟩ := unit_le hB hu h2 (V + W)
  obtain ⟨g1, g2⟩ := gaps_le x ((W : Rat) * u) ((V : Rat) * u)
  have e : ((V + W : Int) : Rat) * u = (W : Rat) * u + (V : Rat) * u := by rw [Rat.intCast_add, Rat.add_mul, Rat.add_comm]
  rw [e] at p1 p2
  unfold cmpQ cmpZ
  simp only [← Rat.not_le, ← Int.not_le, g1, g2, p1, p2]

theorem sides_two {N D m : Nat} (s : Bool) (hm : m < 5) : rdN N D s m = rdN N D s 4 ∨ rdN N D s m = rdN N D s 3 := by
  obtain ⟨h2, h3, h4⟩ := sides_rd N D s
  obtain ⟨h0, h1⟩ := sides_near N D s
  have hd : dlN N D = 0 ∨ dlN N D = 1 := by unfold dlN; split <;> simp
  have hmm : m = 0 ∨ m = 1 ∨ m = 2 ∨ m = 3 ∨ m = 4 := by omega
  rcases hmm with rfl | rfl | rfl | rfl | rfl
  · rw [h0, h3, h4]
    rcases hd with h | h <;> rw [h] <;> cases s <;> simp <;> (try split) <;> omega
  · rw [h1, h3, h4]
    rcases hd with h | h <;> rw [h] <;> cases s <;> simp <;> (try split) <;> omega
  · rw [h2, h3, h4]
    cases s <;> simp
  · exact .inr rfl
  · exact .inl rfl

end Go.Lb

/-
  Contracts of numeral/numeralref05: unit, Least, Greatest, Sign, beyond. Contracts of numeral/numeralref05: Pack.
-/
namespace Go.Proofs.YtaddnoneoflimaaGreatDoor

open Go.RowKit Go.Lb

theorem pow_bounds {E F : Nat} (hE : 2 ≤ E) (hE2 : E ≤ 11) (hF : F ≤ 52) : 2 ^ F ≤ 2 ^ 52 ∧ 4 * 2 ^ F ≤ 2 ^ (E + F) ∧ 2 ^ (E + F) ≤ 2 ^ 63 := by
  refine ⟨Nat.pow_le_pow_right (by decide) hF, ?_, Nat.pow_le_pow_right (by decide) (by omega)⟩
  rw [show (4 : Nat) = 2 ^ 2 from rfl, ← Nat.pow_add]
  exact Nat.pow_le_pow_right (by decide) (by omega)

end Go.Proofs.YtaddnoneoflimaaGreatDoor

namespace Go.Proofs.YtaddnoneoflimaaGreatDoor

open Go.RowKit Go.Lb

attribute [local go_sem] Go.World.cell?_alloc_some

end Go.Proofs.YtaddnoneoflimaaGreatDoor

/-
  Contracts of numeral/numeralref05: Two.
-/
namespace Go.Proofs.YtaddnoneoflimaaGreatDoor

open Go.RowKit Go.Lb

attribute [local go_sem] Go.World.cell?_alloc_some

/-- May it be a dyadic? -/
def twoB (neg : Bool) (xs : List Nat) (x : Int) : Bool := decide (dchk neg xs x = 0)

theorem two_odd {neg : Bool} {xs : List Nat} {x : Int} (h : chk xs = 0) (hl : xs.length ≠ 0) (h1 : ¬ x > 1073741824) (h2 : ¬ x < -1073741824) : twoB neg xs x = decide (nth xs 0 % 2 = 1) := by
  unfold twoB dchk
  have hf : farB x = false := by unfold farB; simp; omega
  rw [if_neg (by simp [h]), if_neg hl, hf]
  by_cases hx : nth xs 0 % 2 = 0
  · simp [hx]
  · have : nth xs 0 % 2 = 1 := by omega
    simp [this]

end Go.Proofs.YtaddnoneoflimaaGreatDoor

/-
  Contract of numeral/round: Dyadic.
-/
namespace Go.Proofs.YtaddnoneoflimaaGreatDoor

open Go.RowKit Go.Lb

attribute [local go_sem] Go.World.cell?_alloc_some

attribute [local go_sem ↓] Go.wp_at_zero Go.wp_at_succ

/-- What Dyadic rounds: above the line, below it. -/
def dyN (N : Nat) (x : Int) : Nat := N * 2 ^ (nearZ x (blN N)).toNat

def dyD (N : Nat) (x : Int) : Nat := 1 * 2 ^ (-(nearZ x (blN N))).toNat

/-- Dyadic's answers: the error, the bits, the flags. -/
def dyErr (e f : Int) (s : Bool) (xs : List Nat) (x : Int) (m : Nat) : Int := if formE e f ≠ 0 then 5 else if twoB s xs x = false then 40 else if 4 < m then 7 else 0

def dyBits (e f : Int) (s : Bool) (xs : List Nat) (x : Int) (neg : Bool) (m : Nat) : Nat := if dyErr e f s xs x m = 0 then sgBits e.toNat f.toNat (dyN (val xs) x) (dyD (val xs) x) s neg m else 0

def dyFlags (e f : Int) (s : Bool) (xs : List Nat) (x : Int) (m : Nat) : Nat := if dyErr e f s xs x m = 0 then sgFlags e.toNat f.toNat (dyN (val xs) x) (dyD (val xs) x) s m else 0

theorem iz_set2 {w : World} {base b p : Nat} {z : Int} (h : Iz 23 w base b z) (hne : b ≠ p) (hd : Hd 23 w p) (u v : Value) : Iz 23 ((w.setCell ⟨p, 0, none⟩ u).setCell ⟨p, 1, none⟩ v) base b z := by
  obtain ⟨ao, k, c, i⟩ := h
  exact ⟨ao, k, c, i.other (grown_trans (grown_set w p 0 u) (grown_set _ p 1 v)) hne (fr_hd i.fr hd)⟩

theorem iz_ne {w : World} {base b p : Nat} {z : Int} {q : Option Addr} (h : Iz 23 w base b z) (hc : w.cell? ⟨p, 0, none⟩ = some (.pointer q)) : b ≠ p := by
  rintro rfl
  obtain ⟨ao, k, c, i⟩ := h
  rw [i.c0] at hc
  cases hc

theorem cell_off2 {w : World} {b i p : Nat} {u v x : Value} (h : w.cell? ⟨b, i, none⟩ = some x) (hne : b ≠ p) : ((w.setCell ⟨p, 0, none⟩ u).setCell ⟨p, 1, none⟩ v).cell? ⟨b, i, none⟩ = some x :=
  (World.cell?_setCell_other _ _ _ _ (fun e => hne (congrArg Addr.block e).symm)).trans ((World.cell?_setCell_other _ _ _ _ (fun e => hne (congrArg Addr.block e).symm)).trans h)

set_option maxRecDepth 100000 in
set_option maxHeartbeats 6000000 in
theorem rdDyadic_ok (ao : Option Addr) (n c E F m : Nat) (x : Int) (s neg : Bool) (xs : List Nat) (w : World) (h : Sl w ao n c xs) (hm : m < 5) (l1 : n ≤ 400) (hE2 : 2 ≤ E) (hE11 : E ≤ 11) (hF1 : 1 ≤ F) (hF52 : F ≤ 52) (hf : formE (E : Int) (F : Int) = 0) (hr : twoB s xs x = true) :
    Calls Tryz.prog 170 #[.agg #[.int .i64 (E : Int), .int .i64 (F : Int)], .agg #[.bool s, .slice ao n c, .int .i64 x], .bool neg, .int .u8 (m : Int)] w fun e w' => e = .returned (.tuple #[.int .u64 (sgBits E F (dyN (val xs) x) (dyD (val xs) x) s neg m : Int), .int .u8 (sgFlags E F (dyN (val xs) x) (dyD (val xs) x) s m : Int), .int .i64 0]) ∧ Below w.heap.size w w' := by
  obtain ⟨W2, hW2⟩ : ∃ W2 : World, W2 = (w.alloc (.cells #[.int .i64 (E : Int), .int .i64 (F : Int)] 31)).alloc (.cells #[.bool s, .slice ao n c, .int .i64 x] 90) := ⟨_, rfl⟩
  have hb2 : Below w.heap.size w W2 := hW2 ▸ more (more (Below.refl _ _) _) _
  have c0 : W2.cell? ⟨w.heap.size, 0, none⟩ = some (.int .i64 (E : Int)) := by rw [hW2]; simp [World.cell?_alloc_some]
  have c1 : W2.cell? ⟨w.heap.size, 1, none⟩ = some (.int .i64 (F : Int)) := by rw [hW2]; simp [World.cell?_alloc_some]
  have D2 : Box3 W2 (w.heap.size + 1) (.bool s) (.slice ao n c) (.int .i64 x) := by
    have := box3_new (w.alloc (.cells #[.int .i64 (E : Int), .int .i64 (F : Int)] 31)) (.bool s) (.slice ao n c) (.int .i64 x) 90
    rw [World.size_alloc] at this
    exact hW2 ▸ this
  have hFc := formCheck_any (E : Int) (F : Int) W2
  rw [hf] at hFc
  have hdc : dchk s xs x = 0 := of_decide_eq_true hr
  have hRc : ∀ W, Below w.heap.size w W → Calls Tryz.prog 215 #[.agg #[.bool s, .slice ao n c, .int .i64 x]] W fun e w' => e = .returned (.int .i64 0) ∧ Below W.heap.size W w' := fun W hW => by
    have := dyCheck_any s ao n c x xs W (h.below hW)
    rwa [hdc] at this
  have hL1 : ∀ W, Below w.heap.size w W → Calls Tryz.prog 219 #[.agg #[.slice ao n c]] W (MkZ 23 (val xs : Int) W) := fun W hW => rdLarge_any ao n c xs W (h.below hW) (by omega)
  have hlN : ln (val xs) ≤ 400 := Nat.le_trans (ln_le (val_lt h.ok)) (by rw [h.len]; exact l1)
  have hm4 : ¬ (m : Int) > 4 := by omega
  generalize val xs = N at *
  have m1 := bl_le N
  obtain ⟨nb, hnb⟩ : ∃ nb, nb = blN N := ⟨_, rfl⟩
  obtain ⟨nz, hnz⟩ : ∃ nz, nz = nearZ x (blN N) := ⟨_, rfl⟩
  have hz1 : -14000 ≤ nz ∧ nz ≤ 14000 := by rw [hnz]; unfold nearZ; omega
  have HA : Hid (scN N nz = dyN N x ∧ scD 1 nz = dyD N x) := Lib.hid (by rw [hnz]; exact ⟨rfl, rfl⟩)
  have hNr := fun W => rdNear_any x nb W (by omega)
  rw [hnb, ← hnz, ← hnb] at hNr
  have hB1 : ∀ W BB q, Iz 23 W BB q (N : Int) → Calls Tryz.prog 266 #[.pointer (some ⟨q, 0, none⟩)] W fun e w' => e = .returned (.int .i64 (nb : Int)) ∧ W = w' := fun W BB q hi => by
    have := bgBitLenZ_any q BB (N : Int) W hi (by rw [Int.natAbs_natCast]; omega)
    rw [Int.natAbs_natCast] at this
    rw [hnb]
    exact this
  have hTm : ∀ W b1 b2 B1 B2, Iz 23 W B1 b1 (N : Int) → Iz 23 W B2 b2 1 → Calls Tryz.prog 264 #[.agg #[.pointer (some ⟨b1, 0, none⟩), .pointer (some ⟨b2, 0, none⟩)], .int .i64 nz] W (TmP (scN N nz) (scD 1 nz) W) := fun W b1 b2 B1 B2 i1 i2 => rdTimes_any B1 B2 b1 b2 N 1 nz W i1 i2 (by omega) (by rw [ln_one]; omega) (by omega) (by omega)
  have hNw : ∀ W, Calls Tryz.prog 263 #[.int .i64 1] W (MkZ 23 1 W) := fun W => bgNewZ_any 1 W (by decide)
  have hSg : ∀ W b1 b2 B1 B2, Iz 23 W B1 b1 ((scN N nz : Nat) : Int) → Iz 23 W B2 b2 ((scD 1 nz : Nat) : Int) → Calls Tryz.prog 267 #[.agg #[.int .i64 (E : Int), .int .i64 (F : Int)], .agg #[.pointer (some ⟨b1, 0, none⟩), .pointer (some ⟨b2, 0, none⟩)], .bool s, .bool neg, .int .u8 (m : Int)] W fun e w' => e = .returned (.tuple #[.int .u64 (sgBits E F (dyN N x) (dyD N x) s neg m : Int), .int .u8 (sgFlags E F (dyN N x) (dyD N x) s m : Int), .int .i64 0]) ∧ Below W.heap.size W w' := fun W b1 b2 B1 B2 i1 i2 => by
    have k1 : ln (scN N nz) ≤ 65536 := by
      have := ln_shl N nz.toNat
      unfold scN
      omega
    have k2 : ln (scD 1 nz) ≤ 65536 := by
      have := ln_shl 1 (-nz).toNat
      rw [ln_one] at this
      unfold scD
      omega
    have := rdSigned_any B1 B2 b1 b2 (scN N nz) (scD 1 nz) E F m s neg W i1 i2 (Nat.ne_of_gt (scD_pos (by decide) _)) hm k1 k2 hE2 hE11 hF1 hF52
    rwa [HA.out.1, HA.out.2] at this
  generalize sgBits E F (dyN N x) (dyD N x) s neg m = bb at *
  generalize sgFlags E F (dyN N x) (dyD N x) s m = gg at *
  generalize scN N nz = A at *
  generalize scD 1 nz = B at *
  clear hf hr hdc h l1 HA hnz hnb m1 hz1 hlN
  go_enter Tryz.func170, Tryz.ntmps170
  go_wp2_with fail
  rw [← hW2]
  clear hW2
  refine hFc.mono ?_
  rintro en w3 ⟨rfl, hb3⟩
  have V3 := next hb2 hb3
  have D3 := D2.stay hb3
  have e0 := cellStay c0 hb3
  have e1 := cellStay c1 hb3
  have ⟨d0, d1, d2, _, _, _⟩ := D3
  clear c0 c1 D2 hFc
  go_wp2_with fail
  refine (hRc w3 V3).mono ?_
  rintro en w4 ⟨rfl, hb4⟩
  have V4 := next V3 hb4
  have D4 := D3.stay hb4
  have f0 := cellStay e0 hb4
  have f1 := cellStay e1 hb4
  clear e0 e1 d0 d1 d2 D3 hRc hb3 hb4 hb2
  have ⟨d0, d1, d2, _, _, _⟩ := D4
  go_wp2_with fail
  refine (hL1 w4 V4).mono ?_
  rintro en w5 ⟨q1, rfl, I1, hb5⟩
  clear d0 d1 d2 hL1
  go_wp2_with fail
  refine (hNw w5).mono ?_
  rintro en w6 ⟨q2, rfl, I2, hb6⟩
  have U7 := more (next hb5 hb6) (.cells #[.pointer (some ⟨q1, 0, none⟩), .pointer (some ⟨q2, 0, none⟩)] 312)
  have I1' := (I1.stay hb6).stay (more (Below.refl _ _) (.cells #[.pointer (some ⟨q1, 0, none⟩), .pointer (some ⟨q2, 0, none⟩)] 312))
  have I2' := I2.stay (more (Below.refl _ _) (.cells #[.pointer (some ⟨q1, 0, none⟩), .pointer (some ⟨q2, 0, none⟩)] 312))
  have p0 : (w6.alloc (.cells #[.pointer (some ⟨q1, 0, none⟩), .pointer (some ⟨q2, 0, none⟩)] 312)).cell? ⟨w6.heap.size, 0, none⟩ = some (.pointer (some ⟨q1, 0, none⟩)) := by simp
  have p1 : (w6.alloc (.cells #[.pointer (some ⟨q1, 0, none⟩), .pointer (some ⟨q2, 0, none⟩)] 312)).cell? ⟨w6.heap.size, 1, none⟩ = some (.pointer (some ⟨q2, 0, none⟩)) := by simp
  have z0 : (w6.alloc (.cells #[.pointer (some ⟨q1, 0, none⟩), .pointer (some ⟨q2, 0, none⟩)] 312)).frozen? ⟨w6.heap.size, 0, none⟩ = false := by simp [go_sem]
  have z1 : (w6.alloc (.cells #[.pointer (some ⟨q1, 0, none⟩), .pointer (some ⟨q2, 0, none⟩)] 312)).frozen? ⟨w6.heap.size, 1, none⟩ = false := by simp [go_sem]
  have Hp : Hd 23 (w6.alloc (.cells #[.pointer (some ⟨q1, 0, none⟩), .pointer (some ⟨q2, 0, none⟩)] 312)) w6.heap.size := hd_new w6 _ (by decide)
  have hpl : w6.heap.size < (w6.alloc (.cells #[.pointer (some ⟨q1, 0, none⟩), .pointer (some ⟨q2, 0, none⟩)] 312)).heap.size := by simp
  have hwp : w.heap.size ≤ w6.heap.size := Nat.le_trans V4.size (next hb5 hb6).size
  have hwp2 : w.heap.size + 1 < w6.heap.size := Nat.lt_of_lt_of_le D4.lt (next hb5 hb6).size
  go_upto_region 8 with fail
  obtain ⟨p, hp⟩ : ∃ p, p = w6.heap.size := ⟨_, rfl⟩
  rw [← hp] at p0 p1 z0 z1 Hp hpl hwp hwp2 ⊢
  clear hp I1 I2 hb5 hb6 hNw
  generalize w6.alloc (.cells #[.pointer (some ⟨q1, 0, none⟩), .pointer (some ⟨q2, 0, none⟩)] 312) = w7 at U7 I1' I2' p0 p1 z0 z1 Hp hpl ⊢
  have D7 := D4.stay U7
  have g0 := cellStay f0 U7
  have g1 := cellStay f1 U7
  have V7 := next V4 U7
  clear f0 f1 D4 U7 V4
  have lD := D7.lt
  have lF := World.block_lt_of_cell? w7 ⟨w.heap.size, 0, none⟩ g0
  have x2 := D7.c2
  go_cut [] from 28 (fun wx => ∃ b1 b2, wx.cell? ⟨p, 0, none⟩ = some (.pointer (some ⟨b1, 0, none⟩)) ∧ wx.cell? ⟨p, 1, none⟩ = some (.pointer (some ⟨b2, 0, none⟩)) ∧ Iz 23 wx 0 b1 (A : Int) ∧ Iz 23 wx 0 b2 (B : Int) ∧ Below w.heap.size w wx ∧ wx.cell? ⟨w.heap.size, 0, none⟩ = some (.int .i64 (E : Int)) ∧ wx.cell? ⟨w.heap.size, 1, none⟩ = some (.int .i64 (F : Int)) ∧ wx.cell? ⟨w.heap.size + 1, 0, none⟩ = some (.bool s))
  case first =>
    go_region_with (first
      | (go_at_call 266; (with_reducible refine (hB1 _ _ _ (I1'.stay ?_)).mono ?_); (first | exact Below.refl _ _ | exact (Below.refl _ _).drew | exact (Below.refl _ _).drew.drew); rintro en wB ⟨rfl, rfl⟩)
      | (go_at_call 265; (with_reducible refine (hNr _).mono ?_); rintro en wB ⟨rfl, rfl⟩)
      | (go_at_call 264; (with_reducible refine (hTm _ _ _ _ _ (I1'.stay ?_) (I2'.stay ?_)).mono ?_); (focus (first | exact Below.refl _ _ | exact (Below.refl _ _).drew | exact (Below.refl _ _).drew.drew)); (focus (first | exact Below.refl _ _ | exact (Below.refl _ _).drew | exact (Below.refl _ _).drew.drew)); rintro en wC ⟨b1, b2, rfl, J1, J2, hbC⟩; have hC : Below w7.heap.size w7 wC := (by first | exact hbC | exact undrew hbC | exact undrew (undrew hbC)); have t0 := cellStay p0 hC; have t1 := cellStay p1 hC; have y0 := (hC.frozen (p := ⟨p, 0, none⟩) hpl).trans z0; have y1 := (hC.frozen (p := ⟨p, 1, none⟩) hpl).trans z1; have HC := Hp.stay hpl hC; have s0 := cellStay g0 hC; have s1 := cellStay g1 hC; have s2 := cellStay D7.c0 hC))
    all_goals go_wp2
    all_goals go_meet
    all_goals exact ⟨b1, b2, (World.cell?_setCell_other _ _ _ _ (by simp)).trans (World.cell?_setCell_same _ _ _ t0), World.cell?_setCell_same _ _ _ ((World.cell?_setCell_other _ _ _ _ (by simp)).trans t1), iz_set2 J1 (iz_ne J1 t0) HC _ _, iz_set2 J2 (iz_ne J2 t0) HC _ _, ((next V7 hC).setCell hwp _).setCell hwp _, (cell_off2 s0 (by omega)), (cell_off2 s1 (by omega)), (cell_off2 s2 (by omega))⟩
  case rest =>
    obtain ⟨b1, b2, t0, t1, J1, J2, Vx, s0, s1, s2⟩ := hcut
    go_wp2_with fail
    refine (hSg _ _ _ _ _ J1 J2).mono ?_
    rintro en w9 ⟨rfl, hb9⟩
    go_wp2
    go_ret3
    exact ⟨rfl, next Vx hb9⟩

end Go.Proofs.YtaddnoneoflimaaGreatDoor

