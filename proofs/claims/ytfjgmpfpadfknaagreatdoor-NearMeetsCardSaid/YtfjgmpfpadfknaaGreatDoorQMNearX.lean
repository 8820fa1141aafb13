/-
  Plain: what ends a float's reach begins that of its upper neighbour, and is in just one of the two.
-/
import Derived.Test.YtfjgmpfpadfknaaGreatDoorQNbBase
import Derived.Test.YtfjgmpfpadfknaaGreatDoorQMNearW
namespace Go.Proofs.YtfjgmpfpadfknaaGreatDoor

open Go.RowKit Go.Lb

theorem uniq_div {P a b c d : Nat} (hb : b < P) (hd : d < P) (h : a * P + b = c * P + d) : a = c ∧ b = d := by
  have hp : 0 < P := by omega
  have e1 : (a * P + b) / P = a := by rw [Nat.mul_comm, Nat.mul_add_div hp, Nat.div_eq_of_lt hb, Nat.add_zero]
  have e2 : (c * P + d) / P = c := by rw [Nat.mul_comm, Nat.mul_add_div hp, Nat.div_eq_of_lt hd, Nat.add_zero]
  have h1 : a = c := by rw [← e1, h, e2]
  subst h1
  exact ⟨rfl, by omega⟩

theorem gN_next {e f m : Nat} (h : m + 1 < pw (e + f)) : gN e f (m + 1) = gN e f m + 2 ^ (max (exN e f m) 1 - 1) := by
  have hp := pw_pos f
  have la : frN f m < pw f := by rw [frN_eq]; exact Nat.mod_lt _ hp
  have lb : frN f (m + 1) < pw f := by rw [frN_eq]; exact Nat.mod_lt _ hp
  have p1 := mg_parts e f m
  have p2 := mg_parts e f (m + 1)
  rw [mag_self (by omega)] at p1
  rw [mag_self h] at p2
  have hx : ∀ b, (vX e f b - baseI e f).toNat = max (exN e f b) 1 - 1 := fun b => by
    unfold vX baseI
    by_cases h0 : exN e f b = 0
    · rw [if_pos h0, h0]; omega
    · rw [if_neg h0]; omega
  unfold gN upW
  rw [hx, hx]
  unfold vN
  by_cases hc : frN f m + 1 < pw f
  · obtain ⟨q1, q2⟩ := uniq_div (P := pw f) (a := exN e f (m + 1)) (b := frN f (m + 1)) (c := exN e f m) (d := frN f m + 1) lb hc (by omega)
    rw [q1, q2]
    by_cases h0 : exN e f m = 0
    · rw [if_pos h0, if_pos h0, h0]; simp
    · rw [if_neg h0, if_neg h0, ← Nat.add_assoc, Nat.add_mul, Nat.one_mul]
  · have hc' : frN f m + 1 = pw f := by omega
    obtain ⟨q1, q2⟩ := uniq_div (P := pw f) (a := exN e f (m + 1)) (b := frN f (m + 1)) (c := exN e f m + 1) (d := 0) lb hp (by rw [Nat.add_mul, Nat.one_mul]; omega)
    rw [q1, q2]
    by_cases h0 : exN e f m = 0
    · rw [if_neg (by omega), if_pos h0, h0]; simp; omega
    · rw [if_neg (by omega), if_neg h0, Nat.add_zero, show max (exN e f m + 1) 1 - 1 = (exN e f m - 1) + 1 by omega, show max (exN e f m) 1 - 1 = exN e f m - 1 by omega, Nat.pow_succ]
      generalize 2 ^ (exN e f m - 1) = Z
      have h1 : (pw f + frN f m) * Z + Z = (pw f + frN f m + 1) * Z := by rw [Nat.add_mul (pw f + frN f m) 1, Nat.one_mul]
      rw [h1, show pw f + frN f m + 1 = 2 * pw f by omega, Nat.mul_comm Z 2, ← Nat.mul_assoc, Nat.mul_comm (pw f) 2]

/-- The next one out is the upper neighbour's worth. -/
theorem fa_next {e f m : Nat} (hf : formE (e : Int) (f : Int) = 0) (h : m + 1 < ifN e f) : faD e f m = valD (e : Int) (f : Int) (m + 1) := by
  obtain ⟨q1, q2, q3, q4⟩ := formE_ok hf
  have hi := (if_lt hf).2
  have hm : m < pw (e + f) := by omega
  have hm1 : m < pw (1 + e + f) := by rw [pw_one_more]; omega
  have hn1 : m + 1 < pw (1 + e + f) := by rw [pw_one_more]; omega
  have hx : exN e f m ≠ maskN e := fin_iff.2 (by rw [mag_self hm]; omega)
  have hy : exN e f (m + 1) ≠ maskN e := fin_iff.2 (by rw [mag_self (by omega)]; omega)
  obtain ⟨e1, w1⟩ := valD_ok (fits_bits hf hm1) hx (by omega) (by omega)
  obtain ⟨e2, w2⟩ := valD_ok (fits_bits hf hn1) hy (by omega) (by omega)
  obtain ⟨d2, g2⟩ := un_bd hf hx
  obtain ⟨e3, _⟩ := reach_facts hf hm hx
  have s1 : sgB e f m = false := by have := sg_mg e f m; rwa [mag_self hm] at this
  have s2 : sgB e f (m + 1) = false := by have := sg_mg e f (m + 1); rwa [mag_self (by omega)] at this
  rw [s1] at w1
  rw [s2] at w2
  have w3 := addA_worth w1.dy d2 w1.low g2.low e3
  have hu : wI false 1 (unI e f m) (baseI e f) = ((2 ^ (max (exN e f m) 1 - 1) : Nat) : Int) := by
    unfold wI sgI upW unI
    rw [if_neg (by decide), Nat.one_mul, show (baseI e f + ((max (exN e f m) 1 : Nat) : Int) - 1 - baseI e f).toNat = max (exN e f m) 1 - 1 by omega]
  have w1w := w1.wo
  rw [w1w, hu] at w3
  refine dy_same w3 w2 ?_ (by rw [e2]; exact e3)
  rw [gN_next (by omega)]
  unfold sgI
  simp

theorem rc_meet {e f m : Nat} (hf : formE (e : Int) (f : Int) = 0) (h : m + 1 < ifN e f) (M : Nat) : rcO e f m M = rcI e f (m + 1) M ∧ rco m M ≠ rci (m + 1) M := by
  have hb : bfD e f (m + 1) = valD (e : Int) (f : Int) m := by unfold bfD; rw [if_neg (by omega), Nat.add_sub_cancel]
  constructor
  · unfold rcO rcI
    rw [hb, fa_next hf h]
  · unfold rco rci
    by_cases h2 : M = 2
    · rw [if_pos h2, if_pos h2]; decide
    · rw [if_neg h2, if_neg h2]
      by_cases h3 : M = 3
      · rw [if_pos h3, if_pos h3]; simp
      · rw [if_neg h3, if_neg h3]
        by_cases h1 : M = 1
        · rw [if_pos h1, if_pos h1]; decide
        · rw [if_neg h1, if_neg h1]
          intro hh
          have := decide_eq_decide.1 hh
          omega

/-- What is told of the lower end; of the upper one. -/
def Lo (s : Bool) (D : Ds) (l : Bool) (w : World) (en : Ending) (w' : World) : Prop :=
  ∃ a1 n1 c1 a2 n2 c2 s2 a3 n3 c3 a4 n4 c4 o, en = .returned (.tuple #[.agg #[.bool s, .slice a1 n1 c1, .slice a2 n2 c2], .agg #[.bool s2, .slice a3 n3 c3, .slice a4 n4 c4], .bool l, .bool o, .int .i64 0]) ∧ Fr 75 w' w.heap.size a1 n1 c1 (limbs (upN D.N D.x)) ∧ Fr 75 w' w.heap.size a2 n2 c2 (limbs (upD D.x)) ∧ Below w.heap.size w w'

def Hi (s : Bool) (D : Ds) (h : Bool) (w : World) (en : Ending) (w' : World) : Prop :=
  ∃ a1 n1 c1 a2 n2 c2 s1 a3 n3 c3 a4 n4 c4 i, en = .returned (.tuple #[.agg #[.bool s1, .slice a3 n3 c3, .slice a4 n4 c4], .agg #[.bool s, .slice a1 n1 c1, .slice a2 n2 c2], .bool i, .bool h, .int .i64 0]) ∧ Fr 75 w' w.heap.size a1 n1 c1 (limbs (upN D.N D.x)) ∧ Fr 75 w' w.heap.size a2 n2 c2 (limbs (upD D.x)) ∧ Below w.heap.size w w'

theorem rch_lo {s1 s2 : Bool} {L H : Ds} {i o : Bool} {w w' : World} {en : Ending} (h : Rch s1 s2 L H i o w en w') : Lo s1 L i w en w' := by
  obtain ⟨a1, n1, c1, a2, n2, c2, a3, n3, c3, a4, n4, c4, rfl, F1, F2, F3, F4, _, hb⟩ := h
  exact ⟨a1, n1, c1, a2, n2, c2, s2, a3, n3, c3, a4, n4, c4, o, rfl, F1, F2, hb⟩

theorem rch_hi {s1 s2 : Bool} {L H : Ds} {i o : Bool} {w w' : World} {en : Ending} (h : Rch s1 s2 L H i o w en w') : Hi s2 H o w en w' := by
  obtain ⟨a1, n1, c1, a2, n2, c2, a3, n3, c3, a4, n4, c4, rfl, F1, F2, F3, F4, _, hb⟩ := h
  exact ⟨a3, n3, c3, a4, n4, c4, s1, a1, n1, c1, a2, n2, c2, i, rfl, F3, F4, hb⟩

/-- The magnitude's ends may be taken as fractions, with either sign. -/
theorem end_rat {e f m : Nat} (hf : formE (e : Int) (f : Int) = 0) (hp : m < pw (e + f)) (hx : exN e f m ≠ maskN e) (M : Nat) (s : Bool) (D : Ds) (hD : D = rcI e f m M ∨ D = rcO e f m M) (hs : s = true → D.N ≠ 0) : ratB s (limbs (upN D.N D.x)) (limbs (upD D.x)) = true := by
  obtain ⟨dI, gI, dO, gO⟩ := mean_bds hf hp hx M
  obtain ⟨s1, s2, _⟩ := rc_s hf hp hx M
  obtain ⟨b1, b2, b3, b4⟩ := base_small hf
  rw [s1] at dI
  rw [s2] at dO
  have key : ratB false (limbs (upN D.N D.x)) (limbs (upD D.x)) = true := by
    rcases hD with rfl | rfl
    · exact (low6 dI gI (by omega) (by omega) (by omega)).1
    · exact (low6 dO gO (by omega) (by omega) (by omega)).1
  unfold ratB at key ⊢
  have k := of_decide_eq_true key
  refine decide_eq_true ⟨k.1, k.2.1, k.2.2.1, k.2.2.2.1, fun h => ?_⟩
  rw [val_limbs']
  unfold upN
  exact Nat.mul_ne_zero (hs h) (Nat.ne_of_gt (Nat.two_pow_pos _))

theorem cmpQ_self (q : Rat) : cmpQ q q = 0 := by
  unfold cmpQ
  rw [if_neg (Rat.lt_irrefl), if_neg (Rat.lt_irrefl)]

end Go.Proofs.YtfjgmpfpadfknaaGreatDoor

