/-
  Plain: what is rounded to a float is what lies in its reach (magnitudes). No program in sight.
-/
import Derived.Test.YtpmncmglmobjoaaGreatDoorQTrBase
namespace Go.Proofs.YtpmncmglmobjoaaGreatDoor
open Go.RowKit Go.Lb
theorem gN_place {E F M k : Nat} (_hE : 2 ≤ E) (hM : M < 2 ^ (F + 1)) (hn : 2 ^ F ≤ M ∨ k = 0) (hi : M + k * 2 ^ F < pw (E + F)) :
 gN E F (M + k * 2 ^ F) = M * 2 ^ k ∧ max (exN E F (M + k * 2 ^ F)) 1 - 1 = k := by
 have hF := Nat.two_pow_pos F
 have hfr : frN F (M + k * 2 ^ F) = (M + k * 2 ^ F) % 2 ^ F := by rw [frN_eq, pw_is]
 have hpw : pw (E + F) = 2 ^ F * 2 ^ E := by rw [pw_is, Nat.add_comm, Nat.pow_add]
 have hx : exN E F (M + k * 2 ^ F) = (M + k * 2 ^ F) / 2 ^ F := by
  have h1 : exN E F (M + k * 2 ^ F) = (M + k * 2 ^ F) / pw F % pw E := rfl
  rw [h1, pw_is, pw_is]
  refine Nat.mod_eq_of_lt ?_
  rw [Nat.div_lt_iff_lt_mul hF, Nat.mul_comm (2 ^ E), ← hpw]
  exact hi
 rw [Nat.pow_succ] at hM
 have hgen : ∀ q r, q * 2 ^ F + r = M + k * 2 ^ F → r < 2 ^ F → exN E F (M + k * 2 ^ F) = q ∧ frN F (M + k * 2 ^ F) = r := fun q r h1 h2 => by
  rw [hx, hfr, ← h1]
  exact ⟨by rw [Nat.mul_comm, Nat.mul_add_div hF, Nat.div_eq_of_lt h2, Nat.add_zero], by rw [Nat.mul_comm, Nat.mul_add_mod, Nat.mod_eq_of_lt h2]⟩
 unfold gN upW
 unfold vN vX baseI
 rw [pw_is]
 by_cases h1 : M < 2 ^ F
 · have hk0 : k = 0 := by omega
   subst hk0
   obtain ⟨u1, u2⟩ := hgen 0 M (by omega) h1
   rw [u1, u2, if_pos rfl, if_pos rfl]
   refine ⟨?_, by omega⟩
   congr 2
   omega
 · obtain ⟨u1, u2⟩ := hgen (k + 1) (M - 2 ^ F) (by rw [Nat.add_mul, Nat.one_mul]; omega) (by omega)
   rw [u1, u2, if_neg (by omega), if_neg (by omega)]
   refine ⟨?_, by omega⟩
   rw [show 2 ^ F + (M - 2 ^ F) = M by omega]
   congr 2
   omega
theorem gN_step {E F m : Nat} (h : m + 1 < pw (E + F)) : gN E F m < gN E F (m + 1) := by
 rw [gN_next h]
 have := Nat.two_pow_pos (max (exN E F m) 1 - 1)
 omega
theorem gN_mono {E F a b : Nat} (hab : a ≤ b) (hb : b < pw (E + F)) : gN E F a ≤ gN E F b := by
 induction b with
 | zero => rw [show a = 0 by omega]; exact Nat.le_refl _
 | succ b ih =>
   rcases Nat.lt_or_eq_of_le hab with h | h
   · exact Nat.le_trans (ih (by omega) (by omega)) (Nat.le_of_lt (gN_step hb))
   · rw [h]; exact Nat.le_refl _
def iW (E F m M : Nat) : Nat := if M = 2 then 2 * gN E F m else if M = 3 then 2 * gN E F (m - 1) else gN E F (m - 1) + gN E F m
def oW (E F m M : Nat) : Nat := if M = 2 then 2 * gN E F (m + 1) else if M = 3 then 2 * gN E F m else gN E F m + gN E F (m + 1)
def inW (E F m M A B : Nat) : Prop := (iW E F m M * B < 2 * A ∨ iW E F m M * B = 2 * A ∧ rci m M = true) ∧ (2 * A < oW E F m M * B ∨ 2 * A = oW E F m M * B ∧ rco m M = true)
theorem md_turn (m : Nat) (s odd : Bool) (h : Int) (hm : m < 5) : mdB m s odd h = mdB (seM m s) false odd h := by
 rcases (show m = 0 ∨ m = 1 ∨ m = 2 ∨ m = 3 ∨ m = 4 by omega) with rfl | rfl | rfl | rfl | rfl <;> cases s <;> rfl
theorem round_place {E F p A B m M : Nat} (hB : 0 < B) (hA : 0 < A) (hp : p + 1 < pw (E + F)) (hm : m + 1 < pw (E + F)) (hM : M < 4)
 (h1 : gN E F p * B ≤ A) (h2 : A < gN E F (p + 1) * B) (r : Nat)
 (hr : r = if A = gN E F p * B then p else p + (if mdB M false (decide (p % 2 = 1)) (cmpN (2 * A) ((gN E F p + gN E F (p + 1)) * B)) = true then 1 else 0)) : r = m ↔ inW E F m M A B := by
 have hz : gN E F 0 = 0 := by
  unfold gN upW vN
  have e1 : exN E F 0 = 0 := by show 0 / pw F % pw E = 0; rw [Nat.zero_div, Nat.zero_mod]
  have e2 : frN F 0 = 0 := by rw [frN_eq, Nat.zero_mod]
  rw [e1, if_pos rfl, e2, Nat.zero_mul]
 have mul2 : ∀ a b : Nat, (a + b) * B = a * B + b * B := fun a b => Nat.add_mul a b B
 have two : ∀ a : Nat, 2 * a * B = 2 * (a * B) := fun a => Nat.mul_assoc 2 a B
 have g0 : gN E F (m - 1) * B ≤ gN E F m * B := Nat.mul_le_mul_right _ (gN_mono (by omega) (by omega))
 have g1 : gN E F m * B < gN E F (m + 1) * B := Nat.mul_lt_mul_of_pos_right (gN_step hm) hB
 have g00 : 0 < m → gN E F (m - 1) * B < gN E F m * B := fun h0 => by
  refine Nat.mul_lt_mul_of_pos_right ?_ hB
  have := gN_step (E := E) (F := F) (m := m - 1) (by omega)
  rwa [show m - 1 + 1 = m by omega] at this
 have g000 : m = 0 → gN E F m * B = 0 ∧ gN E F (m - 1) * B = 0 := fun h0 => by
  subst h0
  rw [show (0 : Nat) - 1 = 0 by omega, hz, Nat.zero_mul]
  exact ⟨rfl, rfl⟩
 have lt1 : m < p → gN E F (m + 1) * B ≤ gN E F p * B := fun h => Nat.mul_le_mul_right _ (gN_mono (by omega) (by omega))
 have gt1 : p + 1 < m → gN E F (p + 1) * B ≤ gN E F (m - 1) * B := fun h => Nat.mul_le_mul_right _ (gN_mono (by omega) (by omega))
 have eq1 : p + 1 = m → gN E F (p + 1) * B = gN E F m * B ∧ gN E F p * B = gN E F (m - 1) * B := fun h => by
  subst h
  exact ⟨rfl, by rw [Nat.add_sub_cancel]⟩
 have eq0 : p = m → gN E F p * B = gN E F m * B ∧ gN E F (p + 1) * B = gN E F (m + 1) * B := fun h => by rw [h]; exact ⟨rfl, rfl⟩
 unfold inW iW oW rci rco
 unfold mdB cmpN at hr
 rw [mul2] at hr
 simp only [mul2, two, apply_ite (fun t : Nat => t * B)]
 generalize gN E F (m - 1) * B = G0 at *
 generalize gN E F m * B = G1 at *
 generalize gN E F (m + 1) * B = G2 at *
 generalize gN E F p * B = P0 at *
 generalize gN E F (p + 1) * B = P1 at *
 have hcm : (if 2 * A < P0 + P1 then (-1 : Int) else if P0 + P1 < 2 * A then 1 else 0) = -1 ∧ 2 * A < P0 + P1 ∨ (if 2 * A < P0 + P1 then (-1 : Int) else if P0 + P1 < 2 * A then 1 else 0) = 1 ∧ P0 + P1 < 2 * A ∨ (if 2 * A < P0 + P1 then (-1 : Int) else if P0 + P1 < 2 * A then 1 else 0) = 0 ∧ 2 * A = P0 + P1 := by
  by_cases c1 : 2 * A < P0 + P1
  · rw [if_pos c1]; exact .inl ⟨rfl, c1⟩
  · rw [if_neg c1]
    by_cases c2 : P0 + P1 < 2 * A
    · rw [if_pos c2]; exact .inr (.inl ⟨rfl, c2⟩)
    · rw [if_neg c2]; exact .inr (.inr ⟨rfl, by omega⟩)
 generalize (if 2 * A < P0 + P1 then (-1 : Int) else if P0 + P1 < 2 * A then 1 else 0) = c at hr hcm
 clear hz mul2 two
 rcases (show M = 0 ∨ M = 1 ∨ M = 2 ∨ M = 3 by omega) with rfl | rfl | rfl | rfl
 · simp only [show ¬ ((0 : Nat) = 2) by decide, show ¬ ((0 : Nat) = 3) by decide, show ¬ ((0 : Nat) = 1) by decide, if_true, if_false, decide_eq_true_eq] at hr ⊢
   by_cases he : A = P0
   · rw [if_pos he] at hr
     rcases (show m < p ∨ m = p ∨ p + 1 = m ∨ p + 1 < m by omega) with k | k | k | k
     · have := lt1 k; omega
     · have := eq0 k.symm; by_cases h0 : m = 0
       · have := g000 h0; omega
       · have := g00 (by omega); omega
     · have := eq1 k; omega
     · have := gt1 k; omega
   · rw [if_neg he] at hr
     rcases hcm with ⟨hc, hc2⟩ | ⟨hc, hc2⟩ | ⟨hc, hc2⟩
     · rw [if_neg (by omega)] at hr
       rcases (show m < p ∨ m = p ∨ p + 1 = m ∨ p + 1 < m by omega) with k | k | k | k
       · have := lt1 k; omega
       · have := eq0 k.symm; omega
       · have := eq1 k; omega
       · have := gt1 k; omega
     · rw [if_pos (by omega)] at hr
       rcases (show m < p ∨ m = p ∨ p + 1 = m ∨ p + 1 < m by omega) with k | k | k | k
       · have := lt1 k; omega
       · have := eq0 k.symm; omega
       · have := eq1 k; omega
       · have := gt1 k; omega
     · by_cases ho : p % 2 = 1
       · rw [if_pos (by omega)] at hr
         rcases (show m < p ∨ m = p ∨ p + 1 = m ∨ p + 1 < m by omega) with k | k | k | k
         · have := lt1 k; omega
         · have := eq0 k.symm; omega
         · have := eq1 k; omega
         · have := gt1 k; omega
       · rw [if_neg (by omega)] at hr
         rcases (show m < p ∨ m = p ∨ p + 1 = m ∨ p + 1 < m by omega) with k | k | k | k
         · have := lt1 k; omega
         · have := eq0 k.symm; omega
         · have := eq1 k; omega
         · have := gt1 k; omega
 · simp only [show ¬ ((1 : Nat) = 2) by decide, show ¬ ((1 : Nat) = 3) by decide, show ¬ ((1 : Nat) = 0) by decide, if_true, if_false, decide_eq_true_eq, Bool.false_eq_true, and_false, or_false, and_true] at hr ⊢
   by_cases he : A = P0
   · rw [if_pos he] at hr
     rcases (show m < p ∨ m = p ∨ p + 1 = m ∨ p + 1 < m by omega) with k | k | k | k
     · have := lt1 k; omega
     · have := eq0 k.symm; omega
     · have := eq1 k; omega
     · have := gt1 k; omega
   · rw [if_neg he] at hr
     rcases hcm with ⟨hc, hc2⟩ | ⟨hc, hc2⟩ | ⟨hc, hc2⟩
     · rw [if_neg (by omega)] at hr
       rcases (show m < p ∨ m = p ∨ p + 1 = m ∨ p + 1 < m by omega) with k | k | k | k
       · have := lt1 k; omega
       · have := eq0 k.symm; omega
       · have := eq1 k; omega
       · have := gt1 k; omega
     · rw [if_pos (by omega)] at hr
       rcases (show m < p ∨ m = p ∨ p + 1 = m ∨ p + 1 < m by omega) with k | k | k | k
       · have := lt1 k; omega
       · have := eq0 k.symm; omega
       · have := eq1 k; omega
       · have := gt1 k; omega
     · rw [if_pos (by omega)] at hr
       rcases (show m < p ∨ m = p ∨ p + 1 = m ∨ p + 1 < m by omega) with k | k | k | k
       · have := lt1 k; omega
       · have := eq0 k.symm; omega
       · have := eq1 k; omega
       · have := gt1 k; omega
 · simp only [show ¬ ((2 : Nat) = 1) by decide, show ¬ ((2 : Nat) = 3) by decide, show ¬ ((2 : Nat) = 0) by decide, if_true, if_false, Bool.false_eq_true, and_false, or_false, and_true, Nat.add_zero, ite_self] at hr ⊢
   rcases (show m < p ∨ m = p ∨ p + 1 = m ∨ p + 1 < m by omega) with k | k | k | k
   · have := lt1 k; omega
   · have := eq0 k.symm; omega
   · have := eq1 k; omega
   · have := gt1 k; omega
 · simp only [show ¬ ((3 : Nat) = 1) by decide, show ¬ ((3 : Nat) = 2) by decide, show ¬ ((3 : Nat) = 0) by decide, if_true, if_false, Bool.not_false, decide_eq_true_eq, and_true] at hr ⊢
   by_cases he : A = P0
   · rw [if_pos he] at hr
     rcases (show m < p ∨ m = p ∨ p + 1 = m ∨ p + 1 < m by omega) with k | k | k | k
     · have := lt1 k; omega
     · have := eq0 k.symm; by_cases h0 : m = 0
       · have := g000 h0; omega
       · have := g00 (by omega); omega
     · have := eq1 k; omega
     · have := gt1 k; omega
   · rw [if_neg he] at hr
     rcases (show m < p ∨ m = p ∨ p + 1 = m ∨ p + 1 < m by omega) with k | k | k | k
     · have := lt1 k; omega
     · have := eq0 k.symm; by_cases h0 : m = 0
       · have := g000 h0; omega
       · omega
     · have := eq1 k; omega
     · have := gt1 k; omega
theorem cmpN_shift (a b c : Nat) : cmpN (c + a) (c + b) = cmpN a b := by
 unfold cmpN
 simp only [Nat.add_lt_add_iff_left]
theorem rd_is (N D : Nat) (s : Bool) (m : Nat) : rdN N D s m = if N % D = 0 then N / D else N / D + (if mdB m s (decide (N / D % 2 = 1)) (cmpN (2 * (N % D)) D) = true then 1 else 0) := rfl
theorem ifN_is {E F : Nat} (hE : 2 ≤ E) : ifN E F = infN E F := by
 have hmask : maskN E = 2 * bsN E + 1 := by
  unfold maskN bsN
  have h1 : 2 ^ E = 2 * 2 ^ (E - 1) := by
   rw [show 2 * 2 ^ (E - 1) = 2 ^ (E - 1) * 2 by omega, ← Nat.pow_succ]
   congr 1
   omega
  have := Nat.two_pow_pos (E - 1)
  omega
 unfold ifN
 rw [hmask, pw_is, inf_eq hE]
theorem gN_if {E F : Nat} (hf : formE (E : Int) (F : Int) = 0) : gN E F (ifN E F) = 2 ^ F * 2 ^ (2 * bsN E) := by
 obtain ⟨q1, q2, q3, q4⟩ := formE_ok hf
 have hE : 2 ≤ E := by omega
 have h1 : ifN E F = 2 ^ F + (2 * bsN E) * 2 ^ F := by rw [ifN_is hE, inf_eq hE, Nat.add_mul, Nat.one_mul]; omega
 have hl := (if_lt hf).2
 rw [h1] at hl ⊢
 exact (gN_place hE (by rw [Nat.pow_succ]; have := Nat.two_pow_pos F; omega) (.inl (Nat.le_refl _)) hl).1
theorem round_reach {E F N D m mode : Nat} {s : Bool} (hf : formE (E : Int) (F : Int) = 0) (hN : N ≠ 0) (hD : D ≠ 0) (hm : m < ifN E F) (hmo : mode < 5) :
 (ovB E F N D s mode = false ∧ Lb.sgB E F N D s mode = m) ↔ inW E F m (seM mode s) (scN N (-(baseI E F))) (scD D (-(baseI E F))) := by
 obtain ⟨q1, q2, q3, q4⟩ := formE_ok hf
 have hE : 2 ≤ E := by omega
 have hF1 : 1 ≤ F := by omega
 have hB := scD_pos (Nat.pos_of_ne_zero hD) (-(baseI E F))
 have hA := scN_pos (Nat.pos_of_ne_zero hN) (-(baseI E F))
 have hil := (if_lt hf).2
 have hM4 := seM_lt hmo s
 have hbs : 1 ≤ bsN E := by
  unfold bsN
  have : 2 ^ 1 ≤ 2 ^ (E - 1) := Nat.pow_le_pow_right (by decide) (by omega)
  omega
 have hbase : -(baseI E F) = (bsN E : Int) - 1 + F := by unfold baseI; rw [bias_is]; omega
 have hov : ovB E F N D s mode = decide ((bsN E : Int) < lwE E N D ∨ infN E F ≤ Lb.sgB E F N D s mode) := rfl
 have hii := ifN_is (E := E) (F := F) hE
 by_cases hl : (bsN E : Int) < lwE E N D
 · have hleft : ovB E F N D s mode = true := by rw [hov]; exact decide_eq_true (.inl hl)
   have hbl := beyond_lt (F := F) hE hN hD hl
   have hst := sc_step N D ((F : Int) - bsN E) (2 * bsN E - 1)
   rw [show (F : Int) - bsN E + ((2 * bsN E - 1 : Nat) : Int) = -(baseI E F) by omega] at hst
   have hQ := scD_pos (Nat.pos_of_ne_zero hD) ((F : Int) - bsN E)
   have hgi := gN_if hf
   have hbig : gN E F (ifN E F) * scD D (-(baseI E F)) ≤ scN N (-(baseI E F)) := by
    refine Nat.le_of_mul_le_mul_right (c := scD D ((F : Int) - bsN E)) ?_ hQ
    rw [hst, hgi]
    have e1 : 2 ^ (2 * bsN E) = 2 * 2 ^ (2 * bsN E - 1) := by
     rw [Nat.mul_comm 2 (2 ^ (2 * bsN E - 1)), ← Nat.pow_succ]; congr 1; omega
    rw [e1]
    rw [Nat.pow_succ] at hbl
    generalize 2 ^ (2 * bsN E - 1) = T
    generalize scD D (-(baseI E F)) = B
    generalize scN N ((F : Int) - bsN E) = P at *
    generalize scD D ((F : Int) - bsN E) = Q at *
    have h2 := Nat.mul_le_mul_right (T * B) hbl
    calc 2 ^ F * (2 * T) * B * Q = 2 ^ F * 2 * Q * (T * B) := by simp only [Nat.mul_comm, Nat.mul_left_comm, Nat.mul_assoc]
     _ ≤ P * (T * B) := h2
     _ = P * T * B := by rw [Nat.mul_assoc]
   refine ⟨fun h => by rw [hleft] at h; exact absurd h.1 (by decide), fun h => ?_⟩
   exfalso
   have k1 : gN E F (m + 1) * scD D (-(baseI E F)) ≤ gN E F (ifN E F) * scD D (-(baseI E F)) := Nat.mul_le_mul_right _ (gN_mono (by omega) hil)
   have k2 : gN E F m * scD D (-(baseI E F)) < gN E F (m + 1) * scD D (-(baseI E F)) := Nat.mul_lt_mul_of_pos_right (gN_step (by omega)) hB
   obtain ⟨_, h⟩ := h
   unfold oW rco at h
   simp only [apply_ite (fun t : Nat => t * scD D (-(baseI E F))), Nat.add_mul, Nat.mul_assoc 2] at h
   generalize gN E F (m + 1) * scD D (-(baseI E F)) = G2 at *
   generalize gN E F m * scD D (-(baseI E F)) = G1 at *
   generalize gN E F (ifN E F) * scD D (-(baseI E F)) = G3 at *
   generalize scN N (-(baseI E F)) = A at *
   by_cases m2 : seM mode s = 2
   · rw [if_pos m2, if_pos m2] at h
     simp at h
     omega
   · rw [if_neg m2, if_neg m2] at h
     by_cases m3 : seM mode s = 3
     · rw [if_pos m3] at h; omega
     · rw [if_neg m3] at h; omega
 · obtain ⟨hw, _⟩ := fl_within (F := F) (s := s) hE hN hD (by omega)
   have hge := lw_ge E N D
   have hQ := scD_pos (Nat.pos_of_ne_zero hD) ((F : Int) - lwE E N D)
   have hq : scN N (F - lwE E N D) / scD D (F - lwE E N D) < 2 ^ (F + 1) := by
    rw [Nat.div_lt_iff_lt_mul hQ]
    rcases lw_cases E N D with h | ⟨h, _⟩
    · rw [h]
      exact (sc_norm hD (lg_spec hN hD) F).2
    · refine Nat.lt_of_lt_of_le (sc_low hD (lg_spec hN hD) h F) (Nat.mul_le_mul_right _ (Nat.pow_le_pow_right (by decide) (by omega)))
   have hst := sc_step N D ((F : Int) - lwE E N D) (lwE E N D + bsN E - 1).toNat
   rw [show (F : Int) - lwE E N D + ((lwE E N D + bsN E - 1).toNat : Int) = -(baseI E F) by omega] at hst
   have hsg : Lb.sgB E F N D s mode = rdN (scN N (F - lwE E N D)) (scD D (F - lwE E N D)) s mode + (lwE E N D + bsN E - 1).toNat * 2 ^ F := rfl
   have hn : 2 ^ F ≤ scN N (F - lwE E N D) / scD D (F - lwE E N D) ∨ (lwE E N D + bsN E - 1).toNat = 0 := by
    rcases lw_cases E N D with h | ⟨_, h⟩
    · left
      rw [Nat.le_div_iff_mul_le hQ, h]
      exact (sc_norm hD (lg_spec hN hD) F).1
    · right; omega
   have hpl := gN_place (E := E) hE hq hn (by omega)
   have hnx := gN_next (e := E) (f := F) (m := scN N (F - lwE E N D) / scD D (F - lwE E N D) + (lwE E N D + bsN E - 1).toNat * 2 ^ F) (by omega)
   rw [hpl.2] at hnx
   rw [rd_is, md_turn mode s _ _ hmo] at hsg
   have hdm := Nat.div_add_mod (scN N (F - lwE E N D)) (scD D (F - lwE E N D))
   have hrl := Nat.mod_lt (scN N (F - lwE E N D)) hQ
   generalize (lwE E N D + bsN E - 1).toNat = k at *
   generalize scN N (F - lwE E N D) % scD D (F - lwE E N D) = R at *
   generalize scN N (F - lwE E N D) / scD D (F - lwE E N D) = M0 at *
   generalize scN N (F - lwE E N D) = P at *
   generalize scD D (F - lwE E N D) = Q at *
   generalize scN N (-(baseI E F)) = A at *
   generalize scD D (-(baseI E F)) = B at *
   have hU : 0 < 2 ^ k * B := Nat.mul_pos (Nat.two_pow_pos k) hB
   have hX : A * Q = M0 * 2 ^ k * B * Q + R * (2 ^ k * B) := by
    rw [hst, ← hdm]
    generalize 2 ^ k = T
    rw [Nat.add_mul, Nat.add_mul, Nat.mul_assoc R T B]
    congr 1
    simp only [Nat.mul_comm, Nat.mul_left_comm]
   have hg0 : gN E F (M0 + k * 2 ^ F) * B = M0 * 2 ^ k * B := by rw [hpl.1]
   have hg1 : gN E F (M0 + k * 2 ^ F + 1) * B = M0 * 2 ^ k * B + 2 ^ k * B := by rw [hnx, hpl.1, Nat.add_mul]
   have hodd : decide (M0 % 2 = 1) = decide ((M0 + k * 2 ^ F) % 2 = 1) := by
    refine decide_eq_decide.2 ?_
    have : 2 ^ F = 2 * 2 ^ (F - 1) := by rw [Nat.mul_comm, ← Nat.pow_succ]; congr 1; omega
    rw [this, Nat.mul_left_comm, Nat.add_mul_mod_self_left]
   have hcmp : cmpN (2 * R) Q = cmpN (2 * A) ((gN E F (M0 + k * 2 ^ F) + gN E F (M0 + k * 2 ^ F + 1)) * B) := by
    rw [Nat.add_mul, hg0, hg1, ← cmp_mul (a := 2 * A) (c := Q) hQ, ← cmp_mul (a := 2 * R) (c := 2 ^ k * B) hU, Nat.mul_assoc 2 A, hX, ← cmpN_shift (2 * R * (2 ^ k * B)) _ (2 * (M0 * 2 ^ k * B * Q))]
    congr 1
    · rw [Nat.mul_add, Nat.mul_assoc 2 R]
    · generalize M0 * 2 ^ k * B = X
      generalize 2 ^ k * B = U
      rw [Nat.add_mul, Nat.add_mul, Nat.mul_comm Q U]
      omega
   have hex : (A = gN E F (M0 + k * 2 ^ F) * B) ↔ R = 0 := by
    rw [hg0]
    generalize M0 * 2 ^ k * B = X at *
    generalize 2 ^ k * B = U at *
    refine ⟨fun h => ?_, fun h => ?_⟩
    · rw [h] at hX
      have : R * U = 0 := by omega
      rcases Nat.mul_eq_zero.1 this with h1 | h1
      · exact h1
      · omega
    · rw [h, Nat.zero_mul, Nat.add_zero] at hX
      exact Nat.eq_of_mul_eq_mul_right hQ hX
   have b1 : gN E F (M0 + k * 2 ^ F) * B ≤ A := by
    rw [hg0]
    refine Nat.le_of_mul_le_mul_right (c := Q) ?_ hQ
    omega
   have b2 : A < gN E F (M0 + k * 2 ^ F + 1) * B := by
    rw [hg1]
    refine Nat.lt_of_mul_lt_mul_right (a := Q) ?_
    rw [hX, Nat.add_mul, Nat.mul_comm (2 ^ k * B) Q]
    have := Nat.mul_lt_mul_of_pos_right hrl hU
    omega
   have hr : Lb.sgB E F N D s mode = if A = gN E F (M0 + k * 2 ^ F) * B then M0 + k * 2 ^ F else M0 + k * 2 ^ F + (if mdB (seM mode s) false (decide ((M0 + k * 2 ^ F) % 2 = 1)) (cmpN (2 * A) ((gN E F (M0 + k * 2 ^ F) + gN E F (M0 + k * 2 ^ F + 1)) * B)) = true then 1 else 0) := by
    rw [hsg, ← hcmp, ← hodd]
    by_cases h0 : R = 0
    · rw [if_pos h0, if_pos (hex.2 h0)]
    · rw [if_neg h0, if_neg (fun h => h0 (hex.1 h))]
      omega
   have hmain := round_place (m := m) hB hA (by omega) (by omega) hM4 b1 b2 _ hr
   rw [← hmain, hov]
   refine ⟨fun h => h.2, fun h => ⟨decide_eq_false (by omega), h⟩⟩
end Go.Proofs.YtpmncmglmobjoaaGreatDoor
