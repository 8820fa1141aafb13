/-
  Plain: a fraction rounded to a whole number, and to a form's float. No program in sight.
-/
import Derived.Test.YtklibjdhlmdkpaaGreatDoorQbBBigL
import Derived.Test.YtklibjdhlmdkpaaGreatDoorQbBMB14
namespace Go.Lb

open Go.RowKit Go.Proofs.YtklibjdhlmdkpaaGreatDoor

/-- Does the number farther from nought stand for what lies between? h: where it lies against the middle. -/
def mdB (mode : Nat) (neg odd : Bool) (h : Int) : Bool :=
  if mode = 0 then decide (0 < h ∨ h = 0 ∧ odd = true) else if mode = 1 then decide (0 ≤ h) else if mode = 2 then false else if mode = 3 then !neg else neg

/-- N by D rounded to a whole number. -/
def rdN (N D : Nat) (neg : Bool) (mode : Nat) : Nat :=
  if N % D = 0 then N / D else N / D + (if mdB mode neg (decide (N / D % 2 = 1)) (cmpN (2 * (N % D)) D) = true then 1 else 0)

/-- Is it a whole number? -/
def exB (N D : Nat) : Bool := decide (N % D = 0)

theorem div_same {N D N' D' : Nat} (hD : 0 < D) (hD' : 0 < D') (h : N * D' = N' * D) : N / D = N' / D' := by
  have one : ∀ {N D N' D' : Nat}, 0 < D → 0 < D' → N * D' = N' * D → N / D ≤ N' / D' := by
    intro N D N' D' hD hD' h
    refine (Nat.le_div_iff_mul_le hD').2 ?_
    have h1 : N / D * D ≤ N := Nat.div_mul_le_self N D
    have h2 : N / D * D' * D ≤ N' * D := by
      rw [← h, Nat.mul_right_comm]
      exact Nat.mul_le_mul_right _ h1
    exact Nat.le_of_mul_le_mul_right h2 hD
  exact Nat.le_antisymm (one hD hD' h) (one hD' hD h.symm)

theorem mod_same {N D N' D' : Nat} (hD : 0 < D) (hD' : 0 < D') (h : N * D' = N' * D) : N % D * D' = N' % D' * D := by
  have hq := div_same hD hD' h
  have e1 := Nat.div_add_mod N D
  have e2 := Nat.div_add_mod N' D'
  rw [← hq] at e2
  have h1 : (D * (N / D) + N % D) * D' = (D' * (N / D) + N' % D') * D := by rw [e1, e2, h]
  rw [Nat.add_mul, Nat.add_mul, Nat.mul_right_comm D, Nat.mul_right_comm D' (N / D) D, Nat.mul_comm D D'] at h1
  omega

theorem cmp_mul {a b c : Nat} (hc : 0 < c) : cmpN (a * c) (b * c) = cmpN a b := by
  unfold cmpN
  have h1 : a * c < b * c ↔ a < b := Nat.mul_lt_mul_right hc
  have h2 : b * c < a * c ↔ b < a := Nat.mul_lt_mul_right hc
  simp only [h1, h2]

theorem cmp_same {N D N' D' : Nat} (hD : 0 < D) (hD' : 0 < D') (h : N * D' = N' * D) : cmpN (2 * (N % D)) D = cmpN (2 * (N' % D')) D' := by
  have hm := mod_same hD hD' h
  rw [← cmp_mul (a := 2 * (N % D)) (b := D) hD', ← cmp_mul (a := 2 * (N' % D')) (b := D') hD, Nat.mul_assoc, hm, ← Nat.mul_assoc, Nat.mul_comm D' D]

theorem ex_same {N D N' D' : Nat} (hD : 0 < D) (hD' : 0 < D') (h : N * D' = N' * D) : exB N D = exB N' D' := by
  have hm := mod_same hD hD' h
  unfold exB
  by_cases h0 : N % D = 0
  · rw [h0, Nat.zero_mul] at hm
    have : N' % D' = 0 := by
      rcases Nat.mul_eq_zero.1 hm.symm with h1 | h1
      · exact h1
      · omega
    rw [decide_eq_true h0, decide_eq_true this]
  · have : N' % D' ≠ 0 := fun h1 => by
      rw [h1, Nat.zero_mul] at hm
      rcases Nat.mul_eq_zero.1 hm with h2 | h2
      · exact h0 h2
      · omega
    rw [decide_eq_false h0, decide_eq_false this]

theorem rd_same {N D N' D' : Nat} (hD : 0 < D) (hD' : 0 < D') (h : N * D' = N' * D) (neg : Bool) (mode : Nat) : rdN N D neg mode = rdN N' D' neg mode := by
  have h1 := ex_same hD hD' h
  have h2 := div_same hD hD' h
  have h3 := cmp_same hD hD' h
  unfold exB at h1
  unfold rdN
  rw [h2, h3]
  by_cases h0 : N % D = 0
  · rw [if_pos h0, if_pos]
    rw [decide_eq_true h0] at h1
    exact of_decide_eq_true h1.symm
  · have h4 : ¬ N' % D' = 0 := by
      rw [decide_eq_false h0] at h1
      exact of_decide_eq_false h1.symm
    rw [if_neg h0, if_neg h4]

theorem rd_ge (N D : Nat) (neg : Bool) (mode : Nat) : N / D ≤ rdN N D neg mode := by
  unfold rdN
  split
  · exact Nat.le_refl _
  · exact Nat.le_add_right _ _

theorem rd_le (N D : Nat) (neg : Bool) (mode : Nat) : rdN N D neg mode ≤ N / D + 1 := by
  unfold rdN
  split
  · omega
  · split <;> omega

/-- Times two to the power of k, as two numbers. -/
def scN (N : Nat) (k : Int) : Nat := N * 2 ^ k.toNat

def scD (D : Nat) (k : Int) : Nat := D * 2 ^ (-k).toNat

theorem scD_pos {D : Nat} (h : 0 < D) (k : Int) : 0 < scD D k := Nat.mul_pos h (Nat.two_pow_pos _)

/-- The same number times 2^k: one more power. -/
theorem sc_step (N D : Nat) (k : Int) (j : Nat) : scN N (k + j) * scD D k = scN N k * 2 ^ j * scD D (k + j) := by
  unfold scN scD
  by_cases h1 : 0 ≤ k
  · have e1 : (k + j).toNat = k.toNat + j := by omega
    have e2 : (-k).toNat = 0 := by omega
    have e3 : (-(k + j)).toNat = 0 := by omega
    rw [e1, e2, e3, Nat.pow_add, ← Nat.mul_assoc N]
  · by_cases h2 : 0 ≤ k + j
    · have e1 : j = (k + j).toNat + (-k).toNat := by omega
      have e2 : k.toNat = 0 := by omega
      have e3 : (-(k + j)).toNat = 0 := by omega
      rw [e2, e3]
      have e4 : 2 ^ j = 2 ^ (k + j).toNat * 2 ^ (-k).toNat := by rw [← Nat.pow_add, ← e1]
      rw [e4, Nat.pow_zero, Nat.mul_one, Nat.mul_one]
      generalize 2 ^ (k + j).toNat = A
      generalize 2 ^ (-k).toNat = B
      rw [Nat.mul_assoc, Nat.mul_assoc, Nat.mul_assoc, Nat.mul_comm D B]
    · have e1 : (-k).toNat = (-(k + j)).toNat + j := by omega
      have e2 : k.toNat = 0 := by omega
      have e3 : (k + j).toNat = 0 := by omega
      rw [e1, e2, e3, Nat.pow_add, Nat.pow_zero, Nat.mul_one, Nat.mul_assoc, ← Nat.mul_assoc D, Nat.mul_comm (D * 2 ^ _) (2 ^ j)]

/-- How many bits a number has. -/
def blN (N : Nat) : Nat := szN (limbs N)

theorem bl_spec {N : Nat} (h : N ≠ 0) : 1 ≤ blN N ∧ 2 ^ (blN N - 1) ≤ N ∧ N < 2 ^ blN N := by
  have hf := fine_limbs N
  have hn : (limbs N).length ≠ 0 := fun hh => h (by rw [← val_limbs' N]; exact (val_zero hf).2 hh)
  have := sz_fine hf hn
  rwa [val_limbs'] at this

/-- The exponent of two of the highest bit. -/
def LgP (N D : Nat) (e : Int) : Prop := scD D (-e) ≤ scN N (-e) ∧ scN N (-e) < 2 * scD D (-e)

def lgE (N D : Nat) : Int :=
  if scN N (-((blN N : Int) - blN D)) < scD D (-((blN N : Int) - blN D)) then (blN N : Int) - blN D - 1 else (blN N : Int) - blN D

theorem lg_spec {N D : Nat} (hN : N ≠ 0) (hD : D ≠ 0) : LgP N D (lgE N D) := by
  obtain ⟨a1, a2, a3⟩ := bl_spec hN
  obtain ⟨b1, b2, b3⟩ := bl_spec hD
  generalize ha : blN N = a at a1 a2 a3
  generalize hb : blN D = b at b1 b2 b3
  have hA : scN N (-((a : Int) - b)) < 2 * scD D (-((a : Int) - b)) := by
    unfold scN scD
    by_cases hab : b ≤ a
    · have e1 : (-((a : Int) - b)).toNat = 0 := by omega
      have e2 : (- -((a : Int) - b)).toNat = a - b := by omega
      rw [e1, e2, Nat.pow_zero, Nat.mul_one]
      have e3 : 2 ^ a = 2 * (2 ^ (b - 1) * 2 ^ (a - b)) := by rw [← Nat.pow_add, ← Nat.pow_succ', show (b - 1 + (a - b)).succ = a by omega]
      have := Nat.mul_le_mul_right (2 ^ (a - b)) b2
      omega
    · have e1 : (-((a : Int) - b)).toNat = b - a := by omega
      have e2 : (- -((a : Int) - b)).toNat = 0 := by omega
      rw [e1, e2, Nat.pow_zero, Nat.mul_one]
      have e3 : 2 ^ b = 2 ^ a * 2 ^ (b - a) := by rw [← Nat.pow_add, show a + (b - a) = b by omega]
      have e4 : 2 ^ b = 2 * 2 ^ (b - 1) := by rw [← Nat.pow_succ', show (b - 1).succ = b by omega]
      have := Nat.mul_lt_mul_of_pos_right a3 (Nat.two_pow_pos (b - a))
      omega
  have hB : scD D (-((a : Int) - b - 1)) ≤ scN N (-((a : Int) - b - 1)) := by
    unfold scN scD
    by_cases hab : b + 1 ≤ a
    · have e1 : (-((a : Int) - b - 1)).toNat = 0 := by omega
      have e2 : (- -((a : Int) - b - 1)).toNat = a - b - 1 := by omega
      rw [e1, e2, Nat.pow_zero, Nat.mul_one]
      have e3 : 2 ^ (a - 1) = 2 ^ b * 2 ^ (a - b - 1) := by rw [← Nat.pow_add, show b + (a - b - 1) = a - 1 by omega]
      have := Nat.mul_le_mul_right (2 ^ (a - b - 1)) (Nat.le_of_lt b3)
      omega
    · have e1 : (-((a : Int) - b - 1)).toNat = b + 1 - a := by omega
      have e2 : (- -((a : Int) - b - 1)).toNat = 0 := by omega
      rw [e1, e2, Nat.pow_zero, Nat.mul_one]
      have e3 : 2 ^ b = 2 ^ (a - 1) * 2 ^ (b + 1 - a) := by rw [← Nat.pow_add, show a - 1 + (b + 1 - a) = b by omega]
      have := Nat.mul_le_mul_right (2 ^ (b + 1 - a)) a2
      omega
  unfold lgE
  rw [ha, hb]
  split
  · rename_i hlt
    refine ⟨hB, ?_⟩
    have hs := sc_step N D (-((a : Int) - b)) 1
    rw [show -((a : Int) - b) + (1 : Nat) = -((a : Int) - b - 1) by omega, Nat.pow_one] at hs
    have hp := scD_pos (Nat.pos_of_ne_zero hD) (-((a : Int) - b))
    have hp2 := scD_pos (Nat.pos_of_ne_zero hD) (-((a : Int) - b - 1))
    have h1 : scN N (-((a : Int) - b)) * 2 * scD D (-((a : Int) - b - 1)) < scD D (-((a : Int) - b)) * 2 * scD D (-((a : Int) - b - 1)) := Nat.mul_lt_mul_of_pos_right (by omega) hp2
    rw [← hs, Nat.mul_assoc (scD D (-((a : Int) - b))), Nat.mul_comm (scD D (-((a : Int) - b)))] at h1
    exact Nat.lt_of_mul_lt_mul_right h1
  · rename_i hlt
    exact ⟨by omega, hA⟩

theorem lg_lt {N D : Nat} (hD : D ≠ 0) {e e' : Int} (h : LgP N D e) (h' : LgP N D e') (hl : e < e') : False := by
  obtain ⟨d, hd⟩ : ∃ d : Nat, e' = e + 1 + d := ⟨(e' - e - 1).toNat, by omega⟩
  have hs := sc_step N D (-e') (1 + d)
  rw [show -e' + ((1 + d : Nat) : Int) = -e by omega] at hs
  have hp := scD_pos (Nat.pos_of_ne_zero hD) (-e')
  have hp2 := scD_pos (Nat.pos_of_ne_zero hD) (-e)
  have h1 : scD D (-e') * 2 ^ (1 + d) * scD D (-e) ≤ scN N (-e) * scD D (-e') := by
    rw [hs]
    exact Nat.mul_le_mul_right _ (Nat.mul_le_mul_right _ h'.1)
  rw [Nat.mul_assoc, Nat.mul_comm (scN N (-e))] at h1
  have h2 := Nat.le_of_mul_le_mul_left h1 hp
  have h3 : 2 ≤ 2 ^ (1 + d) := by rw [Nat.add_comm, Nat.pow_succ]; have := Nat.two_pow_pos d; omega
  have h4 := Nat.mul_le_mul_right (scD D (-e)) h3
  have := h.2
  omega

theorem lg_uniq {N D : Nat} (hD : D ≠ 0) {e e' : Int} (h : LgP N D e) (h' : LgP N D e') : e = e' := by
  rcases Int.lt_trichotomy e e' with hl | hl | hl
  · exact absurd (lg_lt hD h h' hl) id
  · exact hl
  · exact absurd (lg_lt hD h' h hl) id

/-- Two fractions that are one number: so are they times 2^k. -/
theorem sc_cross {N D N' D' : Nat} (h : N * D' = N' * D) (k : Int) : scN N k * scD D' k = scN N' k * scD D k := by
  unfold scN scD
  generalize 2 ^ k.toNat = A
  generalize 2 ^ (-k).toNat = B
  rw [Nat.mul_mul_mul_comm, h, Nat.mul_mul_mul_comm]

theorem lg_same {N D N' D' : Nat} (hD : D ≠ 0) (hD' : D' ≠ 0) (h : N * D' = N' * D) {e : Int} (hl : LgP N D e) : LgP N' D' e := by
  have hc := sc_cross h (-e)
  have hp := scD_pos (Nat.pos_of_ne_zero hD) (-e)
  have hp2 := scD_pos (Nat.pos_of_ne_zero hD') (-e)
  obtain ⟨h1, h2⟩ := hl
  constructor
  · have := Nat.mul_le_mul_right (scD D' (-e)) h1
    rw [hc, Nat.mul_comm] at this
    exact Nat.le_of_mul_le_mul_right this hp
  · have := Nat.mul_lt_mul_of_pos_right h2 hp2
    rw [hc, Nat.mul_assoc, Nat.mul_comm (scD D (-e)), ← Nat.mul_assoc] at this
    exact Nat.lt_of_mul_lt_mul_right this

theorem lgE_same {N D N' D' : Nat} (hN : N ≠ 0) (hD : D ≠ 0) (hN' : N' ≠ 0) (hD' : D' ≠ 0) (h : N * D' = N' * D) : lgE N D = lgE N' D' :=
  lg_uniq hD' (lg_same hD hD' h (lg_spec hN hD)) (lg_spec hN' hD')

/-- A number times 2^(F-e), its highest bit at e: it has F+1 bits ahead of the point. -/
theorem sc_norm {N D : Nat} (hD : D ≠ 0) {e : Int} (h : LgP N D e) (F : Nat) : 2 ^ F * scD D (F - e) ≤ scN N (F - e) ∧ scN N (F - e) < 2 ^ (F + 1) * scD D (F - e) := by
  have hs := sc_step N D (-e) F
  rw [show -e + (F : Int) = F - e by omega] at hs
  have hp := scD_pos (Nat.pos_of_ne_zero hD) (-e)
  have hp2 := scD_pos (Nat.pos_of_ne_zero hD) ((F : Int) - e)
  obtain ⟨h1, h2⟩ := h
  generalize scD D (-e) = A at hs hp h1 h2
  generalize scN N (-e) = B at hs h1 h2
  generalize scN N (F - e) = X at hs ⊢
  generalize scD D (F - e) = Y at hs hp2 ⊢
  have hF := Nat.two_pow_pos F
  constructor
  · have h3 : 2 ^ F * Y * A ≤ X * A := by
      rw [hs, Nat.mul_comm (2 ^ F * Y), ← Nat.mul_assoc]
      exact Nat.mul_le_mul_right _ (Nat.mul_le_mul_right _ h1)
    exact Nat.le_of_mul_le_mul_right h3 hp
  · have h3 : X * A < 2 ^ (F + 1) * Y * A := by
      rw [hs, Nat.pow_succ, Nat.mul_assoc, Nat.mul_assoc (2 ^ F * 2), Nat.mul_comm Y A, Nat.mul_comm (2 ^ F) 2, ← Nat.mul_assoc B, ← Nat.mul_assoc (2 * 2 ^ F), Nat.mul_comm (2 * 2 ^ F) A, ← Nat.mul_assoc A, Nat.mul_comm A 2]
      exact Nat.mul_lt_mul_of_pos_right (Nat.mul_lt_mul_of_pos_right h2 hF) hp2
    exact Nat.lt_of_mul_lt_mul_right h3

theorem sc_low {N D : Nat} (hD : D ≠ 0) {e low : Int} (h : LgP N D e) (hl : e < low) (F : Nat) : scN N (F - low) < 2 ^ F * scD D (F - low) := by
  obtain ⟨d, hd⟩ : ∃ d : Nat, low = e + (d + 1 : Nat) := ⟨(low - e - 1).toNat, by omega⟩
  have hn := (sc_norm hD h F).2
  have hs := sc_step N D (F - low) (d + 1)
  rw [show (F : Int) - low + ((d + 1 : Nat) : Int) = F - e by omega] at hs
  have hp := scD_pos (Nat.pos_of_ne_zero hD) ((F : Int) - low)
  have hp2 := scD_pos (Nat.pos_of_ne_zero hD) ((F : Int) - e)
  generalize scD D (F - low) = A at hs hp ⊢
  generalize scN N (F - low) = B at hs ⊢
  generalize scN N (F - e) = X at hs hn
  generalize scD D (F - e) = Y at hs hn hp2
  have h1 : B * 2 ^ (d + 1) * Y < 2 ^ (F + 1) * A * Y := by
    rw [← hs, Nat.mul_assoc, Nat.mul_comm A Y, ← Nat.mul_assoc]
    exact Nat.mul_lt_mul_of_pos_right hn hp
  have h2 := Nat.lt_of_mul_lt_mul_right h1
  have h3 : B * 2 ≤ B * 2 ^ (d + 1) := Nat.mul_le_mul_left _ (by rw [Nat.pow_succ]; have := Nat.two_pow_pos d; omega)
  have h4 : 2 ^ (F + 1) * A = 2 ^ F * A * 2 := by rw [Nat.pow_succ, Nat.mul_right_comm]
  omega

/-- A form's numbers. -/
def bsN (E : Nat) : Nat := 2 ^ (E - 1) - 1

def infN (E F : Nat) : Nat := 2 ^ (E + F) - 2 ^ F

def lwE (E N D : Nat) : Int := max (lgE N D) (1 - (bsN E : Int))

/-- The whole number that a number above nought is rounded to, in the form's unit; whether it is that. -/
def sgM (E F N D : Nat) (neg : Bool) (mode : Nat) : Nat := rdN (scN N (F - lwE E N D)) (scD D (F - lwE E N D)) neg mode

def sgX (E F N D : Nat) : Bool := exB (scN N (F - lwE E N D)) (scD D (F - lwE E N D))

/-- The like as if exponents had no lower end. -/
def sgK (F N D : Nat) (neg : Bool) (mode : Nat) : Nat := rdN (scN N (F - lgE N D)) (scD D (F - lgE N D)) neg mode

/-- The bits, where it is no overflow. -/
def sgB (E F N D : Nat) (neg : Bool) (mode : Nat) : Nat := sgM E F N D neg mode + (lwE E N D + bsN E - 1).toNat * 2 ^ F

def ovB (E F N D : Nat) (neg : Bool) (mode : Nat) : Bool := decide ((bsN E : Int) < lwE E N D ∨ infN E F ≤ sgB E F N D neg mode)

def tiny (E F N D : Nat) (neg : Bool) (mode : Nat) : Bool := decide (lgE N D < 1 - (bsN E : Int) ∧ (lgE N D < -(bsN E : Int) ∨ blN (sgK F N D neg mode) ≤ F + 1))

/-- Does a mode stay finite beyond the greatest float? -/
def stayB (neg : Bool) (mode : Nat) : Bool := decide (mode = 2 ∨ mode = 3 ∧ neg = true ∨ mode = 4 ∧ neg = false)

/-- The float to which N by D is rounded (without its sign), and the flags. -/
def flB (E F N D : Nat) (neg : Bool) (mode : Nat) : Nat := if ovB E F N D neg mode = true then (if stayB neg mode = true then infN E F - 1 else infN E F) else sgB E F N D neg mode

def flG (E F N D : Nat) (neg : Bool) (mode : Nat) : Nat := if ovB E F N D neg mode = true then 3 else if sgX E F N D = true then 0 else if tiny E F N D neg mode = true then 5 else 1

theorem lw_cases (E N D : Nat) : lwE E N D = lgE N D ∨ lgE N D < lwE E N D ∧ lwE E N D = 1 - (bsN E : Int) := by
  unfold lwE
  omega

theorem lw_ge (E N D : Nat) : 1 - (bsN E : Int) ≤ lwE E N D := by unfold lwE; omega

theorem sg_le {E F N D : Nat} (hN : N ≠ 0) (hD : D ≠ 0) (neg : Bool) (mode : Nat) : sgM E F N D neg mode ≤ 2 ^ (F + 1) := by
  have hl := lg_spec hN hD
  have hp := scD_pos (Nat.pos_of_ne_zero hD) (F - lwE E N D)
  have hr := rd_le (scN N (F - lwE E N D)) (scD D (F - lwE E N D)) neg mode
  have hq : scN N (F - lwE E N D) / scD D (F - lwE E N D) < 2 ^ (F + 1) := by
    rw [Nat.div_lt_iff_lt_mul hp]
    rcases lw_cases E N D with h | ⟨h, _⟩
    · rw [h]; exact (sc_norm hD hl F).2
    · have := sc_low hD hl h F
      have h2 : 2 ^ F * scD D (F - lwE E N D) ≤ 2 ^ (F + 1) * scD D (F - lwE E N D) := Nat.mul_le_mul_right _ (Nat.pow_le_pow_right (by decide) (by omega))
      omega
  unfold sgM
  omega

theorem sg_ge {E F N D : Nat} (hN : N ≠ 0) (hD : D ≠ 0) (neg : Bool) (mode : Nat) (h : lwE E N D = lgE N D) : 2 ^ F ≤ sgM E F N D neg mode := by
  have hl := lg_spec hN hD
  have hp := scD_pos (Nat.pos_of_ne_zero hD) (F - lwE E N D)
  refine Nat.le_trans ?_ (rd_ge _ _ neg mode)
  rw [Nat.le_div_iff_mul_le hp, h]
  exact (sc_norm hD hl F).1

theorem sgK_bounds {F N D : Nat} (hN : N ≠ 0) (hD : D ≠ 0) (neg : Bool) (mode : Nat) : 2 ^ F ≤ sgK F N D neg mode ∧ sgK F N D neg mode ≤ 2 ^ (F + 1) := by
  have hl := lg_spec hN hD
  have hp := scD_pos (Nat.pos_of_ne_zero hD) (F - lgE N D)
  have hr := rd_le (scN N (F - lgE N D)) (scD D (F - lgE N D)) neg mode
  obtain ⟨h1, h2⟩ := sc_norm hD hl F
  constructor
  · refine Nat.le_trans ?_ (rd_ge _ _ neg mode)
    rw [Nat.le_div_iff_mul_le hp]
    exact h1
  · have hq : scN N (F - lgE N D) / scD D (F - lgE N D) < 2 ^ (F + 1) := by
      rw [Nat.div_lt_iff_lt_mul hp]
      exact h2
    unfold sgK
    omega

end Go.Lb

/-
  Plain: powers of two as fractions; products with them. No program in sight. Plain: the reference's roundings of fractions, said by RndL's words. No program in sight.
-/
namespace Go.Lb

open Go.RowKit Go.Proofs.YtklibjdhlmdkpaaGreatDoor

/-- 2 to the power of n. -/
def p2 (n : Int) : Rat := (2 : Rat) ^ n

theorem p2_nat (k : Nat) : p2 (k : Int) = ((2 ^ k : Nat) : Rat) := by
  unfold p2
  rw [Rat.zpow_natCast, Rat.natCast_pow]
  rfl

theorem p2_neg (n : Int) : p2 (-n) = (p2 n)⁻¹ := Rat.zpow_neg 2 n

theorem p2_add (m n : Int) : p2 (m + n) = p2 m * p2 n := Rat.zpow_add (by decide) m n

theorem p2_pos (n : Int) : 0 < p2 n := Rat.zpow_pos (by decide)

theorem p2_ne (n : Int) : p2 n ≠ 0 := Rat.ne_of_gt (p2_pos n)

theorem p2_parts (n : Int) : (p2 n).num = ((2 ^ n.toNat : Nat) : Int) ∧ (p2 n).den = 2 ^ (-n).toNat := by
  rcases Int.lt_or_le n 0 with h | h
  · obtain ⟨k, hk⟩ : ∃ k : Nat, n = -(k : Int) := ⟨(-n).toNat, by omega⟩
    have hk1 : k ≠ 0 := by omega
    have hp := Nat.two_pow_pos k
    have e1 : (-(-(k : Int))).toNat = k := by omega
    have e2 : (-(k : Int)).toNat = 0 := by omega
    have hn : ((2 ^ k : Nat) : Rat).num = ((2 ^ k : Nat) : Int) := Rat.num_natCast _
    have hd : ((2 ^ k : Nat) : Rat).den = 1 := Rat.den_natCast _
    rw [hk, e1, e2, p2_neg, p2_nat, Rat.num_inv, Rat.den_inv, hn, hd]
    generalize (2 : Nat) ^ k = P at *
    refine ⟨by rw [Int.sign_eq_one_of_pos (by omega)]; rfl, by rw [if_neg (by omega), Int.natAbs_natCast]⟩
  · obtain ⟨k, rfl⟩ : ∃ k : Nat, n = (k : Int) := ⟨n.toNat, by omega⟩
    rw [p2_nat, Int.toNat_natCast, show (-(k : Int)).toNat = 0 by omega]
    exact ⟨Rat.num_natCast _, Rat.den_natCast _⟩

/-- A fraction made of two numbers reads across as they do. -/
theorem mk_cross (z : Int) {D : Nat} (hD : D ≠ 0) : (mkRat z D).num.natAbs * D = z.natAbs * (mkRat z D).den := by
  obtain ⟨h1, h2, _⟩ := mk_parts z hD
  have hg := Nat.gcd_pos_of_pos_right z.natAbs (Nat.pos_of_ne_zero hD)
  have e1 := Nat.div_mul_cancel (Nat.gcd_dvd_left z.natAbs D)
  have e2 := Nat.div_mul_cancel (Nat.gcd_dvd_right z.natAbs D)
  rw [h1, h2]
  generalize z.natAbs / Nat.gcd z.natAbs D = a at *
  generalize D / Nat.gcd z.natAbs D = b at *
  generalize Nat.gcd z.natAbs D = g at *
  rw [← e1, ← e2]
  simp only [Nat.mul_comm, Nat.mul_left_comm]

theorem mk_len (z : Int) {D : Nat} (hD : D ≠ 0) : ln (mkRat z D).num.natAbs ≤ ln z.natAbs ∧ ln (mkRat z D).den ≤ ln D := by
  obtain ⟨h1, h2, _⟩ := mk_parts z hD
  rw [h1, h2]
  exact ⟨ln_mono (Nat.div_le_self _ _), ln_mono (Nat.div_le_self _ _)⟩

theorem mul_p2 (x : Rat) (k : Int) : x * p2 k = mkRat (x.num * ((2 ^ k.toNat : Nat) : Int)) (scD x.den k) := by
  rw [Rat.mul_def', (p2_parts k).1, (p2_parts k).2]
  rfl

/-- x times 2^k, across. -/
theorem mul_cross (x : Rat) (k : Int) : (x * p2 k).num.natAbs * scD x.den k = scN x.num.natAbs k * (x * p2 k).den := by
  have hD : scD x.den k ≠ 0 := Nat.ne_of_gt (scD_pos x.den_pos k)
  have h := mk_cross (x.num * ((2 ^ k.toNat : Nat) : Int)) hD
  rw [mul_p2, h, Int.natAbs_mul, Int.natAbs_natCast]
  rfl

theorem mul_sign {x : Rat} (h : 0 ≤ x) (k : Int) : 0 ≤ x * p2 k := Rat.mul_nonneg h (Rat.le_of_lt (p2_pos k))

theorem ln_p2 (k : Nat) : ln (2 ^ k) ≤ k / 32 + 1 := ln_two k

theorem mul_len (x : Rat) (k : Int) : ln (x * p2 k).num.natAbs ≤ ln x.num.natAbs + (k.toNat / 32 + 1) ∧ ln (x * p2 k).den ≤ ln x.den + ((-k).toNat / 32 + 1) := by
  have hD : scD x.den k ≠ 0 := Nat.ne_of_gt (scD_pos x.den_pos k)
  obtain ⟨h1, h2⟩ := mk_len (x.num * ((2 ^ k.toNat : Nat) : Int)) hD
  rw [mul_p2]
  rw [Int.natAbs_mul, Int.natAbs_natCast] at h1
  refine ⟨Nat.le_trans h1 (Nat.le_trans (ln_mul _ _) ?_), Nat.le_trans h2 (Nat.le_trans (ln_mul _ _) ?_)⟩
  · have := ln_p2 k.toNat; omega
  · have := ln_p2 (-k).toNat; omega

/-- Rounding x times 2^k. -/
theorem rd_mul (x : Rat) (k : Int) (neg : Bool) (m : Nat) : rdN (x * p2 k).num.natAbs (x * p2 k).den neg m = rdN (scN x.num.natAbs k) (scD x.den k) neg m :=
  rd_same (Rat.den_pos _) (scD_pos x.den_pos k) (mul_cross x k) neg m

/-- How 2^e stands to x. -/
theorem cmp_p2 {x : Rat} (hx : 0 < x) (e : Int) : (0 < cmpQ (p2 e) x) ↔ scN x.num.natAbs (-e) < scD x.den (-e) := by
  have hn : 0 < x.num := by
    have := Rat.num_nonneg.2 (Rat.le_of_lt hx)
    have h0 : x.num ≠ 0 := fun h => Rat.ne_of_gt hx (Rat.num_eq_zero.1 h)
    omega
  obtain ⟨h1, h2⟩ := p2_parts e
  rw [cmpQ_cross, h1, h2]
  unfold scN scD
  rw [Int.neg_neg]
  have e1 : x.num = ((x.num.natAbs : Nat) : Int) := by omega
  rw [e1, Int.natAbs_natCast]
  generalize x.num.natAbs = N
  generalize x.den = D
  generalize 2 ^ e.toNat = A
  generalize 2 ^ (-e).toNat = B
  rw [show ((A : Nat) : Int) * ((D : Nat) : Int) = ((A * D : Nat) : Int) by simp, show ((N : Nat) : Int) * ((B : Nat) : Int) = ((N * B : Nat) : Int) by simp, Nat.mul_comm A D]
  generalize D * A = P
  generalize N * B = Q
  (repeat' split) <;> omega

end Go.Lb

namespace Go.Lb

open Go.RowKit Go.Proofs.YtklibjdhlmdkpaaGreatDoor

theorem cmpQ_scale (x y : Rat) (k : Int) : cmpQ (x * p2 k) (y * p2 k) = cmpQ x y := by
  unfold cmpQ
  have hp := p2_pos k
  simp only [Rat.mul_lt_mul_right hp]

theorem cmpQ_nat (a b : Nat) : cmpQ ((a : Int) : Rat) ((b : Int) : Rat) = cmpN a b := by
  unfold cmpQ cmpN
  simp only [Rat.intCast_lt_intCast, Int.ofNat_lt]

theorem cmpQ_zero (x y : Rat) : cmpQ x y = 0 ↔ x = y := by
  unfold cmpQ
  constructor
  · intro h
    by_cases h1 : x < y
    · rw [if_pos h1] at h; omega
    · by_cases h2 : y < x
      · rw [if_neg h1, if_pos h2] at h; omega
      · exact Rat.le_antisymm (Rat.not_lt.1 h2) (Rat.not_lt.1 h1)
  · rintro rfl
    rw [if_neg Rat.lt_irrefl, if_neg Rat.lt_irrefl]

theorem p2_zero : p2 0 = 1 := Rat.zpow_zero 2

theorem p2_back (n : Int) : p2 n * p2 (-n) = 1 := by rw [← p2_add, Int.add_right_neg, p2_zero]

theorem p2_cast (k : Nat) : p2 (k : Int) = (((2 ^ k : Nat) : Int) : Rat) := by rw [p2_nat]; rfl

/-- x is n times 2^k just where x times 2^-k is n. -/
theorem scale_iff (x : Rat) (n : Rat) (k : Int) : n * p2 k = x ↔ n = x * p2 (-k) := by
  constructor
  · rintro rfl
    rw [Rat.mul_assoc, p2_back, Rat.mul_one]
  · rintro rfl
    have := p2_back (-k)
    rw [Int.neg_neg] at this
    rw [Rat.mul_assoc, this, Rat.mul_one]

/-- A fraction of two numbers is whole just where the one goes into the other. -/
theorem mk_whole (M N : Nat) {D : Nat} (hD : D ≠ 0) : ((M : Int) : Rat) = mkRat (N : Int) D ↔ N = M * D := by
  rw [show ((M : Int) : Rat) = mkRat (M : Int) 1 from (Rat.mkRat_self ((M : Int) : Rat)).symm, Rat.mkRat_eq_iff (by decide) hD]
  constructor
  · intro h
    have : ((M * D : Nat) : Int) = ((N * 1 : Nat) : Int) := by simpa using h
    omega
  · rintro rfl
    simp

theorem pos_num {a : Rat} (ha : 0 ≤ a) : a.num = ((a.num.natAbs : Nat) : Int) := by have := Rat.num_nonneg.2 ha; omega

theorem mul_p2_nat {a : Rat} (ha : 0 ≤ a) (k : Int) : a * p2 k = mkRat ((scN a.num.natAbs k : Nat) : Int) (scD a.den k) := by
  rw [mul_p2]
  congr 1
  rw [pos_num ha, Int.natAbs_natCast]
  unfold scN
  simp

/-- Is the rounded number the number itself? -/
theorem rd_exact {a : Rat} (ha : 0 ≤ a) (k : Int) (neg : Bool) (m : Nat) :
    (((rdN (scN a.num.natAbs k) (scD a.den k) neg m : Nat) : Int) : Rat) * p2 (-k) = a ↔ exB (scN a.num.natAbs k) (scD a.den k) = true := by
  have hD : scD a.den k ≠ 0 := Nat.ne_of_gt (scD_pos a.den_pos k)
  rw [scale_iff, Int.neg_neg, mul_p2_nat ha, mk_whole _ _ hD]
  generalize scN a.num.natAbs k = N
  generalize scD a.den k = D at *
  unfold exB
  rw [decide_eq_true_iff]
  constructor
  · intro h
    rw [h]
    exact Nat.mul_mod_left _ _
  · intro h
    unfold rdN
    rw [if_pos h]
    exact (Nat.div_mul_cancel (Nat.dvd_of_mod_eq_zero h)).symm

/-- Two whole numbers times powers of two, one beside the other. -/
theorem cmp_two (a b : Nat) (i j : Int) : cmpQ (((a : Int) : Rat) * p2 i) (((b : Int) : Rat) * p2 j) = cmpN (a * 2 ^ (i - j).toNat) (b * 2 ^ (j - i).toNat) := by
  have key : ∀ (a : Nat) (i l : Int), l ≤ i → ((a : Int) : Rat) * p2 i = (((a * 2 ^ (i - l).toNat : Nat) : Int) : Rat) * p2 l := fun a i l h => by
    have e : i = ((i - l).toNat : Int) + l := by omega
    conv => lhs; rw [e]
    rw [p2_add, p2_cast, ← Rat.mul_assoc, ← Rat.intCast_mul]
    simp
  have h1 := key a i (min i j) (by omega)
  have h2 := key b j (min i j) (by omega)
  rw [h1, h2, cmpQ_scale, cmpQ_nat, show (i - min i j).toNat = (i - j).toNat by omega, show (j - min i j).toNat = (j - i).toNat by omega]

theorem cmp_one (a : Nat) (i j : Int) : cmpQ (((a : Int) : Rat) * p2 i) (p2 j) = cmpN (a * 2 ^ (i - j).toNat) (2 ^ (j - i).toNat) := by
  have h := cmp_two a 1 i j
  rw [show (((1 : Nat) : Int) : Rat) = 1 from rfl, Rat.one_mul, Nat.one_mul] at h
  exact h

theorem cmpN_neg (a b : Nat) : cmpN a b < 0 ↔ a < b := by unfold cmpN; (repeat' split) <;> omega

theorem cmpN_pos (a b : Nat) : 0 < cmpN a b ↔ b < a := by unfold cmpN; (repeat' split) <;> omega

theorem bl_iff {K : Nat} (h : K ≠ 0) (n : Nat) : blN K ≤ n ↔ K < 2 ^ n := by
  obtain ⟨h1, h2, h3⟩ := bl_spec h
  constructor
  · intro hn
    exact Nat.lt_of_lt_of_le h3 (Nat.pow_le_pow_right (by decide) hn)
  · intro hn
    have := (Nat.pow_lt_pow_iff_right (a := 2) (by decide)).1 (Nat.lt_of_le_of_lt h2 hn)
    omega

/-- Is it tiny? -/
theorem tiny_iff {E F N D : Nat} (hN : N ≠ 0) (hD : D ≠ 0) (neg : Bool) (m : Nat) :
    cmpQ (((sgK F N D neg m : Int)) * p2 (lgE N D - F)) (p2 (1 - (bsN E : Int))) < 0 ↔ tiny E F N D neg m = true := by
  obtain ⟨h1, h2⟩ := sgK_bounds (F := F) hN hD neg m
  rw [cmp_one, cmpN_neg]
  unfold tiny
  rw [decide_eq_true_iff]
  have hK0 : sgK F N D neg m ≠ 0 := by have := Nat.two_pow_pos F; omega
  rw [bl_iff hK0]
  generalize sgK F N D neg m = K at *
  generalize lgE N D = e at *
  generalize bsN E = bs at *
  rcases Int.lt_or_le e (1 - (bs : Int)) with h | h
  · obtain ⟨s, hs⟩ : ∃ s : Nat, 1 - (bs : Int) - e = ((s + 1 : Nat) : Int) := ⟨(1 - (bs : Int) - e - 1).toNat, by omega⟩
    have z1 : (e - F - (1 - (bs : Int))).toNat = 0 := by omega
    have z2 : (1 - (bs : Int) - (e - F)).toNat = F + 1 + s := by omega
    rw [z1, z2, Nat.pow_zero, Nat.mul_one]
    by_cases hs0 : s = 0
    · subst hs0
      constructor
      · intro hk; exact ⟨h, .inr hk⟩
      · rintro ⟨_, hk | hk⟩
        · omega
        · exact hk
    · have : 2 ^ (F + 1) < 2 ^ (F + 1 + s) := Nat.pow_lt_pow_right (by decide) (by omega)
      exact ⟨fun _ => ⟨h, .inl (by omega)⟩, fun _ => by omega⟩
  · constructor
    · intro hk
      exfalso
      rcases Int.lt_or_le (e - F) (1 - (bs : Int)) with h3 | h3
      · have z1 : (e - F - (1 - (bs : Int))).toNat = 0 := by omega
        have z2 : (1 - (bs : Int) - (e - F)).toNat ≤ F := by omega
        rw [z1, Nat.pow_zero, Nat.mul_one] at hk
        have := Nat.pow_le_pow_right (n := 2) (by decide) z2
        omega
      · have z2 : (1 - (bs : Int) - (e - F)).toNat = 0 := by omega
        rw [z2] at hk
        have := Nat.mul_pos (Nat.pos_of_ne_zero hK0) (Nat.two_pow_pos (e - F - (1 - (bs : Int))).toNat)
        omega
    · rintro ⟨hk, _⟩
      omega

/-- Is it beyond the greatest float? -/
theorem over_iff {E F N D : Nat} (hE : 2 ≤ E) (hN : N ≠ 0) (hD : D ≠ 0) (neg : Bool) (m : Nat) :
    0 < cmpQ (((sgM E F N D neg m : Int)) * p2 (lwE E N D - F)) ((((2 ^ (F + 1) - 1 : Nat) : Int) : Rat) * p2 ((bsN E : Int) - F)) ↔ ovB E F N D neg m = true := by
  have hle := sg_le (E := E) (F := F) hN hD neg m
  have hge : lwE E N D = lgE N D → 2 ^ F ≤ sgM E F N D neg m := fun h => sg_ge hN hD neg m h
  have hlc := lw_cases E N D
  have hlg := lw_ge E N D
  have hb : 2 ^ (E + F) = (2 * bsN E + 2) * 2 ^ F ∧ 1 ≤ bsN E := by
    unfold bsN
    obtain ⟨e, rfl⟩ : ∃ e, E = e + 2 := ⟨E - 2, by omega⟩
    have h0 := Nat.two_pow_pos e
    have h1 : 2 ^ (e + 2 - 1) = 2 * 2 ^ e := by rw [show e + 2 - 1 = e + 1 by omega, Nat.pow_succ]; omega
    have h2 : 2 ^ (e + 2 + F) = 4 * 2 ^ e * 2 ^ F := by rw [Nat.pow_add, Nat.pow_add, Nat.mul_comm (2 ^ e)]
    rw [h1, h2]
    refine ⟨?_, by omega⟩
    congr 1
    omega
  rw [cmp_two, cmpN_pos]
  unfold ovB sgB infN
  rw [decide_eq_true_iff, hb.1]
  have hF0 := Nat.two_pow_pos F
  rw [Nat.pow_succ] at hle ⊢
  generalize sgM E F N D neg m = M at *
  generalize lwE E N D = lo at *
  generalize lgE N D = e at *
  obtain ⟨_, hb1⟩ := hb
  generalize bsN E = bs at *
  generalize 2 ^ F = Q at *
  rcases Int.lt_trichotomy lo bs with h | h | h
  · obtain ⟨d, hd⟩ : ∃ d : Nat, (bs : Int) - lo = ((d + 1 : Nat) : Int) := ⟨((bs : Int) - lo - 1).toNat, by omega⟩
    rw [show (lo - F - ((bs : Int) - F)).toNat = 0 by omega, show ((bs : Int) - F - (lo - F)).toNat = d + 1 by omega, Nat.pow_zero, Nat.mul_one, Nat.pow_succ]
    have hp := Nat.two_pow_pos d
    have k1 : (Q * 2 - 1) * 2 ≤ (Q * 2 - 1) * (2 ^ d * 2) := Nat.mul_le_mul_left _ (by omega)
    have k2 : (lo + bs - 1).toNat ≤ 2 * bs - 2 := by omega
    have k3 := Nat.mul_le_mul_right Q k2
    have k4 : (2 * bs - 2) * Q + 4 * Q = (2 * bs + 2) * Q := by rw [← Nat.add_mul]; congr 1; omega
    constructor
    · intro hk; omega
    · rintro (hk | hk) <;> omega
  · subst h
    rw [show ((bs : Int) - F - ((bs : Int) - F)).toNat = 0 by omega, Nat.pow_zero, Nat.mul_one, Nat.mul_one]
    have k2 : ((bs : Int) + bs - 1).toNat = 2 * bs - 1 := by omega
    rw [k2]
    have k4 : (2 * bs - 1) * Q + 3 * Q = (2 * bs + 2) * Q := by rw [← Nat.add_mul]; congr 1; omega
    constructor
    · intro hk; exact .inr (by omega)
    · rintro (hk | hk)
      · omega
      · omega
  · obtain ⟨d, hd⟩ : ∃ d : Nat, lo - (bs : Int) = ((d + 1 : Nat) : Int) := ⟨(lo - (bs : Int) - 1).toNat, by omega⟩
    rw [show (lo - F - ((bs : Int) - F)).toNat = d + 1 by omega, show ((bs : Int) - F - (lo - F)).toNat = 0 by omega, Nat.pow_zero, Nat.mul_one, Nat.pow_succ]
    have hp := Nat.two_pow_pos d
    have hg := hge (by omega)
    have k1 : M * 2 ≤ M * (2 ^ d * 2) := Nat.mul_le_mul_left _ (by omega)
    exact ⟨fun _ => .inl h, fun _ => by omega⟩

/-- How 2^e stands to x, and the highest bit's place. -/
theorem lg_of {x : Rat} (hx : 0 < x) {e : Int} (h1 : ¬ 0 < cmpQ (p2 e) x) (h2 : 0 < cmpQ (p2 (e + 1)) x) : lgE x.num.natAbs x.den = e := by
  have hn : x.num.natAbs ≠ 0 := fun h => Rat.ne_of_gt hx (Rat.num_eq_zero.1 (by omega))
  rw [cmp_p2 hx] at h1 h2
  refine lg_uniq x.den_nz (lg_spec hn x.den_nz) ⟨by omega, ?_⟩
  have hs := sc_step x.num.natAbs x.den (-(e + 1)) 1
  rw [show -(e + 1) + ((1 : Nat) : Int) = -e by omega, Nat.pow_one] at hs
  have hp := scD_pos x.den_pos (-(e + 1))
  have hgp := scD_pos x.den_pos (-e)
  generalize scN x.num.natAbs (-(e + 1)) = A at *
  generalize scD x.den (-(e + 1)) = B at *
  generalize scN x.num.natAbs (-e) = C at *
  generalize scD x.den (-e) = G at *
  -- C * B = A * 2 * G, A < B
  have h3 : A * 2 * G ≤ (B - 1) * 2 * G := Nat.mul_le_mul_right _ (Nat.mul_le_mul_right _ (by omega))
  rcases Nat.lt_or_ge C (2 * G) with h | h
  · exact h
  · exfalso
    have h4 := Nat.mul_le_mul_right B h
    rw [hs] at h4
    have h5 : 2 * G * B = B * 2 * G := by rw [Nat.mul_assoc, Nat.mul_comm G B, ← Nat.mul_assoc, Nat.mul_comm 2 B]
    rw [h5] at h4
    have h6 : A * 2 * G < B * 2 * G ∨ G = 0 := by
      rcases Nat.eq_zero_or_pos G with hg | hg
      · exact .inr hg
      · exact .inl (Nat.mul_lt_mul_of_pos_right (by omega) hg)
    rcases h6 with h6 | h6
    · omega
    · omega

/-- The highest bit of a whole number times a power of two. -/
theorem lg_scaled {M : Nat} {F c : Nat} (lo : Int) (h1 : 2 ^ (F + c) ≤ M) (h2 : M < 2 ^ (F + c + 1)) : lgE ((((M : Int)) : Rat) * p2 (lo - F)).num.natAbs ((((M : Int)) : Rat) * p2 (lo - F)).den = lo + c := by
  have hM : 0 < M := Nat.lt_of_lt_of_le (Nat.two_pow_pos _) h1
  have hx : 0 < (((M : Int)) : Rat) * p2 (lo - F) := Rat.mul_pos (Rat.intCast_pos.2 (by omega)) (p2_pos _)
  have flip : ∀ (e : Int), 0 < cmpQ (p2 e) ((((M : Int)) : Rat) * p2 (lo - F)) ↔ M * 2 ^ (lo - F - e).toNat < 2 ^ (e - (lo - F)).toNat := fun e => by
    have h := cmp_two 1 M e (lo - F)
    rw [show (((1 : Nat) : Int) : Rat) = 1 from rfl, Rat.one_mul, Nat.one_mul] at h
    rw [h, cmpN_pos]
  refine lg_of hx ?_ ?_
  · rw [flip, show (lo - F - (lo + c)).toNat = 0 by omega, show (lo + c - (lo - F)).toNat = F + c by omega, Nat.pow_zero, Nat.mul_one]
    omega
  · rw [flip, show (lo - F - (lo + c + 1)).toNat = 0 by omega, show (lo + c + 1 - (lo - F)).toNat = F + c + 1 by omega, Nat.pow_zero, Nat.mul_one]
    exact h2

end Go.Lb

