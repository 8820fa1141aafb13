/-
  Plain: a fraction rounded to a whole number, and to a form's float. No program in sight.
-/
import Derived.Test.YtklibjdhlmdkpaaGreatDoorQBigL
namespace Go.Lb

open Go.RowKit Go.Proofs.YtklibjdhlmdkpaaGreatDoor

/-- Does the number farther from nought stand for what lies between? h: where it lies against the middle. -/
def mdB (mode : Nat) (neg odd : Bool) (h : Int) : Bool :=
  if mode = 0 then decide (0 < h ∨ h = 0 ∧ odd = true) else if mode = 1 then decide (0 ≤ h) else if mode = 2 then false else if mode = 3 then !neg else neg

/-- N by D rounded to a whole number. -/
def rdN (N D : Nat) (neg : Bool) (mode : Nat) : Nat :=
  if N % D = 0 then N / D else N / D + (if mdB mode neg (decide (N / D % 2 = 1)) (cmpN (2 * (N % D)) D) = true then 1 else 0)

/-- Is it a whole number? -/
def exB (N D : Nat) : Bool := decide (N % D = 0)

theorem div_same {N D N' D' : Nat} (hD : 0 < D) (hD' : 0 < D') (h : N * D' = N' * D) : N / D = N' / D' := by
  have one : ∀ {N D N' D' : Nat}, 0 < D → 0 < D' → N * D' = N' * D → N / D ≤ N' / D' := by
    intro N D N' D' hD hD' h
    refine (Nat.le_div_iff_mul_le hD').2 ?_
    have h1 : N / D * D ≤ N := Nat.div_mul_le_self N D
    have h2 : N / D * D' * D ≤ N' * D := by
      rw [← h, Nat.mul_right_comm]
      exact Nat.mul_le_mul_right _ h1
    exact Nat.le_of_mul_le_mul_right h2 hD
  exact Nat.le_antisymm (one hD hD' h) (one hD' hD h.symm)

theorem mod_same {N D N' D' : Nat} (hD : 0 < D) (hD' : 0 < D') (h : N * D' = N' * D) : N % D * D' = N' % D' * D := by
  have hq := div_same hD hD' h
  have e1 := Nat.div_add_mod N D
  have e2 := Nat.div_add_mod N' D'
  rw [← hq] at e2
  have h1 : (D * (N / D) + N % D) * D' = (D' * (N / D) + N' % D') * D := by rw [e1, e2, h]
  rw [Nat.add_mul, Nat.add_mul, Nat.mul_right_comm D, Nat.mul_right_comm D' (N / D) D, Nat.mul_comm D D'] at h1
  omega

theorem cmp_mul {a b c : Nat} (hc : 0 < c) : cmpN (a * c) (b * c) = cmpN a b := by
  unfold cmpN
  have h1 : a * c < b * c ↔ a < b := Nat.mul_lt_mul_right hc
  have h2 : b * c < a * c ↔ b < a := Nat.mul_lt_mul_right hc
  simp only [h1, h2]

theorem cmp_same {N D N' D' : Nat} (hD : 0 < D) (hD' : 0 < D') (h : N * D' = N' * D) : cmpN (2 * (N % D)) D = cmpN (2 * (N' % D')) D' := by
  have hm := mod_same hD hD' h
  rw [← cmp_mul (a := 2 * (N % D)) (b := D) hD', ← cmp_mul (a := 2 * (N' % D')) (b := D') hD, Nat.mul_assoc, hm, ← Nat.mul_assoc, Nat.mul_comm D' D]

theorem ex_same {N D N' D' : Nat} (hD : 0 < D) (hD' : 0 < D') (h : N * D' = N' * D) : exB N D = exB N' D' := by
  have hm := mod_same hD hD' h
  unfold exB
  by_cases h0 : N % D = 0
  · rw [h0, Nat.zero_mul] at hm
    have : N' % D' = 0 := by
      rcases Nat.mul_eq_zero.1 hm.symm with h1 | h1
      · exact h1
      · omega
    rw [decide_eq_true h0, decide_eq_true this]
  · have : N' % D' ≠ 0 := fun h1 => by
      rw [h1, Nat.zero_mul] at hm
      rcases Nat.mul_eq_zero.1 hm with h2 | h2
      · exact h0 h2
      · omega
    rw [decide_eq_false h0, decide_eq_false this]

theorem rd_same {N D N' D' : Nat} (hD : 0 < D) (hD' : 0 < D') (h : N * D' = N' * D) (neg : Bool) (mode : Nat) : rdN N D neg mode = rdN N' D' neg mode := by
  have h1 := ex_same hD hD' h
  have h2 := div_same hD hD' h
  have h3 := cmp_same hD hD' h
  unfold exB at h1
  unfold rdN
  rw [h2, h3]
  by_cases h0 : N % D = 0
  · rw [if_pos h0, if_pos]
    rw [decide_eq_true h0] at h1
    exact of_decide_eq_true h1.symm
  · have h4 : ¬ N' % D' = 0 := by
      rw [decide_eq_false h0] at h1
      exact of_decide_eq_false h1.symm
    rw [if_neg h0, if_neg h4]

theorem rd_ge (N D : Nat) (neg : Bool) (mode : Nat) : N / D ≤ rdN N D neg mode := by
  unfold rdN
  split
  · exact Nat.le_refl _
  · exact Nat.le_add_right _ _

theorem rd_le (N D : Nat) (neg : Bool) (mode : Nat) : rdN N D neg mode ≤ N / D + 1 := by
  unfold rdN
  split
  · omega
  · split <;> omega

/-- Times two to the power of k, as two numbers. -/
def scN (N : Nat) (k : Int) : Nat := N * 2 ^ k.toNat

def scD (D : Nat) (k : Int) : Nat := D * 2 ^ (-k).toNat

theorem scD_pos {D : Nat} (h : 0 < D) (k : Int) : 0 < scD D k := Nat.mul_pos h (Nat.two_pow_pos _)

/-- The same number times 2^k: one more power. -/
theorem sc_step (N D : Nat) (k : Int) (j : Nat) : scN N (k + j) * scD D k = scN N k * 2 ^ j * scD D (k + j) := by
  unfold scN scD
  by_cases h1 : 0 ≤ k
  · have e1 : (k + j).toNat = k.toNat + j := by omega
    have e2 : (-k).toNat = 0 := by omega
    have e3 : (-(k + j)).toNat = 0 := by omega
    rw [e1, e2, e3, Nat.pow_add, ← Nat.mul_assoc N]
  · by_cases h2 : 0 ≤ k + j
    · have e1 : j = (k + j).toNat + (-k).toNat := by omega
      have e2 : k.toNat = 0 := by omega
      have e3 : (-(k + j)).toNat = 0 := by omega
      rw [e2, e3]
      have e4 : 2 ^ j = 2 ^ (k + j).toNat * 2 ^ (-k).toNat := by rw [← Nat.pow_add, ← e1]
      rw [e4, Nat.pow_zero, Nat.mul_one, Nat.mul_one]
      generalize 2 ^ (k + j).toNat = A
      generalize 2 ^ (-k).toNat = B
      rw [Nat.mul_assoc, Nat.mul_assoc, Nat.mul_assoc, Nat.mul_comm D B]
    · have e1 : (-k).toNat = (-(k + j)).toNat + j := by omega
      have e2 : k.toNat = 0 := by omega
      have e3 : (k + j).toNat = 0 := by omega
      rw [e1, e2, e3, Nat.pow_add, Nat.pow_zero, Nat.mul_one, Nat.mul_assoc, ← Nat.mul_assoc D, Nat.mul_comm (D * 2 ^ _) (2 ^ j)]

/-- How many bits a number has. -/
def blN (N : Nat) : Nat := szN (limbs N)

theorem bl_spec {N : Nat} (h : N ≠ 0) : 1 ≤ blN N ∧ 2 ^ (blN N - 1) ≤ N ∧ N < 2 ^ blN N := by
  have hf := fine_limbs N
  have hn : (limbs N).length ≠ 0 := fun hh => h (by rw [← val_limbs' N]; exact (val_zero hf).2 hh)
  have := sz_fine hf hn
  rwa [val_limbs'] at this

/-- The exponent of two of the highest bit. -/
def LgP (N D : Nat) (e : Int) : Prop := scD D (-e) ≤ scN N (-e) ∧ scN N (-e) < 2 * scD D (-e)

def lgE (N D : Nat) : Int :=
  if scN N (-((blN N : Int) - blN D)) < scD D (-((blN N : Int) - blN D)) then (blN N : Int) - blN D - 1 else (blN N : Int) - blN D

theorem lg_spec {N D : Nat} (hN : N ≠ 0) (hD : D ≠ 0) : LgP N D (lgE N D) := by
  obtain ⟨a1, a2, a3⟩ := bl_spec hN
  obtain ⟨b1, b2, b3⟩ := bl_spec hD
  generalize ha : blN N = a at a1 a2 a3
  generalize hb : blN D = b at b1 b2 b3
  have hA : scN N (-((a : Int) - b)) < 2 * scD D (-((a : Int) - b)) := by
    unfold scN scD
    by_cases hab : b ≤ a
    · have e1 : (-((a : Int) - b)).toNat = 0 := by omega
      have e2 : (- -((a : Int) - b)).toNat = a - b := by omega
      rw [e1, e2, Nat.pow_zero, Nat.mul_one]
      have e3 : 2 ^ a = 2 * (2 ^ (b - 1) * 2 ^ (a - b)) := by rw [← Nat.pow_add, ← Nat.pow_succ', show (b - 1 + (a - b)).succ = a by omega]
      have := Nat.mul_le_mul_right (2 ^ (a - b)) b2
      omega
    · have e1 : (-((a : Int) - b)).toNat = b - a := by omega
      have e2 : (- -((a : Int) - b)).toNat = 0 := by omega
      rw [e1, e2, Nat.pow_zero, Nat.mul_one]
      have e3 : 2 ^ b = 2 ^ a * 2 ^ (b - a) := by rw [← Nat.pow_add, show a + (b - a) = b by omega]
      have e4 : 2 ^ b = 2 * 2 ^ (b - 1) := by rw [← Nat.pow_succ', show (b - 1).succ = b by omega]
      have := Nat.mul_lt_mul_of_pos_right a3 (Nat.two_pow_pos (b - a))
      omega
  have hB : scD D (-((a : Int) - b - 1)) ≤ scN N (-((a : Int) - b - 1)) := by
    unfold scN scD
    by_cases hab : b + 1 ≤ a
    · have e1 : (-((a : Int) - b - 1)).toNat = 0 := by omega
      have e2 : (- -((a : Int) - b - 1)).toNat = a - b - 1 := by omega
      rw [e1, e2, Nat.pow_zero, Nat.mul_one]
      have e3 : 2 ^ (a - 1) = 2 ^ b * 2 ^ (a - b - 1) := by rw [← Nat.pow_add, show b + (a - b - 1) = a - 1 by omega]
      have := Nat.mul_le_mul_right (2 ^ (a - b - 1)) (Nat.le_of_lt b3)
      omega
    · have e1 : (-((a : Int) - b - 1)).toNat = b + 1 - a := by omega
      have e2 : (- -((a : Int) - b - 1)).toNat = 0 := by omega
      rw [e1, e2, Nat.pow_zero, Nat.mul_one]
      have e3 : 2 ^ b = 2 ^ (a - 1) * 2 ^ (b + 1 - a) := by rw [← Nat.pow_add, show a - 1 + (b + 1 - a) = b by omega]
      have := Nat.mul_le_mul_right (2 ^ (b + 1 - a)) a2
      omega
  unfold lgE
  rw [ha, hb]
  split
  · rename_i hlt
    refine ⟨hB, ?_⟩
    have hs := sc_step N D (-((a : Int) - b)) 1
    rw [show -((a : Int) - b) + (1 : Nat) = -((a : Int) - b - 1) by omega, Nat.pow_one] at hs
    have hp := scD_pos (Nat.pos_of_ne_zero hD) (-((a : Int) - b))
    have hp2 := scD_pos (Nat.pos_of_ne_zero hD) (-((a : Int) - b - 1))
    have h1 : scN N (-((a : Int) - b)) * 2 * scD D (-((a : Int) - b - 1)) < scD D (-((a : Int) - b)) * 2 * scD D (-((a : Int) - b - 1)) := Nat.mul_lt_mul_of_pos_right (by omega) hp2
    rw [← hs, Nat.mul_assoc (scD D (-((a : Int) - b))), Nat.mul_comm (scD D (-((a : Int) - b)))] at h1
    exact Nat.lt_of_mul_lt_mul_right h1
  · rename_i hlt
    exact ⟨by omega, hA⟩

theorem lg_lt {N D : Nat} (hD : D ≠ 0) {e e' : Int} (h : LgP N D e) (h' : LgP N D e') (hl : e < e') : False := by
  obtain ⟨d, hd⟩ : ∃ d : Nat, e' = e + 1 + d := ⟨(e' - e - 1).toNat, by omega⟩
  have hs := sc_step N D (-e') (1 + d)
  rw [show -e' + ((1 + d : Nat) : Int) = -e by omega] at hs
  have hp := scD_pos (Nat.pos_of_ne_zero hD) (-e')
  have hp2 := scD_pos (Nat.pos_of_ne_zero hD) (-e)
  have h1 : scD D (-e') * 2 ^ (1 + d) * scD D (-e) ≤ scN N (-e) * scD D (-e') := by
    rw [hs]
    exact Nat.mul_le_mul_right _ (Nat.mul_le_mul_right _ h'.1)
  rw [Nat.mul_assoc, Nat.mul_comm (scN N (-e))] at h1
  have h2 := Nat.le_of_mul_le_mul_left h1 hp
  have h3 : 2 ≤ 2 ^ (1 + d) := by rw [Nat.add_comm, Nat.pow_succ]; have := Nat.two_pow_pos d; omega
  have h4 := Nat.mul_le_mul_right (scD D (-e)) h3
  have := h.2
  omega

theorem lg_uniq {N D : Nat} (hD : D ≠ 0) {e e' : Int} (h : LgP N D e) (h' : LgP N D e') : e = e' := by
  rcases Int.lt_trichotomy e e' with hl | hl | hl
  · exact absurd (lg_lt hD h h' hl) id
  · exact hl
  · exact absurd (lg_lt hD h' h hl) id

/-- Two fractions that are one number: so are they times 2^k. -/
theorem sc_cross {N D N' D' : Nat} (h : N * D' = N' * D) (k : Int) : scN N k * scD D' k = scN N' k * scD D k := by
  unfold scN scD
  generalize 2 ^ k.toNat = A
  generalize 2 ^ (-k).toNat = B
  rw [Nat.mul_mul_mul_comm, h, Nat.mul_mul_mul_comm]

theorem lg_same {N D N' D' : Nat} (hD : D ≠ 0) (hD' : D' ≠ 0) (h : N * D' = N' * D) {e : Int} (hl : LgP N D e) : LgP N' D' e := by
  have hc := sc_cross h (-e)
  have hp := scD_pos (Nat.pos_of_ne_zero hD) (-e)
  have hp2 := scD_pos (Nat.pos_of_ne_zero hD') (-e)
  obtain ⟨h1, h2⟩ := hl
  constructor
  · have := Nat.mul_le_mul_right (scD D' (-e)) h1
    rw [hc, Nat.mul_comm] at this
    exact Nat.le_of_mul_le_mul_right this hp
  · have := Nat.mul_lt_mul_of_pos_right h2 hp2
    rw [hc, Nat.mul_assoc, Nat.mul_comm (scD D (-e)), ← Nat.mul_assoc] at this
    exact Nat.lt_of_mul_lt_mul_right this

theorem lgE_same {N D N' D' : Nat} (hN : N ≠ 0) (hD : D ≠ 0) (hN' : N' ≠ 0) (hD' : D' ≠ 0) (h : N * D' = N' * D) : lgE N D = lgE N' D' :=
  lg_uniq hD' (lg_same hD hD' h (lg_spec hN hD)) (lg_spec hN' hD')

/-- A number times 2^(F-e), its highest bit at e: it has F+1 bits ahead of the point. -/
theorem sc_norm {N D : Nat} (hD : D ≠ 0) {e : Int} (h : LgP N D e) (F : Nat) : 2 ^ F * scD D (F - e) ≤ scN N (F - e) ∧ scN N (F - e) < 2 ^ (F + 1) * scD D (F - e) := by
  have hs := sc_step N D (-e) F
  rw [show -e + (F : Int) = F - e by omega] at hs
  have hp := scD_pos (Nat.pos_of_ne_zero hD) (-e)
  have hp2 := scD_pos (Nat.pos_of_ne_zero hD) ((F : Int) - e)
  obtain ⟨h1, h2⟩ := h
  generalize scD D (-e) = A at hs hp h1 h2
  generalize scN N (-e) = B at hs h1 h2
  generalize scN N (F - e) = X at hs ⊢
  generalize scD D (F - e) = Y at hs hp2 ⊢
  have hF := Nat.two_pow_pos F
  constructor
  · have h3 : 2 ^ F * Y * A ≤ X * A := by
      rw [hs, Nat.mul_comm (2 ^ F * Y), ← Nat.mul_assoc]
      exact Nat.mul_le_mul_right _ (Nat.mul_le_mul_right _ h1)
    exact Nat.le_of_mul_le_mul_right h3 hp
  · have h3 : X * A < 2 ^ (F + 1) * Y * A := by
      rw [hs, Nat.pow_succ, Nat.mul_assoc, Nat.mul_assoc (2 ^ F * 2), Nat.mul_comm Y A, Nat.mul_comm (2 ^ F) 2, ← Nat.mul_assoc B, ← Nat.mul_assoc (2 * 2 ^ F), Nat.mul_comm (2 * 2 ^ F) A, ← Nat.mul_assoc A, Nat.mul_comm A 2]
      exact Nat.mul_lt_mul_of_pos_right (Nat.mul_lt_mul_of_pos_right h2 hF) hp2
    exact Nat.lt_of_mul_lt_mul_right h3

theorem sc_low {N D : Nat} (hD : D ≠ 0) {e low : Int} (h : LgP N D e) (hl : e < low) (F : Nat) : scN N (F - low) < 2 ^ F * scD D (F - low) := by
  obtain ⟨d, hd⟩ : ∃ d : Nat, low = e + (d + 1 : Nat) := ⟨(low - e - 1).toNat, by omega⟩
  have hn := (sc_norm hD h F).2
  have hs := sc_step N D (F - low) (d + 1)
  rw [show (F : Int) - low + ((d + 1 : Nat) : Int) = F - e by omega] at hs
  have hp := scD_pos (Nat.pos_of_ne_zero hD) ((F : Int) - low)
  have hp2 := scD_pos (Nat.pos_of_ne_zero hD) ((F : Int) - e)
  generalize scD D (F - low) = A at hs hp ⊢
  generalize scN N (F - low) = B at hs ⊢
  generalize scN N (F - e) = X at hs hn
  generalize scD D (F - e) = Y at hs hn hp2
  have h1 : B * 2 ^ (d + 1) * Y < 2 ^ (F + 1) * A * Y := by
    rw [← hs, Nat.mul_assoc, Nat.mul_comm A Y, ← Nat.mul_assoc]
    exact Nat.mul_lt_mul_of_pos_right hn hp
  have h2 := Nat.lt_of_mul_lt_mul_right h1
  have h3 : B * 2 ≤ B * 2 ^ (d + 1) := Nat.mul_le_mul_left _ (by rw [Nat.pow_succ]; have := Nat.two_pow_pos d; omega)
  have h4 : 2 ^ (F + 1) * A = 2 ^ F * A * 2 := by rw [Nat.pow_succ, Nat.mul_right_comm]
  omega

/-- A form's numbers. -/
def bsN (E : Nat) : Nat := 2 ^ (E - 1) - 1

def infN (E F : Nat) : Nat := 2 ^ (E + F) - 2 ^ F

def lwE (E N D : Nat) : Int := max (lgE N D) (1 - (bsN E : Int))

/-- The whole number that a number above nought is rounded to, in the form's unit; whether it is that. -/
def sgM (E F N D : Nat) (neg : Bool) (mode : Nat) : Nat := rdN (scN N (F - lwE E N D)) (scD D (F - lwE E N D)) neg mode

def sgX (E F N D : Nat) : Bool := exB (scN N (F - lwE E N D)) (scD D (F - lwE E N D))

/-- The like as if exponents had no lower end. -/
def sgK (F N D : Nat) (neg : Bool) (mode : Nat) : Nat := rdN (scN N (F - lgE N D)) (scD D (F - lgE N D)) neg mode

/-- The bits, where it is no overflow. -/
def sgB (E F N D : Nat) (neg : Bool) (mode : Nat) : Nat := sgM E F N D neg mode + (lwE E N D + bsN E - 1).toNat * 2 ^ F

def ovB (E F N D : Nat) (neg : Bool) (mode : Nat) : Bool := decide ((bsN E : Int) < lwE E N D ∨ infN E F ≤ sgB E F N D neg mode)

def tiny (E F N D : Nat) (neg : Bool) (mode : Nat) : Bool := decide (lgE N D < 1 - (bsN E : Int) ∧ (lgE N D < -(bsN E : Int) ∨ blN (sgK F N D neg mode) ≤ F + 1))

/-- Does a mode stay finite beyond the greatest float? -/
def stayB (neg : Bool) (mode : Nat) : Bool := decide (mode = 2 ∨ mode = 3 ∧ neg = true ∨ mode = 4 ∧ neg = false)

/-- The float to which N by D is rounded (without its sign), and the flags. -/
def flB (E F N D : Nat) (neg : Bool) (mode : Nat) : Nat := if ovB E F N D neg mode = true then (if stayB neg mode = true then infN E F - 1 else infN E F) else sgB E F N D neg mode

def flG (E F N D : Nat) (neg : Bool) (mode : Nat) : Nat := if ovB E F N D neg mode = true then 3 else if sgX E F N D = true then 0 else if tiny E F N D neg mode = true then 5 else 1

theorem lw_cases (E N D : Nat) : lwE E N D = lgE N D ∨ lgE N D < lwE E N D ∧ lwE E N D = 1 - (bsN E : Int) := by
  unfold lwE
  omega

theorem sg_le {E F N D : Nat} (hN : N ≠ 0) (hD : D ≠ 0) (neg : Bool) (mode : Nat) : sgM E F N D neg mode ≤ 2 ^ (F + 1) := by
  have hl := lg_spec hN hD
  have hp := scD_pos (Nat.pos_of_ne_zero hD) (F - lwE E N D)
  have hr := rd_le (scN N (F - lwE E N D)) (scD D (F - lwE E N D)) neg mode
  have hq : scN N (F - lwE E N D) / scD D (F - lwE E N D) < 2 ^ (F + 1) := by
    rw [Nat.div_lt_iff_lt_mul hp]
    rcases lw_cases E N D with h | ⟨h, _⟩
    · rw [h]; exact (sc_norm hD hl F).2
    · have := sc_low hD hl h F
      have h2 : 2 ^ F * scD D (F - lwE E N D) ≤ 2 ^ (F + 1) * scD D (F - lwE E N D) := Nat.mul_le_mul_right _ (Nat.pow_le_pow_right (by decide) (by omega))
      omega
  unfold sgM
  omega

theorem sgK_bounds {F N D : Nat} (hN : N ≠ 0) (hD : D ≠ 0) (neg : Bool) (mode : Nat) : 2 ^ F ≤ sgK F N D neg mode ∧ sgK F N D neg mode ≤ 2 ^ (F + 1) := by
  have hl := lg_spec hN hD
  have hp := scD_pos (Nat.pos_of_ne_zero hD) (F - lgE N D)
  have hr := rd_le (scN N (F - lgE N D)) (scD D (F - lgE N D)) neg mode
  obtain ⟨h1, h2⟩ := sc_norm hD hl F
  constructor
  · refine Nat.le_trans ?_ (rd_ge _ _ neg mode)
    rw [Nat.le_div_iff_mul_le hp]
    exact h1
  · have hq : scN N (F - lgE N D) / scD D (F - lgE N D) < 2 ^ (F + 1) := by
      rw [Nat.div_lt_iff_lt_mul hp]
      exact h2
    unfold sgK
    omega

end Go.Lb

