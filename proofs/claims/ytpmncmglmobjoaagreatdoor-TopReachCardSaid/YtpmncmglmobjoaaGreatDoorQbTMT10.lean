/-
  Plain: a fraction rounded to a whole number, and to a form's float. No program in sight.
-/
import Derived.Test.YtpmncmglmobjoaaGreatDoorQbTMT9
namespace Go.Lb
open Go.RowKit Go.Proofs.YtpmncmglmobjoaaGreatDoor
def mdB (mode : Nat) (neg odd : Bool) (h : Int) : Bool :=
 if mode = 0 then decide (0 < h ∨ h = 0 ∧ odd = true) else if mode = 1 then decide (0 ≤ h) else if mode = 2 then false else if mode = 3 then !neg else neg
def rdN (N D : Nat) (neg : Bool) (mode : Nat) : Nat :=
 if N % D = 0 then N / D else N / D + (if mdB mode neg (decide (N / D % 2 = 1)) (cmpN (2 * (N % D)) D) = true then 1 else 0)
def exB (N D : Nat) : Bool := decide (N % D = 0)
theorem cmp_mul {a b c : Nat} (hc : 0 < c) : cmpN (a * c) (b * c) = cmpN a b := by
 unfold cmpN
 have h1 : a * c < b * c ↔ a < b := Nat.mul_lt_mul_right hc
 have h2 : b * c < a * c ↔ b < a := Nat.mul_lt_mul_right hc
 simp only [h1, h2]
theorem rd_ge (N D : Nat) (neg : Bool) (mode : Nat) : N / D ≤ rdN N D neg mode := by
 unfold rdN
 split
 · exact Nat.le_refl _
 · exact Nat.le_add_right _ _
theorem rd_le (N D : Nat) (neg : Bool) (mode : Nat) : rdN N D neg mode ≤ N / D + 1 := by
 unfold rdN
 split
 · omega
 · split <;> omega
def scN (N : Nat) (k : Int) : Nat := N * 2 ^ k.toNat
def scD (D : Nat) (k : Int) : Nat := D * 2 ^ (-k).toNat
theorem scN_pos {N : Nat} (h : 0 < N) (k : Int) : 0 < scN N k := Nat.mul_pos h (Nat.two_pow_pos _)
theorem scD_pos {D : Nat} (h : 0 < D) (k : Int) : 0 < scD D k := Nat.mul_pos h (Nat.two_pow_pos _)
theorem sc_step (N D : Nat) (k : Int) (j : Nat) : scN N (k + j) * scD D k = scN N k * 2 ^ j * scD D (k + j) := by
 unfold scN scD
 by_cases h1 : 0 ≤ k
 · have e1 : (k + j).toNat = k.toNat + j := by omega
   have e2 : (-k).toNat = 0 := by omega
   have e3 : (-(k + j)).toNat = 0 := by omega
   rw [e1, e2, e3, Nat.pow_add, ← Nat.mul_assoc N]
 · by_cases h2 : 0 ≤ k + j
   · have e1 : j = (k + j).toNat + (-k).toNat := by omega
     have e2 : k.toNat = 0 := by omega
     have e3 : (-(k + j)).toNat = 0 := by omega
     rw [e2, e3]
     have e4 : 2 ^ j = 2 ^ (k + j).toNat * 2 ^ (-k).toNat := by rw [← Nat.pow_add, ← e1]
     rw [e4, Nat.pow_zero, Nat.mul_one, Nat.mul_one]
     generalize 2 ^ (k + j).toNat = A
     generalize 2 ^ (-k).toNat = B
     rw [Nat.mul_assoc, Nat.mul_assoc, Nat.mul_assoc, Nat.mul_comm D B]
   · have e1 : (-k).toNat = (-(k + j)).toNat + j := by omega
     have e2 : k.toNat = 0 := by omega
     have e3 : (k + j).toNat = 0 := by omega
     rw [e1, e2, e3, Nat.pow_add, Nat.pow_zero, Nat.mul_one, Nat.mul_assoc, ← Nat.mul_assoc D, Nat.mul_comm (D * 2 ^ _) (2 ^ j)]
def blN (N : Nat) : Nat := szN (limbs N)
theorem bl_spec {N : Nat} (h : N ≠ 0) : 1 ≤ blN N ∧ 2 ^ (blN N - 1) ≤ N ∧ N < 2 ^ blN N := by
 have hf := fine_limbs N
 have hn : (limbs N).length ≠ 0 := fun hh => h (by rw [← val_limbs' N]; exact (val_zero hf).2 hh)
 have := sz_fine hf hn
 rwa [val_limbs'] at this
def LgP (N D : Nat) (e : Int) : Prop := scD D (-e) ≤ scN N (-e) ∧ scN N (-e) < 2 * scD D (-e)
def lgE (N D : Nat) : Int :=
 if scN N (-((blN N : Int) - blN D)) < scD D (-((blN N : Int) - blN D)) then (blN N : Int) - blN D - 1 else (blN N : Int) - blN D
theorem lg_spec {N D : Nat} (hN : N ≠ 0) (hD : D ≠ 0) : LgP N D (lgE N D) := by
 obtain ⟨a1, a2, a3⟩ := bl_spec hN
 obtain ⟨b1, b2, b3⟩ := bl_spec hD
 generalize ha : blN N = a at a1 a2 a3
 generalize hb : blN D = b at b1 b2 b3
 have hA : scN N (-((a : Int) - b)) < 2 * scD D (-((a : Int) - b)) := by
  unfold scN scD
  by_cases hab : b ≤ a
  · have e1 : (-((a : Int) - b)).toNat = 0 := by omega
    have e2 : (- -((a : Int) - b)).toNat = a - b := by omega
    rw [e1, e2, Nat.pow_zero, Nat.mul_one]
    have e3 : 2 ^ a = 2 * (2 ^ (b - 1) * 2 ^ (a - b)) := by rw [← Nat.pow_add, ← Nat.pow_succ', show (b - 1 + (a - b)).succ = a by omega]
    have := Nat.mul_le_mul_right (2 ^ (a - b)) b2
    omega
  · have e1 : (-((a : Int) - b)).toNat = b - a := by omega
    have e2 : (- -((a : Int) - b)).toNat = 0 := by omega
    rw [e1, e2, Nat.pow_zero, Nat.mul_one]
    have e3 : 2 ^ b = 2 ^ a * 2 ^ (b - a) := by rw [← Nat.pow_add, show a + (b - a) = b by omega]
    have e4 : 2 ^ b = 2 * 2 ^ (b - 1) := by rw [← Nat.pow_succ', show (b - 1).succ = b by omega]
    have := Nat.mul_lt_mul_of_pos_right a3 (Nat.two_pow_pos (b - a))
    omega
 have hB : scD D (-((a : Int) - b - 1)) ≤ scN N (-((a : Int) - b - 1)) := by
  unfold scN scD
  by_cases hab : b + 1 ≤ a
  · have e1 : (-((a : Int) - b - 1)).toNat = 0 := by omega
    have e2 : (- -((a : Int) - b - 1)).toNat = a - b - 1 := by omega
    rw [e1, e2, Nat.pow_zero, Nat.mul_one]
    have e3 : 2 ^ (a - 1) = 2 ^ b * 2 ^ (a - b - 1) := by rw [← Nat.pow_add, show b + (a - b - 1) = a - 1 by omega]
    have := Nat.mul_le_mul_right (2 ^ (a - b - 1)) (Nat.le_of_lt b3)
    omega
  · have e1 : (-((a : Int) - b - 1)).toNat = b + 1 - a := by omega
    have e2 : (- -((a : Int) - b - 1)).toNat = 0 := by omega
    rw [e1, e2, Nat.pow_zero, Nat.mul_one]
    have e3 : 2 ^ b = 2 ^ (a - 1) * 2 ^ (b + 1 - a) := by rw [← Nat.pow_add, show a - 1 + (b + 1 - a) = b by omega]
    have := Nat.mul_le_mul_right (2 ^ (b + 1 - a)) a2
    omega
 unfold lgE
 rw [ha, hb]
 split
 · rename_i hlt
   refine ⟨hB, ?_⟩
   have hs := sc_step N D (-((a : Int) - b)) 1
   rw [show -((a : Int) - b) + (1 : Nat) = -((a : Int) - b - 1) by omega, Nat.pow_one] at hs
   have hp := scD_pos (Nat.pos_of_ne_zero hD) (-((a : Int) - b))
   have hp2 := scD_pos (Nat.pos_of_ne_zero hD) (-((a : Int) - b - 1))
   have h1 : scN N (-((a : Int) - b)) * 2 * scD D (-((a : Int) - b - 1)) < scD D (-((a : Int) - b)) * 2 * scD D (-((a : Int) - b - 1)) := Nat.mul_lt_mul_of_pos_right (by omega) hp2
   rw [← hs, Nat.mul_assoc (scD D (-((a : Int) - b))), Nat.mul_comm (scD D (-((a : Int) - b)))] at h1
   exact Nat.lt_of_mul_lt_mul_right h1
 · rename_i hlt
   exact ⟨by omega, hA⟩
theorem sc_norm {N D : Nat} (hD : D ≠ 0) {e : Int} (h : LgP N D e) (F : Nat) : 2 ^ F * scD D (F - e) ≤ scN N (F - e) ∧ scN N (F - e) < 2 ^ (F + 1) * scD D (F - e) := by
 have hs := sc_step N D (-e) F
 rw [show -e + (F : Int) = F - e by omega] at hs
 have hp := scD_pos (Nat.pos_of_ne_zero hD) (-e)
 have hp2 := scD_pos (Nat.pos_of_ne_zero hD) ((F : Int) - e)
 obtain ⟨h1, h2⟩ := h
 generalize scD D (-e) = A at hs hp h1 h2
 generalize scN N (-e) = B at hs h1 h2
 generalize scN N (F - e) = X at hs ⊢
 generalize scD D (F - e) = Y at hs hp2 ⊢
 have hF := Nat.two_pow_pos F
 constructor
 · have h3 : 2 ^ F * Y * A ≤ X * A := by
    rw [hs, Nat.mul_comm (2 ^ F * Y), ← Nat.mul_assoc]
    exact Nat.mul_le_mul_right _ (Nat.mul_le_mul_right _ h1)
   exact Nat.le_of_mul_le_mul_right h3 hp
 · have h3 : X * A < 2 ^ (F + 1) * Y * A := by
    rw [hs, Nat.pow_succ, Nat.mul_assoc, Nat.mul_assoc (2 ^ F * 2), Nat.mul_comm Y A, Nat.mul_comm (2 ^ F) 2, ← Nat.mul_assoc B, ← Nat.mul_assoc (2 * 2 ^ F), Nat.mul_comm (2 * 2 ^ F) A, ← Nat.mul_assoc A, Nat.mul_comm A 2]
    exact Nat.mul_lt_mul_of_pos_right (Nat.mul_lt_mul_of_pos_right h2 hF) hp2
   exact Nat.lt_of_mul_lt_mul_right h3
theorem sc_low {N D : Nat} (hD : D ≠ 0) {e low : Int} (h : LgP N D e) (hl : e < low) (F : Nat) : scN N (F - low) < 2 ^ F * scD D (F - low) := by
 obtain ⟨d, hd⟩ : ∃ d : Nat, low = e + (d + 1 : Nat) := ⟨(low - e - 1).toNat, by omega⟩
 have hn := (sc_norm hD h F).2
 have hs := sc_step N D (F - low) (d + 1)
 rw [show (F : Int) - low + ((d + 1 : Nat) : Int) = F - e by omega] at hs
 have hp := scD_pos (Nat.pos_of_ne_zero hD) ((F : Int) - low)
 have hp2 := scD_pos (Nat.pos_of_ne_zero hD) ((F : Int) - e)
 generalize scD D (F - low) = A at hs hp ⊢
 generalize scN N (F - low) = B at hs ⊢
 generalize scN N (F - e) = X at hs hn
 generalize scD D (F - e) = Y at hs hn hp2
 have h1 : B * 2 ^ (d + 1) * Y < 2 ^ (F + 1) * A * Y := by
  rw [← hs, Nat.mul_assoc, Nat.mul_comm A Y, ← Nat.mul_assoc]
  exact Nat.mul_lt_mul_of_pos_right hn hp
 have h2 := Nat.lt_of_mul_lt_mul_right h1
 have h3 : B * 2 ≤ B * 2 ^ (d + 1) := Nat.mul_le_mul_left _ (by rw [Nat.pow_succ]; have := Nat.two_pow_pos d; omega)
 have h4 : 2 ^ (F + 1) * A = 2 ^ F * A * 2 := by rw [Nat.pow_succ, Nat.mul_right_comm]
 omega
def bsN (E : Nat) : Nat := 2 ^ (E - 1) - 1
def infN (E F : Nat) : Nat := 2 ^ (E + F) - 2 ^ F
def lwE (E N D : Nat) : Int := max (lgE N D) (1 - (bsN E : Int))
def sgM (E F N D : Nat) (neg : Bool) (mode : Nat) : Nat := rdN (scN N (F - lwE E N D)) (scD D (F - lwE E N D)) neg mode
def sgX (E F N D : Nat) : Bool := exB (scN N (F - lwE E N D)) (scD D (F - lwE E N D))
def sgK (F N D : Nat) (neg : Bool) (mode : Nat) : Nat := rdN (scN N (F - lgE N D)) (scD D (F - lgE N D)) neg mode
def sgB (E F N D : Nat) (neg : Bool) (mode : Nat) : Nat := sgM E F N D neg mode + (lwE E N D + bsN E - 1).toNat * 2 ^ F
def ovB (E F N D : Nat) (neg : Bool) (mode : Nat) : Bool := decide ((bsN E : Int) < lwE E N D ∨ infN E F ≤ sgB E F N D neg mode)
def tiny (E F N D : Nat) (neg : Bool) (mode : Nat) : Bool := decide (lgE N D < 1 - (bsN E : Int) ∧ (lgE N D < -(bsN E : Int) ∨ blN (sgK F N D neg mode) ≤ F + 1))
def stayB (neg : Bool) (mode : Nat) : Bool := decide (mode = 2 ∨ mode = 3 ∧ neg = true ∨ mode = 4 ∧ neg = false)
def flB (E F N D : Nat) (neg : Bool) (mode : Nat) : Nat := if ovB E F N D neg mode = true then (if stayB neg mode = true then infN E F - 1 else infN E F) else sgB E F N D neg mode
def flG (E F N D : Nat) (neg : Bool) (mode : Nat) : Nat := if ovB E F N D neg mode = true then 3 else if sgX E F N D = true then 0 else if tiny E F N D neg mode = true then 5 else 1
theorem lw_cases (E N D : Nat) : lwE E N D = lgE N D ∨ lgE N D < lwE E N D ∧ lwE E N D = 1 - (bsN E : Int) := by
 unfold lwE
 omega
theorem lw_ge (E N D : Nat) : 1 - (bsN E : Int) ≤ lwE E N D := by unfold lwE; omega
theorem sg_le {E F N D : Nat} (hN : N ≠ 0) (hD : D ≠ 0) (neg : Bool) (mode : Nat) : sgM E F N D neg mode ≤ 2 ^ (F + 1) := by
 have hl := lg_spec hN hD
 have hp := scD_pos (Nat.pos_of_ne_zero hD) (F - lwE E N D)
 have hr := rd_le (scN N (F - lwE E N D)) (scD D (F - lwE E N D)) neg mode
 have hq : scN N (F - lwE E N D) / scD D (F - lwE E N D) < 2 ^ (F + 1) := by
  rw [Nat.div_lt_iff_lt_mul hp]
  rcases lw_cases E N D with h | ⟨h, _⟩
  · rw [h]; exact (sc_norm hD hl F).2
  · have := sc_low hD hl h F
    have h2 : 2 ^ F * scD D (F - lwE E N D) ≤ 2 ^ (F + 1) * scD D (F - lwE E N D) := Nat.mul_le_mul_right _ (Nat.pow_le_pow_right (by decide) (by omega))
    omega
 unfold sgM
 omega
theorem sg_ge {E F N D : Nat} (hN : N ≠ 0) (hD : D ≠ 0) (neg : Bool) (mode : Nat) (h : lwE E N D = lgE N D) : 2 ^ F ≤ sgM E F N D neg mode := by
 have hl := lg_spec hN hD
 have hp := scD_pos (Nat.pos_of_ne_zero hD) (F - lwE E N D)
 refine Nat.le_trans ?_ (rd_ge _ _ neg mode)
 rw [Nat.le_div_iff_mul_le hp, h]
 exact (sc_norm hD hl F).1
theorem sgK_bounds {F N D : Nat} (hN : N ≠ 0) (hD : D ≠ 0) (neg : Bool) (mode : Nat) : 2 ^ F ≤ sgK F N D neg mode ∧ sgK F N D neg mode ≤ 2 ^ (F + 1) := by
 have hl := lg_spec hN hD
 have hp := scD_pos (Nat.pos_of_ne_zero hD) (F - lgE N D)
 have hr := rd_le (scN N (F - lgE N D)) (scD D (F - lgE N D)) neg mode
 obtain ⟨h1, h2⟩ := sc_norm hD hl F
 constructor
 · refine Nat.le_trans ?_ (rd_ge _ _ neg mode)
   rw [Nat.le_div_iff_mul_le hp]
   exact h1
 · have hq : scN N (F - lgE N D) / scD D (F - lgE N D) < 2 ^ (F + 1) := by
    rw [Nat.div_lt_iff_lt_mul hp]
    exact h2
   unfold sgK
   omega
def p2 (n : Int) : Rat := (2 : Rat) ^ n
theorem p2_nat (k : Nat) : p2 (k : Int) = ((2 ^ k : Nat) : Rat) := by
 unfold p2
 rw [Rat.zpow_natCast, Rat.natCast_pow]
 rfl
theorem p2_add (m n : Int) : p2 (m + n) = p2 m * p2 n := Rat.zpow_add (by decide) m n
theorem p2_pos (n : Int) : 0 < p2 n := Rat.zpow_pos (by decide)
theorem mk_len (z : Int) {D : Nat} (hD : D ≠ 0) : ln (mkRat z D).num.natAbs ≤ ln z.natAbs ∧ ln (mkRat z D).den ≤ ln D := by
 obtain ⟨h1, h2, _⟩ := mk_parts z hD
 rw [h1, h2]
 exact ⟨ln_mono (Nat.div_le_self _ _), ln_mono (Nat.div_le_self _ _)⟩
theorem cmpQ_scale (x y : Rat) (k : Int) : cmpQ (x * p2 k) (y * p2 k) = cmpQ x y := by
 unfold cmpQ
 have hp := p2_pos k
 simp only [Rat.mul_lt_mul_right hp]
theorem cmpQ_nat (a b : Nat) : cmpQ ((a : Int) : Rat) ((b : Int) : Rat) = cmpN a b := by
 unfold cmpQ cmpN
 simp only [Rat.intCast_lt_intCast, Int.ofNat_lt]
theorem cmpQ_zero (x y : Rat) : cmpQ x y = 0 ↔ x = y := by
 unfold cmpQ
 constructor
 · intro h
   by_cases h1 : x < y
   · rw [if_pos h1] at h; omega
   · by_cases h2 : y < x
     · rw [if_neg h1, if_pos h2] at h; omega
     · exact Rat.le_antisymm (Rat.not_lt.1 h2) (Rat.not_lt.1 h1)
 · rintro rfl
   rw [if_neg Rat.lt_irrefl, if_neg Rat.lt_irrefl]
theorem p2_cast (k : Nat) : p2 (k : Int) = (((2 ^ k : Nat) : Int) : Rat) := by rw [p2_nat]; rfl
theorem cmp_two (a b : Nat) (i j : Int) : cmpQ (((a : Int) : Rat) * p2 i) (((b : Int) : Rat) * p2 j) = cmpN (a * 2 ^ (i - j).toNat) (b * 2 ^ (j - i).toNat) := by
 have key : ∀ (a : Nat) (i l : Int), l ≤ i → ((a : Int) : Rat) * p2 i = (((a * 2 ^ (i - l).toNat : Nat) : Int) : Rat) * p2 l := fun a i l h => by
  have e : i = ((i - l).toNat : Int) + l := by omega
  conv => lhs; rw [e]
  rw [p2_add, p2_cast, ← Rat.mul_assoc, ← Rat.intCast_mul]
  simp
 have h1 := key a i (min i j) (by omega)
 have h2 := key b j (min i j) (by omega)
 rw [h1, h2, cmpQ_scale, cmpQ_nat, show (i - min i j).toNat = (i - j).toNat by omega, show (j - min i j).toNat = (j - i).toNat by omega]
theorem cmp_one (a : Nat) (i j : Int) : cmpQ (((a : Int) : Rat) * p2 i) (p2 j) = cmpN (a * 2 ^ (i - j).toNat) (2 ^ (j - i).toNat) := by
 have h := cmp_two a 1 i j
 rw [show (((1 : Nat) : Int) : Rat) = 1 from rfl, Rat.one_mul, Nat.one_mul] at h
 exact h
end Go.Lb
