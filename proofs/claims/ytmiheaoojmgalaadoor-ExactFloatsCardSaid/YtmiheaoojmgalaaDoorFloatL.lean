/-
  Plain: what a float is worth, and the float of that: one and the same, but for noughts with a sign.
-/
import Derived.Test.YtmiheaoojmgalaaDoorWorth
import Derived.Test.YtmiheaoojmgalaaDoorVals
import Derived.Test.YtmiheaoojmgalaaDoorBitsL
namespace Go.Proofs.YtmiheaoojmgalaaDoor
open Go.RowKit Go.Lb

/-- What Value answers. -/
def valD (e f : Int) (b : Nat) : Ds := ⟨valS e f b, valN e f b, valX e f b, valE e f b⟩

theorem dyn_valued {e f : Int} {b : Nat} {w w' : World} {en : Ending} (h : Valued e f b w en w') : Dyn (valD e f b) w en w' := h

theorem valD_mk {e f b : Nat} (h : fitsE (e : Int) (f : Int) b = 0) (hx : exN e f b ≠ maskN e) : valD (e : Int) (f : Int) b = mkA (sgB e f b) (vN e f b) (vX e f b) := by
  obtain ⟨h1, h2, h3, h4⟩ := val_yes h hx
  unfold valD mkA
  rw [h1, h2, h3, h4]

theorem mask_bias {e : Nat} (h : 2 ≤ e) : maskN e = 2 * biasN e + 1 := by
  unfold maskN biasN
  have h1 : 2 ^ e = 2 * 2 ^ (e - 1) := by
    rw [show 2 * 2 ^ (e - 1) = 2 ^ (e - 1) * 2 by omega, ← Nat.pow_succ]
    congr 1
    omega
  have := Nat.two_pow_pos (e - 1)
  omega

theorem bias_small {e : Nat} (h : e ≤ 11) : biasN e ≤ 1023 := by
  unfold biasN
  have : 2 ^ (e - 1) ≤ 2 ^ 10 := Nat.pow_le_pow_right (by decide) (by omega)
  omega

/-- The least exponent. -/
def baseI (e f : Nat) : Int := 1 - (biasN e : Int) - f

theorem frN_eq (f b : Nat) : frN f b = b % pw f := by
  unfold frN takeN
  rw [pw_zero, Nat.div_one]

theorem frN_lt' (f b : Nat) : frN f b < pw f := by
  rw [frN_eq]
  exact Nat.mod_lt _ (pw_pos f)

theorem vN_top (e f b : Nat) : vN e f b < pw (f + 1) := by
  have := frN_lt' f b
  unfold vN
  rw [pw_succ]
  split <;> omega

theorem vX_low (e f b : Nat) : baseI e f ≤ vX e f b := by
  unfold vX baseI
  split <;> omega

theorem vX_high {e f b : Nat} (he : e ≤ 11) : vX e f b ≤ baseI e f + 2048 := by
  have h1 := exN_lt e f b
  have h2 := pw_le he
  have h3 : pw 11 = 2048 := by unfold pw; rfl
  unfold vX baseI
  split <;> omega

/-- The worth of a float in units of its least one. -/
def gN (e f b : Nat) : Nat := upW (vN e f b) (vX e f b) (baseI e f)

theorem gN_lt {e f b d : Nat} (he : e ≤ 11) (hd : d = 2048) : gN e f b < 2 ^ (f + 1 + d) := by
  have h1 := vN_top e f b
  have h2 := vX_high (f := f) (b := b) he
  unfold gN upW
  unfold pw at h1
  rw [Nat.pow_add]
  exact Nat.mul_lt_mul_of_lt_of_le h1 (Nat.pow_le_pow_right (by decide) (by omega)) (Nat.two_pow_pos _)

theorem valD_ok {e f b : Nat} (h : fitsE (e : Int) (f : Int) b = 0) (hx : exN e f b ≠ maskN e) (he : e ≤ 11) (hf : f ≤ 52) :
    (valD (e : Int) (f : Int) b).e = 0 ∧ Wo (valD (e : Int) (f : Int) b) (baseI e f) (sgI (sgB e f b) (gN e f b)) := by
  rw [valD_mk h hx]
  have hb := bias_small he
  have h1 : -1073741824 ≤ baseI e f := by unfold baseI; omega
  have h2 : baseI e f ≤ 1 := by unfold baseI; omega
  obtain ⟨d, hd⟩ : ∃ d, d = 2048 := ⟨_, rfl⟩
  have hg := gN_lt (f := f) (b := b) he hd
  obtain ⟨K, hK⟩ : ∃ K, K = f + 1 + d := ⟨_, rfl⟩
  rw [← hK] at hg
  obtain ⟨g1, g2⟩ := mkA_ok (s := sgB e f b) (vX_low e f b) hg (by omega) h1 (by omega)
  exact ⟨g2, mkA_worth g1 (fun _ => vX_low e f b) g2⟩

theorem lowN_limbs {m : Nat} (h : m < 18446744073709551616) : lowN (limbs m) = m := by
  have hl : (limbs m).length ≤ 2 := limbs_length_le (by omega)
  have hc : chk (limbs m) = 0 := chk_limbs (by omega)
  have hv := val_limbs' m
  unfold lowN
  have hB : lowB (limbs m) = true := decide_eq_true ⟨hc, hl⟩
  rw [if_pos hB]
  generalize limbs m = l at hl hv
  match l, hl with
  | [], _ => simpa [nth, val] using hv
  | [x], _ => simpa [nth, val] using hv
  | [x, y], _ => simpa [nth, val] using hv

theorem fields_join {e f b : Nat} (hp : b < pw (1 + e + f)) : joinN e f (sgB e f b) (exN e f b) (frN f b) = b := by
  have hf := frN_eq f b
  have hx : exN e f b = b / pw f % pw e := rfl
  have hs : takeN b (f + e) 1 = b / pw f / pw e % 2 := by
    unfold takeN
    rw [pw_add, Nat.div_div_eq_div_mul, show pw 1 = 2 by unfold pw; rfl]
  have d1 := Nat.div_add_mod b (pw f)
  have d2 := Nat.div_add_mod (b / pw f) (pw e)
  have hq : b / pw f / pw e < 2 := by
    rw [Nat.div_div_eq_div_mul, ← pw_add]
    refine Nat.div_lt_of_lt_mul ?_
    rw [show 1 + e + f = f + e + 1 by omega, pw_succ] at hp
    omega
  have hsg : sgB e f b = decide (b / pw f / pw e % 2 ≠ 0) := by unfold sgB; rw [hs]
  rw [hf, hx, hsg]
  unfold joinN putN
  rw [show e + f = f + e by omega, pw_add]
  rw [← d2, Nat.mul_add, ← Nat.mul_assoc] at d1
  rw [Nat.mul_comm (b / pw f % pw e) (pw f)]
  generalize b / pw f / pw e = q at *
  generalize b / pw f % pw e = x at *
  generalize b % pw f = y at *
  generalize hP : pw f * pw e = P at *
  have hq2 : q = 0 ∨ q = 1 := by omega
  rcases hq2 with rfl | rfl
  · simp
    omega
  · simp
    omega

theorem vN_zero {e f b : Nat} : vN e f b = 0 ↔ b % pw (f + e) = 0 := by
  have hx : exN e f b = b / pw f % pw e := rfl
  have hf := frN_eq f b
  have hm : b % pw (f + e) = b % pw f + pw f * (b / pw f % pw e) := by
    rw [pw_add]
    exact Nat.mod_mul
  have hp := pw_pos f
  unfold vN
  rw [hm, hx, hf]
  generalize b % pw f = y
  generalize b / pw f % pw e = x
  generalize pw f = P at *
  by_cases h : x = 0
  · rw [if_pos h, h]
    omega
  · rw [if_neg h]
    have := Nat.mul_le_mul_left P (show 1 ≤ x by omega)
    omega

theorem pow_pw (k : Nat) : 2 ^ k = pw k := by unfold pw; rfl

/-- The float of a float's worth. -/
theorem bits_value {e f b : Nat} (h : formE (e : Int) (f : Int) = 0) (hp : b < pw (1 + e + f)) (hx : exN e f b ≠ maskN e) (D : Ds) (hD : D = valD (e : Int) (f : Int) b) :
    bitsE (e : Int) (f : Int) D.s (limbs D.N) D.x = 0 ∧ bitsIs (e : Int) (f : Int) D.s (limbs D.N) D.x = true ∧ bitsV (e : Int) (f : Int) D.s (limbs D.N) D.x = if vN e f b = 0 then 0 else b := by
  obtain ⟨a1, a2, a3, a4⟩ := formE_ok h
  have ha2 : e ≤ 11 := by omega
  have ha4 : f ≤ 52 := by omega
  have hfit : fitsE (e : Int) (f : Int) b = 0 := by
    unfold fitsE
    rw [if_neg (by simp [h]), if_pos (by simpa using hp)]
  obtain ⟨w1, w2⟩ := valD_ok hfit hx ha2 ha4
  rw [← hD] at w1 w2
  have hc := w2.dy.chk
  have hmk := valD_mk hfit hx
  rw [← hD] at hmk
  refine ⟨by unfold bitsE; rw [if_neg (by simp [h]), hc], ?_⟩
  unfold bitsIs bitsV
  rw [if_neg (by simp [h, hc])]
  by_cases h0 : vN e f b = 0
  · rw [h0, mkA_zero] at hmk
    have hN : D.N = 0 := by rw [hmk]; rfl
    rw [hN, if_pos (len_zero.2 rfl), if_pos h0, if_pos (.inr (.inr (len_zero.2 rfl)))]
    exact ⟨rfl, rfl⟩
  · have hB : mkB (limbs (vN e f b)) (vX e f b) = true := by
      cases hh : mkB (limbs (vN e f b)) (vX e f b)
      · exfalso
        have hl : (limbs (vN e f b)).length ≤ 16384 := by
          have := vN_top e f b
          unfold pw at this
          exact len_pow this (by omega)
        have := mk_many (chk_limbs hl) (by rw [val_limbs']; exact h0) hh
        rw [hmk] at w1
        change mkE (limbs (vN e f b)) (vX e f b) = 0 at w1
        rw [this] at w1
        cases w1
      · rfl
    obtain ⟨m1, m2, m3, m4⟩ := mk_yes (sgB e f b) hB
    rw [val_limbs'] at m1 m2
    have hN : D.N = vN e f b / 2 ^ tz (vN e f b) := by rw [hmk]; exact m1
    have hX : D.x = vX e f b + tz (vN e f b) := by rw [hmk]; exact m2
    have hS : D.s = sgB e f b := by rw [hmk]; exact m3
    have hpt := tz_part h0
    have hod := tz_odd h0
    rw [← hN] at hpt hod
    have hn0 : D.N ≠ 0 := by intro hh; rw [hh] at hod; cases hod
    rw [if_neg (fun hh => hn0 (len_zero.1 hh)), if_neg h0, if_neg (fun hh => hh.elim (fun g => g h) (fun g => g.elim (fun g => g hc) (fun g => hn0 (len_zero.1 g))))]
    have hlt := vN_top e f b
    obtain ⟨s1, s2, s3⟩ := sz_bounds' w2.dy.len hn0
    have hm64 : D.N < 18446744073709551616 := by
      have hle : D.N ≤ vN e f b := by rw [hN]; exact Nat.div_le_self _ _
      have h53 : pw (f + 1) ≤ pw 53 := pw_le (by omega)
      have : pw 53 = 9007199254740992 := by unfold pw; rfl
      omega
    rw [lowN_limbs hm64, hS, hX]
    rw [show (e : Int).toNat = e from rfl, show (f : Int).toNat = f from rfl]
    have hjoin := fields_join hp
    have hfr := frN_lt' f b
    have hmb := mask_bias (e := e) (by omega)
    have hex := exN_lt e f b
    have hpe : pw e = maskN e + 1 := by
      unfold pw maskN
      have := Nat.two_pow_pos e
      omega
    generalize D.N = m at *
    generalize szN (limbs m) = s at *
    generalize hk : tz (vN e f b) = k at *
    have lo : pw (s - 1 + k) ≤ vN e f b := by
      rw [← hpt, pow_pw, pw_add]
      exact Nat.mul_le_mul_right _ (by rw [← pow_pw]; exact s2)
    have up : vN e f b < pw (s + k) := by
      rw [← hpt, pow_pw, pw_add]
      exact Nat.mul_lt_mul_of_pos_right (by rw [← pow_pw]; exact s3) (pw_pos k)
    have pl : ∀ {i j : Nat}, pw i < pw j → i < j := fun {i j} hh => Classical.byContradiction fun hn => by
      have := pw_le (show j ≤ i by omega)
      omega
    unfold bitsP
    by_cases hx0 : exN e f b = 0
    · have hv : vN e f b = frN f b := by unfold vN; rw [if_pos hx0]
      have hX' : vX e f b = 1 - (biasN e : Int) - f := by unfold vX; rw [if_pos hx0]
      have hsk : s - 1 + k < f := pl (by omega)
      rw [hX', if_neg (by omega), if_neg (by omega), if_neg (by omega)]
      refine ⟨rfl, ?_⟩
      simp only
      rw [show (1 - (biasN e : Int) - f + k - (1 - (biasN e : Int) - f)).toNat = k by omega, ← pow_pw, hpt, hv]
      rw [hx0] at hjoin
      exact hjoin
    · have hv : vN e f b = pw f + frN f b := by unfold vN; rw [if_neg hx0]
      have hX' : vX e f b = (exN e f b : Int) - (biasN e : Int) - f := by unfold vX; rw [if_neg hx0]
      have hsk1 : s - 1 + k < f + 1 := pl (by omega)
      have hsk2 : f < s + k := pl (by omega)
      rw [hX', if_neg (by omega), if_pos (by omega), if_neg (by omega)]
      refine ⟨rfl, ?_⟩
      simp only
      rw [show ((exN e f b : Int) - (biasN e : Int) - f + k + s - 1 + biasN e).toNat = exN e f b by omega, show f + 1 - s = k by omega, ← pow_pw k, hpt, hv, Nat.add_sub_cancel_left]
      exact hjoin

/-- Two floats are worth the same just if they are the same, or both nought. -/
theorem worth_same {e f a b : Nat} (h : formE (e : Int) (f : Int) = 0) (hp : a < pw (1 + e + f)) (hq : b < pw (1 + e + f)) (hx : exN e f a ≠ maskN e) (hy : exN e f b ≠ maskN e) :
    sgI (sgB e f a) (gN e f a) = sgI (sgB e f b) (gN e f b) ↔ a = b ∨ vN e f a = 0 ∧ vN e f b = 0 := by
  obtain ⟨a1, a2, a3, a4⟩ := formE_ok h
  have hz : ∀ {c : Nat}, vN e f c = 0 → gN e f c = 0 := fun {c} hh => by unfold gN; rw [hh, upW_zero]
  constructor
  · intro hs
    have f1 : fitsE (e : Int) (f : Int) a = 0 := by unfold fitsE; rw [if_neg (by simp [h]), if_pos (by simpa using hp)]
    have f2 : fitsE (e : Int) (f : Int) b = 0 := by unfold fitsE; rw [if_neg (by simp [h]), if_pos (by simpa using hq)]
    obtain ⟨u1, u2⟩ := valD_ok f1 hx (by omega) (by omega)
    obtain ⟨v1, v2⟩ := valD_ok f2 hy (by omega) (by omega)
    rw [← hs] at v2
    obtain ⟨o1, o2, o3⟩ := u2.one v2
    obtain ⟨_, _, b1⟩ := bits_value h hp hx _ rfl
    obtain ⟨_, _, b2⟩ := bits_value h hq hy _ rfl
    rw [o1, o2, o3, b2] at b1
    by_cases h1 : vN e f a = 0
    · right
      refine ⟨h1, Classical.byContradiction fun h2 => ?_⟩
      have hg := hz h1
      rw [hg] at hs
      have hp2 : 0 < gN e f b := upW_pos h2
      have hs' : sgI (sgB e f b) (gN e f b) = 0 := by rw [← hs]; exact sgI_zero.2 rfl
      have := sgI_zero.1 hs'
      omega
    · by_cases h2 : vN e f b = 0
      · exfalso
        have hg := hz h2
        rw [hg] at hs
        have hp2 : 0 < gN e f a := upW_pos h1
        have hs' : sgI (sgB e f a) (gN e f a) = 0 := by rw [hs]; exact sgI_zero.2 rfl
        have := sgI_zero.1 hs'
        omega
      · rw [if_neg h1, if_neg h2] at b1
        exact .inl b1.symm
  · rintro (rfl | ⟨h1, h2⟩)
    · rfl
    · rw [hz h1, hz h2, sgI_zero.2 rfl, sgI_zero.2 rfl]

end Go.Proofs.YtmiheaoojmgalaaDoor
