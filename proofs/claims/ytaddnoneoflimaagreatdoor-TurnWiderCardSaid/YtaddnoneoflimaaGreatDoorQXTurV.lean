/-
  Plain: a float in a wider form: its worth is kept, no flag is raised, and it comes back. No program in sight.
-/
import Derived.Test.YtaddnoneoflimaaGreatDoorQTwBase
namespace Go.Proofs.YtaddnoneoflimaaGreatDoor

open Go.RowKit Go.Lb

theorem bs_mono {E G : Nat} (h : E ≤ G) : bsN E ≤ bsN G := by
  have h1 : 2 ^ (E - 1) ≤ 2 ^ (G - 1) := Nat.pow_le_pow_right (by decide) (by omega)
  unfold bsN
  omega

/-- The same worth, in the wider form. -/
theorem wide_flt {E F G H e r M : Nat} {X : Int} (h : Flt E F e r M X) (h0 : M ≠ 0) (hE : 2 ≤ E) (hG : E ≤ G) (hH : F ≤ H) : ∃ e' r' j : Nat, Flt G H e' r' (M * 2 ^ j) (X - j) := by
  have hr := h.hr
  have he := h.he
  have hm := h.hm
  have hx := h.hx
  have hb := bs_mono hG
  have hb1 : 1 ≤ bsN E := bs_mono (E := 2) hE
  obtain ⟨k, k1, k2⟩ : ∃ k, 2 ^ k ≤ M ∧ M < 2 ^ (k + 1) := ⟨M.log2, Nat.log2_self_le h0, Nat.lt_log2_self⟩
  have hkF : k ≤ F := by
    have h1 : M < 2 ^ (F + 1) := by
      rw [Nat.pow_succ]
      split at hm <;> omega
    have h2 := (Nat.pow_lt_pow_iff_right (a := 2) (by decide)).1 (Nat.lt_of_le_of_lt k1 h1)
    omega
  by_cases hg : 1 - (bsN G : Int) ≤ X + k
  · have q1 : 2 ^ H ≤ M * 2 ^ (H - k) := by
      have := Nat.mul_le_mul_right (2 ^ (H - k)) k1
      rw [← Nat.pow_add, show k + (H - k) = H by omega] at this
      exact this
    have q2 : M * 2 ^ (H - k) < 2 * 2 ^ H := by
      have := Nat.mul_lt_mul_of_pos_right k2 (Nat.two_pow_pos (H - k))
      rw [← Nat.pow_add, show k + 1 + (H - k) = H + 1 by omega, Nat.pow_succ] at this
      omega
    refine ⟨(X + k + bsN G).toNat, M * 2 ^ (H - k) - 2 ^ H, H - k, ⟨by omega, ?_, ?_, ?_⟩⟩
    · split at hx <;> omega
    · rw [if_neg (by omega)]
      omega
    · rw [if_neg (by omega)]
      omega
  · have hX : 1 - (bsN G : Int) - H ≤ X := by split at hx <;> omega
    refine ⟨0, M * 2 ^ (X - (1 - (bsN G : Int) - H)).toNat, (X - (1 - (bsN G : Int) - H)).toNat, ⟨?_, by omega, by rw [if_pos rfl], by rw [if_pos rfl]; omega⟩⟩
    have q := Nat.mul_lt_mul_of_pos_right k2 (Nat.two_pow_pos (X - (1 - (bsN G : Int) - H)).toNat)
    rw [← Nat.pow_add] at q
    exact Nat.lt_of_lt_of_le q (Nat.pow_le_pow_right (by decide) (by omega))

theorem sgZ_shift (s : Bool) (M j : Nat) (X : Int) : ((sgZ s (M * 2 ^ j) : Int) : Rat) * p2 (X - j) = ((sgZ s M : Int) : Rat) * p2 X := by
  have e : sgZ s (M * 2 ^ j) = sgZ s M * ((2 ^ j : Nat) : Int) := by
    unfold sgZ
    cases s
    · simp
    · simp [Int.neg_mul]
  rw [e, Rat.intCast_mul, Rat.mul_assoc, ← p2_cast, ← p2_add, show (j : Int) + (X - j) = X by omega]

theorem below_of (s : Bool) (M : Nat) (X : Int) : decide ((((sgZ s M : Int) : Rat) * p2 X).num < 0) = if M = 0 then false else s := by
  rw [← sgQ_up]
  have h := mk_sign s (upN M X) (upD_pos X)
  have e : sgQ' s (upN M X) (upD X) = mkRat (sgv s (upN M X)) (upD X) := rfl
  rw [e, h]
  by_cases h0 : M = 0
  · rw [if_pos h0]
    have : upN M X = 0 := by unfold upN; rw [h0, Nat.zero_mul]
    rw [this]
    have e0 : sgv s 0 = 0 := by cases s <;> rfl
    rw [e0, Rat.zero_mkRat]
    unfold nzB
    simp
  · rw [if_neg h0]
    have hne : (mkRat (sgv s (upN M X)) (upD X)).num.natAbs ≠ 0 := by
      intro hz
      have hz2 : (mkRat (sgv s (upN M X)) (upD X)).num = 0 := Int.natAbs_eq_zero.1 hz
      have hz3 := Rat.num_eq_zero.1 hz2
      have hz4 := (Rat.mkRat_eq_zero (upD_pos X)).1 hz3
      have := upN_ne h0 X
      unfold sgv at hz4
      split at hz4 <;> omega
    unfold nzB
    rw [decide_eq_true hne, Bool.and_true]

theorem cross_of (s : Bool) (M : Nat) (X : Int) : (((sgZ s M : Int) : Rat) * p2 X).num.natAbs * upD X = upN M X * (((sgZ s M : Int) : Rat) * p2 X).den := by
  rw [← sgQ_up]
  have h := mk_cross (sgv s (upN M X)) (upD_pos X)
  have e : sgQ' s (upN M X) (upD X) = mkRat (sgv s (upN M X)) (upD X) := rfl
  rw [e, h]
  congr 1
  unfold sgv
  split <;> omega

/-- A finite float in a wider form. -/
theorem wide_bits {E F G H b : Nat} (hf : formE (E : Int) (F : Int) = 0) (hg : formE (G : Int) (H : Int) = 0) (hG : E ≤ G) (hH : F ≤ H) (hp : b < pw (1 + E + F)) (hx : exN E F b ≠ maskN E) :
    ∃ a, a < pw (1 + G + H) ∧ exN G H a ≠ maskN G ∧ sgB G H a = sgB E F b ∧ wrQ G H a = wrQ E F b ∧
      ∀ m, sgBits G H (wrQ E F b).num.natAbs (wrQ E F b).den (decide ((wrQ E F b).num < 0)) (sgB E F b) m = a ∧ sgFlags G H (wrQ E F b).num.natAbs (wrQ E F b).den (decide ((wrQ E F b).num < 0)) m = 0 := by
  obtain ⟨f1, f2, f3, f4⟩ := formE_ok hf
  obtain ⟨g1, g2, g3, g4⟩ := formE_ok hg
  have hfl := flt_of (F := F) (by omega : 2 ≤ E) hx
  have hw := worth_rat (M := vN E F b) (l := vX E F b + F) (s := sgB E F b) (by omega) (by omega) (by omega) (fits_bits hf hp) hx rfl (.inl ⟨rfl, by omega⟩)
  rw [show vX E F b + (F : Int) - F = vX E F b by omega] at hw
  generalize vN E F b = M at *
  generalize vX E F b = X at *
  generalize sgB E F b = s at *
  -- the same worth in the wider form
  obtain ⟨e', r', M', X', h', hq, hz⟩ : ∃ (e' r' M' : Nat) (X' : Int), Flt G H e' r' M' X' ∧ wrQ E F b = ((sgZ s M' : Int) : Rat) * p2 X' ∧ (M' = 0 → e' = 0 ∧ r' = 0) := by
    by_cases h0 : M = 0
    · refine ⟨0, 0, 0, 1 - (bsN G : Int) - H, ⟨Nat.two_pow_pos H, by omega, by rw [if_pos rfl], by rw [if_pos rfl]⟩, ?_, fun _ => ⟨rfl, rfl⟩⟩
      have e0 : sgZ s 0 = 0 := by cases s <;> rfl
      rw [hw, h0, e0, Rat.intCast_zero, Rat.zero_mul, Rat.zero_mul]
    · obtain ⟨e', r', j, h⟩ := wide_flt (G := G) (H := H) hfl h0 (by omega) hG hH
      exact ⟨e', r', _, _, h, by rw [hw, sgZ_shift], fun hh => absurd hh (Nat.mul_ne_zero h0 (Nat.ne_of_gt (Nat.two_pow_pos j)))⟩
  have hr := h'.hr
  have he := h'.he
  have hm := h'.hm
  have hX := h'.hx
  have hinf := inf_eq (by omega : 2 ≤ G) H
  have hPH := Nat.two_pow_pos H
  have hbG : 1 ≤ bsN G := bs_mono (E := 2) (by omega)
  have hlt : e' * 2 ^ H + r' < infN G H := by
    have h3 : (e' + 1) * 2 ^ H ≤ (2 * bsN G + 1) * 2 ^ H := Nat.mul_le_mul_right _ (by omega)
    rw [Nat.add_mul, Nat.one_mul] at h3
    omega
  obtain ⟨u1, u2, u3, u4⟩ := unit_bits (E := G) (F := H) (M := M') (c := e' * 2 ^ H + r') (b := if s = true then e' * 2 ^ H + r' + 2 ^ (G + H) else e' * 2 ^ H + r') (l := X' + H) (s := s) (by omega)
    (by split at hX <;> omega) (by rw [Nat.pow_succ]; split at hm <;> omega)
    (by
      by_cases h1 : e' = 0
      · rw [if_pos h1] at hX; right; omega
      · rw [if_neg h1] at hm; left; omega)
    (by
      by_cases h1 : e' = 0
      · rw [if_pos h1] at hm hX
        rw [h1, show (X' + (H : Int) + bsN G - 1).toNat = 0 by omega]
        omega
      · rw [if_neg h1] at hm hX
        rw [show (X' + (H : Int) + bsN G - 1).toNat = e' - 1 by omega]
        obtain ⟨d, rfl⟩ : ∃ d, e' = d + 1 := ⟨e' - 1, by omega⟩
        rw [Nat.add_sub_cancel, Nat.add_mul, Nat.one_mul]
        omega)
    hlt rfl
  refine ⟨_, u1, u2, u3, ?_, fun m => ?_⟩
  · rw [worth_rat (E := G) (F := H) (by omega) (by omega) (by omega) (fits_bits hg u1) u2 u3 u4, hq, show X' + (H : Int) - H = X' by omega]
  · have hD : (wrQ E F b).den ≠ 0 := (wrQ E F b).den_nz
    have hb2 := below_of s M' X'
    have hcr := cross_of s M' X'
    rw [← hq] at hb2 hcr
    obtain ⟨t1, t2⟩ := h'.round (by omega) hD hcr s s m (fun _ => rfl)
    rw [hb2, t1, t2]
    refine ⟨?_, rfl⟩
    split <;> rfl

theorem odd_le {z z' : Int} {X Y : Int} (h : ((z : Int) : Rat) * p2 X = ((z' : Int) : Rat) * p2 Y) (hz : z % 2 = 1) (hl : X ≤ Y) : z = z' ∧ X = Y := by
  obtain ⟨k, rfl⟩ : ∃ k : Nat, Y = X + k := ⟨(Y - X).toNat, by omega⟩
  have h2 := (scale_iff _ _ _).1 h
  rw [Rat.mul_assoc, ← p2_add, show X + (k : Int) + -X = (k : Int) by omega, p2_cast, ← Rat.intCast_mul, Rat.intCast_inj] at h2
  rcases Nat.eq_zero_or_pos k with rfl | hk
  · rw [Nat.pow_zero] at h2
    exact ⟨by omega, by omega⟩
  · obtain ⟨d, rfl⟩ : ∃ d, k = d + 1 := ⟨k - 1, by omega⟩
    rw [Nat.pow_succ, Int.natCast_mul, ← Int.mul_assoc] at h2
    omega

theorem odd_same {z z' : Int} {X Y : Int} (h : ((z : Int) : Rat) * p2 X = ((z' : Int) : Rat) * p2 Y) (hz : z % 2 = 1) (hz' : z' % 2 = 1) : z = z' ∧ X = Y := by
  rcases Int.le_total X Y with hl | hl
  · exact odd_le h hz hl
  · obtain ⟨a, b⟩ := odd_le h.symm hz' hl
    exact ⟨a.symm, b.symm⟩

theorem sg_odd {s : Bool} {n : Nat} (h : n % 2 = 1) : sgZ s n % 2 = 1 := by
  unfold sgZ
  split <;> omega

theorem sgz_same {s t : Bool} {n n' : Nat} (h : sgZ s n = sgZ t n') (hn : n ≠ 0) : s = t ∧ n = n' := by
  unfold sgZ at h
  cases s <;> cases t <;> simp at h <;> first | exact ⟨rfl, by omega⟩ | omega

theorem sgZ_nil (s : Bool) : sgZ s 0 = 0 := by cases s <;> rfl

theorem odd_nil {s : Bool} {n : Nat} {X : Int} (h : n % 2 = 1) : ((sgZ s n : Int) : Rat) * p2 X ≠ 0 := by
  intro h0
  rcases Rat.mul_eq_zero.1 h0 with h1 | h1
  · rw [← Rat.intCast_zero, Rat.intCast_inj] at h1
    have := sg_odd (s := s) h
    omega
  · exact p2_ne X h1

/-- Floats of one worth have one value. -/
theorem same_worth {E F G H a b : Nat} (hf : formE (E : Int) (F : Int) = 0) (hg : formE (G : Int) (H : Int) = 0) (hp : b < pw (1 + E + F)) (hq : a < pw (1 + G + H)) (hx : exN E F b ≠ maskN E) (hy : exN G H a ≠ maskN G) (hw : wrQ G H a = wrQ E F b) :
    valE (E : Int) (F : Int) b = 0 ∧ valE (G : Int) (H : Int) a = 0 ∧ valS (G : Int) (H : Int) a = valS (E : Int) (F : Int) b ∧ valN (G : Int) (H : Int) a = valN (E : Int) (F : Int) b ∧ valX (G : Int) (H : Int) a = valX (E : Int) (F : Int) b := by
  obtain ⟨f1, f2, f3, f4⟩ := formE_ok hf
  obtain ⟨g1, g2, g3, g4⟩ := formE_ok hg
  obtain ⟨e1, c1⟩ := val_facts (E := E) (F := F) (by omega) (by omega) (by omega) (fits_bits hf hp) hx
  obtain ⟨e2, c2⟩ := val_facts (E := G) (F := H) (by omega) (by omega) (by omega) (fits_bits hg hq) hy
  refine ⟨e1, e2, ?_⟩
  unfold wrQ at hw
  rw [sgQ_up, sgQ_up] at hw
  rcases c1 with ⟨_, v1, v2, v3⟩ | ⟨_, t, n, _, hn, v1, v2, v3, _⟩
  · rw [v1, v2, v3, sgZ_nil, Rat.intCast_zero, Rat.zero_mul] at hw
    rw [v1, v2, v3]
    rcases c2 with ⟨_, u1, u2, u3⟩ | ⟨_, t', n', _, hn', u1, u2, u3, _⟩
    · exact ⟨u3, u1, u2⟩
    · rw [u1, u2, u3] at hw
      exact absurd hw (odd_nil hn')
  · rw [v1, v2, v3] at hw
    rw [v1, v2, v3]
    rcases c2 with ⟨_, u1, u2, u3⟩ | ⟨_, t', n', _, hn', u1, u2, u3, _⟩
    · rw [u1, u2, u3, sgZ_nil, Rat.intCast_zero, Rat.zero_mul] at hw
      exact absurd hw.symm (odd_nil hn)
    · rw [u1, u2, u3] at hw
      rw [u1, u2, u3]
      obtain ⟨h1, h2⟩ := odd_same hw (sg_odd hn') (sg_odd hn)
      obtain ⟨h3, h4⟩ := sgz_same h1 (by omega)
      exact ⟨h3, h4, h2⟩

theorem cmpA_self (s : Bool) (xs : List Nat) (x : Int) : cmpA s xs x s xs x = 0 := by
  unfold cmpA
  split
  · rfl
  · rw [if_neg (by omega), if_neg (by omega)]
    split
    · rfl
    · unfold bgA
      rw [if_neg (by omega), if_neg (by omega)]
      unfold cmpN
      rw [if_neg (by omega), if_neg (by omega)]
      omega

theorem inf_parts {G H : Nat} (s : Bool) (hg : formE (G : Int) (H : Int) = 0) : joinN G H s (maskN G) 0 < pw (1 + G + H) ∧ enB G H (joinN G H s (maskN G) 0) = true ∧ naB G H (joinN G H s (maskN G) 0) = false ∧ sgB G H (joinN G H s (maskN G) 0) = s := by
  obtain ⟨g1, g2, g3, g4⟩ := formE_ok hg
  obtain ⟨j1, j2, _, _⟩ := join_inf (G := G) (H := H) (by omega) (by omega) (by omega)
  have hinf := inf_eq (by omega : 2 ≤ G) H
  have hF := Nat.two_pow_pos H
  have hlt : infN G H < 2 ^ (G + H) := by
    unfold infN
    have : 2 ^ H ≤ 2 ^ (G + H) := Nat.pow_le_pow_right (by decide) (by omega)
    omega
  have hpw : pw (1 + G + H) = 2 * 2 ^ (G + H) := by rw [pw_is, show 1 + G + H = G + H + 1 by omega, Nat.pow_succ]; omega
  have hj : joinN G H s (maskN G) 0 = if s = true then infN G H + 2 ^ (G + H) else infN G H := by
    cases s
    · exact j1
    · rw [j2, Nat.add_comm]; rfl
  have hbl : joinN G H s (maskN G) 0 < pw (1 + G + H) := by rw [hpw, hj]; split <;> omega
  have hx := inf_mask (by omega : 2 ≤ G) hj
  obtain ⟨p1, p2⟩ := bits_parts hbl
  have hsg : sgB G H (joinN G H s (maskN G) 0) = s := by
    rw [p2]
    cases s
    · exact decide_eq_false (by rw [hj]; simp only [Bool.false_eq_true, if_false]; omega)
    · exact decide_eq_true (by rw [hj]; simp only [if_true]; omega)
  have hfr : frN H (joinN G H s (maskN G) 0) = 0 := by
    rw [hsg, hx, ← inf_mask_mul] at p1
    cases s
    · simp only [Bool.false_eq_true, if_false] at hj p1
      omega
    · simp only [if_true] at hj p1
      omega
  exact ⟨hbl, decide_eq_true ⟨hx, hfr⟩, decide_eq_false (fun h => h.2 hfr), hsg⟩

/-- What To answers of a float that is a number, into a wider form and back. -/
theorem wide_to {E F G H b m k : Nat} (hf : formE (E : Int) (F : Int) = 0) (hg : formE (G : Int) (H : Int) = 0) (hG : E ≤ G) (hH : F ≤ H) (hp : b < pw (1 + E + F)) (hn : naB E F b = false) (hm : m < 5) (hk : k < 5) :
    ∃ a, toB E F G H b m = a ∧ toG E F G H b m = 0 ∧ a < pw (1 + G + H) ∧ toB G H E F a k = b ∧ toG G H E F a k = 0 ∧ (enB E F b = false → exN E F b ≠ maskN E ∧ exN G H a ≠ maskN G ∧ wrQ G H a = wrQ E F b) := by
  obtain ⟨f1, f2, f3, f4⟩ := formE_ok hf
  obtain ⟨g1, g2, g3, g4⟩ := formE_ok hg
  unfold toB toG
  rw [hn]
  by_cases hx : exN E F b = maskN E
  · have hf0 : frN F b = 0 := by
      rcases Nat.eq_zero_or_pos (frN F b) with h | h
      · exact h
      · have : naB E F b = true := decide_eq_true ⟨hx, by omega⟩
        rw [hn] at this
        cases this
    have he : enB E F b = true := decide_eq_true ⟨hx, hf0⟩
    obtain ⟨i1, i2, i3, i4⟩ := inf_parts (G := G) (H := H) (sgB E F b) hg
    refine ⟨_, rfl, ?_, ?_, ?_, ?_, fun h => by rw [he] at h; cases h⟩
    · rw [he]; rfl
    · rw [he]; exact i1
    · simp only [he, Bool.false_eq_true, if_false, if_true, i2, i3, i4]
      obtain ⟨p1, _⟩ := bits_parts hp
      obtain ⟨j1, j2, _, _⟩ := join_inf (G := E) (H := F) (by omega) (by omega) (by omega)
      rw [hx, hf0, ← inf_mask_mul] at p1
      cases hs : sgB E F b
      · rw [hs] at p1
        rw [j1]
        simpa using p1
      · rw [hs] at p1
        rw [j2]
        simp at p1
        omega
    · simp only [he, Bool.false_eq_true, if_false, if_true, i2, i3]
  · have he : enB E F b = false := decide_eq_false (fun h => hx h.1)
    obtain ⟨a, a1, a2, a3, a4, a5⟩ := wide_bits hf hg hG hH hp hx
    obtain ⟨b1, b2⟩ := a5 m
    obtain ⟨_, d1, d2, _⟩ := dy_worth (E := E) (F := F) (G := G) (H := H) (m := m) (by omega) (by omega) (by omega) hg (fits_bits hf hp) hp hx hm (sgB E F b)
    obtain ⟨_, c1, c2, _⟩ := dy_worth (E := G) (F := H) (G := E) (H := F) (m := k) (by omega) (by omega) (by omega) hf (fits_bits hg a1) a1 a2 hk (sgB G H a)
    obtain ⟨_, n, X, s, v1, v2, v3, _, _, _, _, hgcd, hs0, hback⟩ := worth_facts (E := E) (F := F) (m := k) (by omega) (by omega) (by omega) (fits_bits hf hp) hp hx
    have hna : naB G H a = false := decide_eq_false (fun h => a2 h.1)
    have hea : enB G H a = false := decide_eq_false (fun h => a2 h.1)
    refine ⟨a, ?_, ?_, a1, ?_, ?_, fun _ => ⟨hx, a2, a4⟩⟩
    · simp only [he, Bool.false_eq_true, if_false]
      rw [d1, b1]
    · simp only [he, Bool.false_eq_true, if_false]
      rw [d2, b2]
    · simp only [hna, hea, Bool.false_eq_true, if_false]
      rw [c1, a4, a3, (bits_parts hp).2]
      obtain ⟨q1, q2, q3⟩ := mk_low (s := s) (upD_pos X) hgcd hs0
      have e : wrQ E F b = sgQ' s (upN n X) (upD X) := by unfold wrQ; rw [v1, v2, v3]
      rw [e, q1, q2, q3]
      exact (hback _ _ (upD_pos X) rfl).1
    · simp only [hna, hea, Bool.false_eq_true, if_false]
      rw [c2, a4]
      obtain ⟨q1, q2, q3⟩ := mk_low (s := s) (upD_pos X) hgcd hs0
      have e : wrQ E F b = sgQ' s (upN n X) (upD X) := by unfold wrQ; rw [v1, v2, v3]
      rw [e, q1, q2, q3]
      exact (hback _ _ (upD_pos X) rfl).2

end Go.Proofs.YtaddnoneoflimaaGreatDoor

