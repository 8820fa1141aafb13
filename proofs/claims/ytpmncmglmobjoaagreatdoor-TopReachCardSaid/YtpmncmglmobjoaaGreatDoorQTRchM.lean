/-
  Plain: a fraction is rounded to a float, without an overflow, just if it lies in the float's reach. No program in sight.
-/
import Derived.Test.YtpmncmglmobjoaaGreatDoorQTRchL
namespace Go.Proofs.YtpmncmglmobjoaaGreatDoor
open Go.RowKit Go.Lb
theorem wo_upW {D : Ds} {b v : Int} (h : Wo D b v) (hs : D.s = false) : (upW D.N D.x b : Int) = v := by
 have := h.wo
 rw [hs] at this
 exact this
theorem upW_half {N : Nat} {x b : Int} (h : N ≠ 0 → b ≤ x) : upW N x (b - 1) = 2 * upW N x b := by
 unfold upW
 by_cases h0 : N = 0
 · rw [h0, Nat.zero_mul, Nat.zero_mul]
 · have := h h0
   rw [show (x - (b - 1)).toNat = (x - b).toNat + 1 by omega, Nat.pow_succ, Nat.mul_comm _ 2, Nat.mul_left_comm]
theorem me_half {P Q : Ds} {b : Int} {K u v : Nat} (h1 : Dy P.s P.N P.x) (h2 : Dy Q.s Q.N Q.x) (s1 : P.s = false) (s2 : Q.s = false) (g1 : Bd P.N P.x b K) (g2 : Bd Q.N Q.x b K) (hK : K ≤ 100000) (hb1 : -100000 ≤ b) (hb2 : b ≤ 100000)
 (hu : upW P.N P.x b = u) (hv : upW Q.N Q.x b = v) (hs : (meA P Q).s = false) : upW (meA P Q).N (meA P Q).x (b - 1) = u + v := by
 obtain ⟨e0, x1, x2, e1, d1, k1⟩ := me_bd h1 h2 g1 g2 hK hb1 hb2
 have hw := addA_worth h1 h2 g1.low g2.low e0
 have hm := mkA_worth (s := (addA P.s (limbs P.N) P.x Q.s (limbs Q.N) Q.x).s) (S := (addA P.s (limbs P.N) P.x Q.s (limbs Q.N) Q.x).N) (x := (addA P.s (limbs P.N) P.x Q.s (limbs Q.N) Q.x).x - 1) (b := b - 1) hw.dy.len (fun h => by have := hw.low h; omega) e1
 have hh := wo_upW (D := meA P Q) hm hs
 have he : wI (addA P.s (limbs P.N) P.x Q.s (limbs Q.N) Q.x).s (addA P.s (limbs P.N) P.x Q.s (limbs Q.N) Q.x).N ((addA P.s (limbs P.N) P.x Q.s (limbs Q.N) Q.x).x - 1) (b - 1) = wI (addA P.s (limbs P.N) P.x Q.s (limbs Q.N) Q.x).s (addA P.s (limbs P.N) P.x Q.s (limbs Q.N) Q.x).N (addA P.s (limbs P.N) P.x Q.s (limbs Q.N) Q.x).x b := by
  unfold wI upW
  congr 4
  omega
 rw [he, hw.wo, s1, s2] at hh
 have e2 : wI false P.N P.x b = (u : Int) := by rw [← hu]; rfl
 have e3 : wI false Q.N Q.x b = (v : Int) := by rw [← hv]; rfl
 rw [e2, e3] at hh
 omega
theorem reach_units {E F m : Nat} (hf : formE (E : Int) (F : Int) = 0) (hm : m < ifN E F) :
 upW (valD (E : Int) (F : Int) m).N (valD (E : Int) (F : Int) m).x (baseI E F) = gN E F m ∧ upW (bfD E F m).N (bfD E F m).x (baseI E F) = gN E F (m - 1) ∧ upW (faD E F m).N (faD E F m).x (baseI E F) = gN E F (m + 1) := by
 obtain ⟨q1, q2, q3, q4⟩ := formE_ok hf
 have hi := (if_lt hf).2
 have hmp : m < pw (E + F) := by omega
 have val : ∀ a, a < ifN E F → upW (valD (E : Int) (F : Int) a).N (valD (E : Int) (F : Int) a).x (baseI E F) = gN E F a ∧ (valD (E : Int) (F : Int) a).s = false ∧ Wo (valD (E : Int) (F : Int) a) (baseI E F) (gN E F a : Int) := fun a ha => by
  have ha1 : a < pw (1 + E + F) := by rw [pw_one_more]; omega
  have hx : exN E F a ≠ maskN E := fin_iff.2 (by rw [mag_self (by omega)]; omega)
  obtain ⟨e1, w1⟩ := valD_ok (fits_bits hf ha1) hx (by omega) (by omega)
  have s1 : sgB E F a = false := by have := sg_mg E F a; rwa [mag_self (by omega)] at this
  rw [s1] at w1
  have hs : (valD (E : Int) (F : Int) a).s = false := by have := (val_turned hf ha1 hx).2.1; rwa [mag_self (by omega)] at this
  have := wo_upW w1 hs
  exact ⟨Int.ofNat.inj this, hs, w1⟩
 obtain ⟨v1, v2, v3⟩ := val m hm
 have hx : exN E F m ≠ maskN E := fin_iff.2 (by rw [mag_self hmp]; exact hm)
 refine ⟨v1, ?_, ?_⟩
 · unfold bfD
   by_cases h0 : m = 0
   · rw [if_pos h0, h0]
     rw [h0] at v1
     exact v1
   · rw [if_neg h0]
     exact (val (m - 1) (by omega)).1
 · obtain ⟨d2, g2⟩ := un_bd hf hx
   obtain ⟨e3, _⟩ := reach_facts hf hmp hx
   have w3 := addA_worth v3.dy d2 v3.low g2.low e3
   have hu : wI false 1 (unI E F m) (baseI E F) = ((2 ^ (max (exN E F m) 1 - 1) : Nat) : Int) := by
    unfold wI sgI upW unI
    rw [if_neg (by decide), Nat.one_mul, show (baseI E F + ((max (exN E F m) 1 : Nat) : Int) - 1 - baseI E F).toNat = max (exN E F m) 1 - 1 by omega]
   have w1w := v3.wo
   rw [w1w, hu] at w3
   have hs : (faD E F m).s = false := by
    have := (ref_reach hf (show m < pw (1 + E + F) by rw [pw_one_more]; omega) hx).2.1
    rwa [mag_self hmp] at this
   have := wo_upW (D := faD E F m) w3 hs
   rw [gN_next (by omega)]
   omega
theorem rc_units {E F m : Nat} (hf : formE (E : Int) (F : Int) = 0) (hm : m < ifN E F) (M : Nat) :
 upW (rcI E F m M).N (rcI E F m M).x (baseI E F - 1) = iW E F m M ∧ upW (rcO E F m M).N (rcO E F m M).x (baseI E F - 1) = oW E F m M := by
 have hi := (if_lt hf).2
 have hmp : m < pw (E + F) := by omega
 have hx : exN E F m ≠ maskN E := fin_iff.2 (by rw [mag_self hmp]; exact hm)
 have hp1 : m < pw (1 + E + F) := by rw [pw_one_more]; omega
 obtain ⟨u1, u2, u3⟩ := reach_units hf hm
 obtain ⟨d1, g1⟩ := val_bd hf hp1 hx
 obtain ⟨b1, b2, b3, b4⟩ := base_small hf
 obtain ⟨_, d3, g3, d4, g4⟩ := reach_facts hf hmp hx
 have g1' := g1.up (show F + 2 * biasN E ≤ F + 2 * biasN E + 1 by omega)
 obtain ⟨_, s3, s4, s1, _⟩ := ref_reach hf hp1 hx
 rw [mag_self hmp] at s1 s3 s4
 have sI := (rc_s hf hmp hx M).1
 have sO := (rc_s hf hmp hx M).2.1
 unfold rcI at sI ⊢
 unfold rcO at sO ⊢
 unfold iW oW
 by_cases m2 : M = 2
 · rw [if_pos m2, if_pos m2, if_pos m2, if_pos m2]
   exact ⟨(upW_half g1.low).trans (congrArg (2 * ·) u1), (upW_half g3.low).trans (congrArg (2 * ·) u3)⟩
 · rw [if_neg m2] at sI sO
   rw [if_neg m2, if_neg m2, if_neg m2, if_neg m2]
   by_cases m3 : M = 3
   · rw [if_pos m3, if_pos m3, if_pos m3, if_pos m3]
     exact ⟨(upW_half g4.low).trans (congrArg (2 * ·) u2), (upW_half g1.low).trans (congrArg (2 * ·) u1)⟩
   · rw [if_neg m3] at sI sO
     rw [if_neg m3, if_neg m3, if_neg m3, if_neg m3]
     exact ⟨me_half (P := bfD E F m) (Q := valD (E : Int) (F : Int) m) d4 d1 s4 s1 g4 g1' (by omega) (by omega) (by omega) u2 u1 sI,
      me_half (P := valD (E : Int) (F : Int) m) (Q := faD E F m) d1 d3 s1 s3 g1' g3 (by omega) (by omega) (by omega) u1 u3 sO⟩
theorem end_cmp {n : Nat} {x b : Int} {W N D : Nat} (hw : upW n x (b - 1) = W) (hl : n ≠ 0 → b - 1 ≤ x) (hb : b ≤ 0) :
 (upN n x * D < N * upD x ↔ W * scD D (-b) < 2 * scN N (-b)) ∧ (N * upD x < upN n x * D ↔ 2 * scN N (-b) < W * scD D (-b)) := by
 have hk : upN n x * 2 ^ (1 - b).toNat = W * upD x := by
  rw [← hw]
  unfold upN upD upW
  by_cases h0 : n = 0
  · rw [h0]; simp
  · have := hl h0
    rw [Nat.mul_assoc, Nat.mul_assoc, ← Nat.pow_add, ← Nat.pow_add]
    congr 2
    omega
 have hd : scD D (-b) = D := by
  unfold scD
  rw [show (- -b).toNat = 0 by omega, Nat.pow_zero, Nat.mul_one]
 have hn : 2 * scN N (-b) = N * 2 ^ (1 - b).toNat := by
  unfold scN
  rw [show (1 - b).toNat = (-b).toNat + 1 by omega, Nat.pow_succ, Nat.mul_left_comm, Nat.mul_comm 2]
 rw [hd, hn]
 have hT : 0 < 2 ^ (1 - b).toNat := Nat.two_pow_pos _
 have hU : 0 < upD x := Nat.pos_of_ne_zero (upD_pos x)
 generalize 2 ^ (1 - b).toNat = T at *
 generalize upD x = U at *
 generalize upN n x = V at *
 have e1 : V * D * T = W * D * U := by rw [Nat.mul_right_comm, hk, Nat.mul_right_comm]
 have e2 : N * U * T = N * T * U := Nat.mul_right_comm _ _ _
 constructor
 · rw [← Nat.mul_lt_mul_right (a0 := hT), e1, e2, Nat.mul_lt_mul_right hU]
 · rw [← Nat.mul_lt_mul_right (a0 := hT), e1, e2, Nat.mul_lt_mul_right hU]
theorem sgQ_num' (s : Bool) {N D : Nat} (hD : D ≠ 0) (hG : Nat.gcd N D = 1) (hs : s = true → N ≠ 0) : (sgQ' s N D).num = (if s = true then -(N : Int) else (N : Int)) ∧ (sgQ' s N D).den = D := by
 obtain ⟨q1, q2, q3⟩ := mk_low hD hG hs
 refine ⟨?_, q2⟩
 cases s
 · have := of_decide_eq_false q3
   simp only [Bool.false_eq_true, if_false]
   omega
 · have := of_decide_eq_true q3
   simp only [if_true]
   omega
theorem cmp_sides {s t : Bool} {N D N' D' : Nat} (hD : D ≠ 0) (hG : Nat.gcd N D = 1) (hs : s = true → N ≠ 0) (hD' : D' ≠ 0) (hG' : Nat.gcd N' D' = 1) (hs' : t = true → N' ≠ 0) :
 cmpQ (sgQ' s N D) (sgQ' t N' D') = if (if s = true then -((N * D' : Nat) : Int) else ((N * D' : Nat) : Int)) < (if t = true then -((N' * D : Nat) : Int) else ((N' * D : Nat) : Int)) then -1 else if (if t = true then -((N' * D : Nat) : Int) else ((N' * D : Nat) : Int)) < (if s = true then -((N * D' : Nat) : Int) else ((N * D' : Nat) : Int)) then 1 else 0 := by
 obtain ⟨e1, q2⟩ := sgQ_num' s hD hG hs
 obtain ⟨e2, r2⟩ := sgQ_num' t hD' hG' hs'
 rw [cmpQ_cross, e1, e2, q2, r2]
 have h1 : (if s = true then -(N : Int) else (N : Int)) * (D' : Int) = if s = true then -((N * D' : Nat) : Int) else ((N * D' : Nat) : Int) := by cases s <;> simp [Int.neg_mul]
 have h2 : (if t = true then -(N' : Int) else (N' : Int)) * (D : Int) = if t = true then -((N' * D : Nat) : Int) else ((N' * D : Nat) : Int) := by cases t <;> simp [Int.neg_mul]
 rw [h1, h2]
def loD (s : Bool) (I O : Ds) : Ds := if s = true then O else I
def hiD (s : Bool) (I O : Ds) : Ds := if s = true then I else O
def edQ (s : Bool) (D : Ds) : Rat := sgQ' (s && decide (D.N ≠ 0)) (upN D.N D.x) (upD D.x)
def btw (L q H : Rat) (l h : Bool) : Bool := (decide (cmpQ L q < 0) || (decide (cmpQ L q = 0) && l)) && (decide (cmpQ q H < 0) || (decide (cmpQ q H = 0) && h))
theorem flag3 {E F N D m : Nat} {s : Bool} : flG E F N D s m = 3 ↔ ovB E F N D s m = true := by
 unfold flG
 by_cases h : ovB E F N D s m = true
 · rw [if_pos h]; exact ⟨fun _ => h, fun _ => rfl⟩
 · rw [if_neg h]
   refine ⟨fun k => ?_, fun k => absurd k h⟩
   exfalso
   split at k
   · omega
   · split at k <;> omega
theorem reach_core {s rs : Bool} {aI nI aO nO iB oB A N m P b iw ow fl sg g : Nat} {ri ro ov : Bool} (ci1 : aI < nI ↔ iB < 2 * A) (ci2 : nI < aI ↔ 2 * A < iB) (co1 : aO < nO ↔ oB < 2 * A) (co2 : nO < aO ↔ 2 * A < oB)
 (hA0 : A = 0 ↔ N = 0) (hiB : iB = 0 ↔ iw = 0) (hoB : oB = 0 ↔ ow = 0) (hgn : nI = 0 ↔ N = 0) (hgm : nO = 0 ↔ N = 0) (hs : rs = true → N ≠ 0) (heq : b = m + if s = true then P else 0) (hm : m < P) (hfl : fl < P)
 (hin0 : (iw = 0 ∧ ri = true ↔ m = 0) ∧ 0 < ow ∨ m = 0 ∧ iw = 0 ∧ ow = 0 ∧ ri = true ∧ ro = true) (hg : g = 3 ↔ ov = true) (hfb : ov = false → fl = sg)
 (hrr : N ≠ 0 → rs = s → ((ov = false ∧ sg = m) ↔ (iB < 2 * A ∨ iB = 2 * A ∧ ri = true) ∧ (2 * A < oB ∨ 2 * A = oB ∧ ro = true))) :
 ((if N = 0 then (if s = true then P else 0) else if rs = true then fl + P else fl) = b ∧ (if N = 0 then 0 else g) ≠ 3) ↔
 (if s = true then (-(aO : Int) < (if rs = true then -(nO : Int) else (nO : Int)) ∨ -(aO : Int) = (if rs = true then -(nO : Int) else (nO : Int)) ∧ ro = true) ∧ ((if rs = true then -(nI : Int) else (nI : Int)) < -(aI : Int) ∨ (if rs = true then -(nI : Int) else (nI : Int)) = -(aI : Int) ∧ ri = true)
  else ((aI : Int) < (if rs = true then -(nI : Int) else (nI : Int)) ∨ (aI : Int) = (if rs = true then -(nI : Int) else (nI : Int)) ∧ ri = true) ∧ ((if rs = true then -(nO : Int) else (nO : Int)) < (aO : Int) ∨ (if rs = true then -(nO : Int) else (nO : Int)) = (aO : Int) ∧ ro = true)) := by
 by_cases hN : N = 0
 · have hrs : rs = false := by
    cases rs
    · rfl
    · exact absurd hN (hs rfl)
   subst hrs
   rw [if_pos hN, if_pos hN]
   have e1 := hgn.2 hN
   have e2 := hgm.2 hN
   have e3 := hA0.2 hN
   clear hrr hfb hg hfl hs hA0 hgn hgm
   subst e1 e2 e3
   cases s
   · simp only [Bool.false_eq_true, if_false] at *
     cases ri <;> cases ro <;> simp at hin0 ⊢ <;> omega
   · simp only [Bool.false_eq_true, if_false, if_true] at *
     cases ri <;> cases ro <;> simp at hin0 ⊢ <;> omega
 · rw [if_neg hN, if_neg hN]
   have hr2 := hrr hN
   have z1 : 0 < nI := Nat.pos_of_ne_zero fun h => hN (hgn.1 h)
   have z2 : 0 < nO := Nat.pos_of_ne_zero fun h => hN (hgm.1 h)
   clear hrr hs hin0 hA0 hiB hoB hgn hgm hN
   rw [ne_eq, hg]
   cases s <;> cases rs
   · have hr3 := hr2 rfl
     simp only [Bool.false_eq_true, if_false] at *
     have hl : (fl = b ∧ ¬ ov = true) ↔ (ov = false ∧ sg = m) := by
      rw [Bool.not_eq_true]
      exact ⟨fun ⟨h1, h2⟩ => ⟨h2, by rw [← hfb h2]; omega⟩, fun ⟨h1, h2⟩ => ⟨by rw [hfb h1]; omega, h1⟩⟩
     rw [hl, hr3]
     clear hl hr3 hr2 hfb hg
     cases ri <;> cases ro <;> simp <;> omega
   · simp only [Bool.false_eq_true, if_false, if_true] at *
     clear hr2 hfb hg
     refine ⟨fun h => ?_, fun h => ?_⟩
     · omega
     · omega
   · simp only [Bool.false_eq_true, if_false, if_true] at *
     clear hr2 hfb hg
     refine ⟨fun h => ?_, fun h => ?_⟩
     · omega
     · omega
   · have hr3 := hr2 rfl
     simp only [if_true] at *
     have hl : (fl + P = b ∧ ¬ ov = true) ↔ (ov = false ∧ sg = m) := by
      rw [Bool.not_eq_true]
      exact ⟨fun ⟨h1, h2⟩ => ⟨h2, by rw [← hfb h2]; omega⟩, fun ⟨h1, h2⟩ => ⟨by rw [hfb h1]; omega, h1⟩⟩
     rw [hl, hr3]
     clear hl hr3 hr2 hfb hg
     cases ri <;> cases ro <;> simp <;> omega
theorem reach_nought {E F m M : Nat} (hi : m + 1 < pw (E + F)) (hM : M < 4) :
 (iW E F m M = 0 ∧ rci m M = true ↔ m = 0) ∧ 0 < oW E F m M ∨ m = 0 ∧ iW E F m M = 0 ∧ oW E F m M = 0 ∧ rci m M = true ∧ rco m M = true := by
 have hz : gN E F 0 = 0 := by
  unfold gN upW vN
  have e1 : exN E F 0 = 0 := by show 0 / pw F % pw E = 0; rw [Nat.zero_div, Nat.zero_mod]
  have e2 : frN F 0 = 0 := by rw [frN_eq, Nat.zero_mod]
  rw [e1, if_pos rfl, e2, Nat.zero_mul]
 have st : gN E F m < gN E F (m + 1) := gN_step hi
 have sp : 0 < m → gN E F (m - 1) < gN E F m := fun h0 => by
  have := gN_step (E := E) (F := F) (m := m - 1) (by omega)
  rwa [show m - 1 + 1 = m by omega] at this
 have s0 : m = 0 → gN E F m = 0 ∧ gN E F (m - 1) = 0 := fun h0 => by rw [h0]; exact ⟨hz, hz⟩
 unfold iW oW rci rco
 generalize gN E F (m - 1) = G0 at *
 generalize gN E F m = G1 at *
 generalize gN E F (m + 1) = G2 at *
 clear hz
 rcases (show M = 0 ∨ M = 1 ∨ M = 2 ∨ M = 3 by omega) with rfl | rfl | rfl | rfl
 · simp only [show ¬ ((0 : Nat) = 1) by decide, show ¬ ((0 : Nat) = 2) by decide, show ¬ ((0 : Nat) = 3) by decide, if_false, decide_eq_true_eq]
   by_cases h0 : m = 0
   · have := s0 h0; omega
   · have := sp (by omega); omega
 · simp only [show ¬ ((1 : Nat) = 2) by decide, show ¬ ((1 : Nat) = 3) by decide, if_true, if_false, and_true]
   by_cases h0 : m = 0
   · have := s0 h0; omega
   · have := sp (by omega); omega
 · simp only [if_true, and_true]
   by_cases h0 : m = 0
   · have := s0 h0; omega
   · have := sp (by omega); omega
 · simp only [show ¬ ((3 : Nat) = 2) by decide, if_true, if_false, decide_eq_true_eq, and_true]
   by_cases h0 : m = 0
   · right
     have := s0 h0
     omega
   · left
     have := sp (by omega)
     refine ⟨⟨fun h => h.2, fun h => absurd h h0⟩, by omega⟩
theorem cmp_dec (a b : Int) : decide ((if a < b then (-1 : Int) else if b < a then 1 else 0) < 0) = decide (a < b) ∧ decide ((if a < b then (-1 : Int) else if b < a then 1 else 0) = 0) = decide (a = b) := by
 by_cases h1 : a < b
 · rw [if_pos h1]
   exact ⟨by simp [h1], by simp; omega⟩
 · rw [if_neg h1]
   by_cases h2 : b < a
   · rw [if_pos h2]
     exact ⟨by simp; omega, by simp; omega⟩
   · rw [if_neg h2]
     exact ⟨by simp; omega, by simp; omega⟩
theorem sg_end (s : Bool) (X : Ds) (n : Nat) (h : n = 0 ↔ X.N = 0) : (if (s && decide (X.N ≠ 0)) = true then -(n : Int) else (n : Int)) = if s = true then -(n : Int) else (n : Int) := by
 cases s
 · simp
 · by_cases h0 : X.N = 0
   · have := h.2 h0
     simp [h0, this]
   · simp [h0]
theorem edge_cmp {s rs : Bool} {X : Ds} {N D : Nat} (hd : Dy false X.N X.x) (hD : D ≠ 0) (hG : Nat.gcd N D = 1) (hs : rs = true → N ≠ 0) :
 cmpQ (edQ s X) (sgQ' rs N D) = (if (if s = true then -((upN X.N X.x * D : Nat) : Int) else ((upN X.N X.x * D : Nat) : Int)) < (if rs = true then -((N * upD X.x : Nat) : Int) else ((N * upD X.x : Nat) : Int)) then -1 else if (if rs = true then -((N * upD X.x : Nat) : Int) else ((N * upD X.x : Nat) : Int)) < (if s = true then -((upN X.N X.x * D : Nat) : Int) else ((upN X.N X.x * D : Nat) : Int)) then 1 else 0) ∧
 cmpQ (sgQ' rs N D) (edQ s X) = (if (if rs = true then -((N * upD X.x : Nat) : Int) else ((N * upD X.x : Nat) : Int)) < (if s = true then -((upN X.N X.x * D : Nat) : Int) else ((upN X.N X.x * D : Nat) : Int)) then -1 else if (if s = true then -((upN X.N X.x * D : Nat) : Int) else ((upN X.N X.x * D : Nat) : Int)) < (if rs = true then -((N * upD X.x : Nat) : Int) else ((N * upD X.x : Nat) : Int)) then 1 else 0) := by
 have c := up_cop hd
 have u := upD_pos X.x
 have hneg : (s && decide (X.N ≠ 0)) = true → upN X.N X.x ≠ 0 := fun h => upN_ne (of_decide_eq_true ((Bool.and_eq_true _ _).mp h).2) _
 have hz : upN X.N X.x * D = 0 ↔ X.N = 0 := by
  unfold upN
  refine ⟨fun h => ?_, fun h => by rw [h, Nat.zero_mul, Nat.zero_mul]⟩
  have h1 := (Nat.mul_eq_zero.1 h).resolve_right hD
  exact (Nat.mul_eq_zero.1 h1).resolve_right (Nat.ne_of_gt (Nat.two_pow_pos _))
 have hsg := sg_end s X (upN X.N X.x * D) hz
 unfold edQ
 rw [cmp_sides u c hneg hD hG hs, cmp_sides hD hG hs u c hneg, hsg]
 exact ⟨rfl, rfl⟩
theorem reach_law {E F b mode N D : Nat} {rs : Bool} (hf : formE (E : Int) (F : Int) = 0) (hb : b < pw (1 + E + F)) (hx : exN E F b ≠ maskN E) (hmo : mode < 5) (hD : D ≠ 0) (hG : Nat.gcd N D = 1) (hs : rs = true → N ≠ 0) :
 (sgBits E F N D rs (sgB E F b) mode = b ∧ sgFlags E F N D rs mode ≠ 3) ↔ btw (edQ (sgB E F b) (loD (sgB E F b) (rcI E F (mgN E F b) (seM mode (sgB E F b))) (rcO E F (mgN E F b) (seM mode (sgB E F b))))) (sgQ' rs N D) (edQ (sgB E F b) (hiD (sgB E F b) (rcI E F (mgN E F b) (seM mode (sgB E F b))) (rcO E F (mgN E F b) (seM mode (sgB E F b)))))
   (if sgB E F b = true then rco (mgN E F b) (seM mode (sgB E F b)) else rci (mgN E F b) (seM mode (sgB E F b))) (if sgB E F b = true then rci (mgN E F b) (seM mode (sgB E F b)) else rco (mgN E F b) (seM mode (sgB E F b))) = true := by
 have hml := fin_iff.1 hx
 have heq := mg_eq hb
 have hi := (if_lt hf).2
 generalize sgB E F b = s at *
 generalize mgN E F b = m at *
 have hmp : m < pw (E + F) := by omega
 have hxm : exN E F m ≠ maskN E := fin_iff.2 (by rw [mag_self hmp]; exact hml)
 have hM4 := seM_lt hmo s
 obtain ⟨dI, gI, dO, gO⟩ := mean_bds hf hmp hxm (seM mode s)
 obtain ⟨sI, sO, _⟩ := rc_s hf hmp hxm (seM mode s)
 rw [sI] at dI
 rw [sO] at dO
 obtain ⟨wI', wO'⟩ := rc_units hf hml (seM mode s)
 obtain ⟨b1, b2, b3, b4⟩ := base_small hf
 obtain ⟨ci1, ci2⟩ := end_cmp (N := N) (D := D) wI' gI.low b2
 obtain ⟨co1, co2⟩ := end_cmp (N := N) (D := D) wO' gO.low b2
 obtain ⟨cA, cC⟩ := edge_cmp (s := s) dI hD hG hs
 obtain ⟨cB, cD⟩ := edge_cmp (s := s) dO hD hG hs
 have hB0 := scD_pos (Nat.pos_of_ne_zero hD) (-(baseI E F))
 have hA0 : scN N (-(baseI E F)) = 0 ↔ N = 0 := by
  unfold scN
  exact ⟨fun h => (Nat.mul_eq_zero.1 h).resolve_right (Nat.ne_of_gt (Nat.two_pow_pos _)), fun h => by rw [h, Nat.zero_mul]⟩
 have hz : ∀ X, X * scD D (-(baseI E F)) = 0 ↔ X = 0 := fun X => ⟨fun h => (Nat.mul_eq_zero.1 h).resolve_right (by omega), fun h => by rw [h, Nat.zero_mul]⟩
 have hn : ∀ X, N * upD X = 0 ↔ N = 0 := fun X => ⟨fun h => (Nat.mul_eq_zero.1 h).resolve_right (upD_pos X), fun h => by rw [h, Nat.zero_mul]⟩
 have hpw : 2 ^ (E + F) = pw (E + F) := (pw_is _).symm
 have hfl : flB E F N D rs mode < pw (E + F) := by rw [← hpw]; exact fl_lt N D rs mode
 have hrr : N ≠ 0 → rs = s → ((ovB E F N D rs mode = false ∧ Lb.sgB E F N D rs mode = m) ↔ inW E F m (seM mode s) (scN N (-(baseI E F))) (scD D (-(baseI E F)))) := fun h1 h2 => by
  rw [h2]
  exact round_reach hf h1 hD hml hmo
 unfold inW at hrr
 have hfb : ovB E F N D rs mode = false → flB E F N D rs mode = Lb.sgB E F N D rs mode := fun h => by
  unfold flB
  rw [if_neg (by rw [h]; decide)]
 have main := reach_core (b := b) ci1 ci2 co1 co2 hA0 (hz _) (hz _) (hn _) (hn _) hs heq hmp hfl (reach_nought (by omega) hM4) (flag3 (E := E) (F := F) (N := N) (D := D) (m := mode) (s := rs)) hfb hrr
 unfold sgBits sgFlags
 rw [hpw, main]
 unfold btw loD hiD
 cases s
 · simp only [Bool.false_eq_true, if_false]
   simp only [Bool.false_eq_true, if_false] at cA cD
   rw [cA, cD, (cmp_dec _ _).1, (cmp_dec _ _).1, (cmp_dec _ _).2, (cmp_dec _ _).2]
   simp only [Bool.and_eq_true, Bool.or_eq_true, decide_eq_true_eq]
 · simp only [if_true]
   simp only [if_true] at cB cC
   rw [cB, cC, (cmp_dec _ _).1, (cmp_dec _ _).1, (cmp_dec _ _).2, (cmp_dec _ _).2]
   simp only [Bool.and_eq_true, Bool.or_eq_true, decide_eq_true_eq]
end Go.Proofs.YtpmncmglmobjoaaGreatDoor
