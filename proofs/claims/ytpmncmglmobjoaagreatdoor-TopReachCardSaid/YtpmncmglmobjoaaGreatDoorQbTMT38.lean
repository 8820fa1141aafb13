/-
  Plain: what ends a float's reach begins that of its upper neighbour, and is in just one of the two.
-/
import Derived.Test.YtpmncmglmobjoaaGreatDoorQbTNearP
import Derived.ChangeKeysEq
set_option maxHeartbeats 800000
set_option maxRecDepth 100000
namespace Go.Proofs.YtpmncmglmobjoaaGreatDoor
open Go.RowKit Go.Lb
theorem uniq_div {P a b c d : Nat} (hb : b < P) (hd : d < P) (h : a * P + b = c * P + d) : a = c ∧ b = d := by
 have hp : 0 < P := by omega
 have e1 : (a * P + b) / P = a := by rw [Nat.mul_comm, Nat.mul_add_div hp, Nat.div_eq_of_lt hb, Nat.add_zero]
 have e2 : (c * P + d) / P = c := by rw [Nat.mul_comm, Nat.mul_add_div hp, Nat.div_eq_of_lt hd, Nat.add_zero]
 have h1 : a = c := by rw [← e1, h, e2]
 subst h1
 exact ⟨rfl, by omega⟩
theorem gN_next {e f m : Nat} (h : m + 1 < pw (e + f)) : gN e f (m + 1) = gN e f m + 2 ^ (max (exN e f m) 1 - 1) := by
 have hp := pw_pos f
 have la : frN f m < pw f := by rw [frN_eq]; exact Nat.mod_lt _ hp
 have lb : frN f (m + 1) < pw f := by rw [frN_eq]; exact Nat.mod_lt _ hp
 have p1 := mg_parts e f m
 have p2 := mg_parts e f (m + 1)
 rw [mag_self (by omega)] at p1
 rw [mag_self h] at p2
 have hx : ∀ b, (vX e f b - baseI e f).toNat = max (exN e f b) 1 - 1 := fun b => by
  unfold vX baseI
  by_cases h0 : exN e f b = 0
  · rw [if_pos h0, h0]; omega
  · rw [if_neg h0]; omega
 unfold gN upW
 rw [hx, hx]
 unfold vN
 by_cases hc : frN f m + 1 < pw f
 · obtain ⟨q1, q2⟩ := uniq_div (P := pw f) (a := exN e f (m + 1)) (b := frN f (m + 1)) (c := exN e f m) (d := frN f m + 1) lb hc (by omega)
   rw [q1, q2]
   by_cases h0 : exN e f m = 0
   · rw [if_pos h0, if_pos h0, h0]; simp
   · rw [if_neg h0, if_neg h0, ← Nat.add_assoc, Nat.add_mul, Nat.one_mul]
 · have hc' : frN f m + 1 = pw f := by omega
   obtain ⟨q1, q2⟩ := uniq_div (P := pw f) (a := exN e f (m + 1)) (b := frN f (m + 1)) (c := exN e f m + 1) (d := 0) lb hp (by rw [Nat.add_mul, Nat.one_mul]; omega)
   rw [q1, q2]
   by_cases h0 : exN e f m = 0
   · rw [if_neg (by omega), if_pos h0, h0]; simp; omega
   · rw [if_neg (by omega), if_neg h0, Nat.add_zero, show max (exN e f m + 1) 1 - 1 = (exN e f m - 1) + 1 by omega, show max (exN e f m) 1 - 1 = exN e f m - 1 by omega, Nat.pow_succ]
     generalize 2 ^ (exN e f m - 1) = Z
     have h1 : (pw f + frN f m) * Z + Z = (pw f + frN f m + 1) * Z := by rw [Nat.add_mul (pw f + frN f m) 1, Nat.one_mul]
     rw [h1, show pw f + frN f m + 1 = 2 * pw f by omega, Nat.mul_comm Z 2, ← Nat.mul_assoc, Nat.mul_comm (pw f) 2]
theorem end_rat {e f m : Nat} (hf : formE (e : Int) (f : Int) = 0) (hp : m < pw (e + f)) (hx : exN e f m ≠ maskN e) (M : Nat) (s : Bool) (D : Ds) (hD : D = rcI e f m M ∨ D = rcO e f m M) (hs : s = true → D.N ≠ 0) : ratB s (limbs (upN D.N D.x)) (limbs (upD D.x)) = true := by
 obtain ⟨dI, gI, dO, gO⟩ := mean_bds hf hp hx M
 obtain ⟨s1, s2, _⟩ := rc_s hf hp hx M
 obtain ⟨b1, b2, b3, b4⟩ := base_small hf
 rw [s1] at dI
 rw [s2] at dO
 have key : ratB false (limbs (upN D.N D.x)) (limbs (upD D.x)) = true := by
  rcases hD with rfl | rfl
  · exact (low6 dI gI (by omega) (by omega) (by omega)).1
  · exact (low6 dO gO (by omega) (by omega) (by omega)).1
 unfold ratB at key ⊢
 have k := of_decide_eq_true key
 refine decide_eq_true ⟨k.1, k.2.1, k.2.2.1, k.2.2.2.1, fun h => ?_⟩
 rw [val_limbs']
 unfold upN
 exact Nat.mul_ne_zero (hs h) (Nat.ne_of_gt (Nat.two_pow_pos _))
theorem topIs_any (e f : Int) (b : Nat) (w : World) (hb : b < 18446744073709551616) :
 Calls Tryz.prog 11 #[.agg #[.int .i64 e, .int .i64 f], .int .u64 b] w fun en w' => en = .returned (.bool (decide (fitsE e f b = 0))) ∧ Below w.heap.size w w' := by
 by_cases h : formE e f = 0
 · have hfit : ∀ W : World, Calls Tryz.prog 24 #[.agg #[.int .i64 e, .int .i64 f], .int .u64 b] W fun en w' => en = .returned (.int .i64 (fitsE e f b)) ∧ Below W.heap.size W w' := fun W => refFits3_any e f b W hb
   obtain ⟨v, hv⟩ : ∃ v, v = fitsE e f b := ⟨_, rfl⟩
   rw [← hv] at hfit ⊢
   clear hv
   by_cases hv : v = 0
   · subst hv
     go_enter Tryz.func11, Tryz.ntmps11
     go_wp2_with fail
     refine (refCheck3_any e f _).mono ?_
     rintro en w1 ⟨rfl, hb1⟩
     rw [h]
     have ⟨a0, a1⟩ := (box2_new w (.int .i64 e) (.int .i64 f) 23).stay hb1
     go_wp2_with fail
     refine (hfit _).mono ?_
     rintro en w2 ⟨rfl, hb2⟩
     go_wp2
     go_ret
     exact ⟨rfl, next (next (more (Below.refl _ _) _) hb1) hb2⟩
   · have hv1 : (v == 0) = false := by simp [hv]
     have H : Hid (decide (v = 0) = false) := Lib.hid (decide_eq_false hv)
     clear hv
     go_enter Tryz.func11, Tryz.ntmps11
     go_wp2_with fail
     refine (refCheck3_any e f _).mono ?_
     rintro en w1 ⟨rfl, hb1⟩
     rw [h]
     have ⟨a0, a1⟩ := (box2_new w (.int .i64 e) (.int .i64 f) 23).stay hb1
     go_wp2_with fail
     refine (hfit _).mono ?_
     rintro en w2 ⟨rfl, hb2⟩
     go_wp2
     go_ret
     exact ⟨by rw [H.out]; rfl, next (next (more (Below.refl _ _) _) hb1) hb2⟩
 · have hz : (formE e f == 0) = false := by simp [h]
   have H : Hid (decide (fitsE e f b = 0) = false) := Lib.hid (decide_eq_false (by rw [fitsE_form h]; exact h))
   clear h
   go_enter Tryz.func11, Tryz.ntmps11
   go_wp2_with fail
   refine (refCheck3_any e f _).mono ?_
   rintro en w1 ⟨rfl, hb1⟩
   go_wp2
   go_ret
   exact ⟨by rw [H.out]; rfl, next (more (Below.refl _ _) _) hb1⟩
theorem topFinite_any (e f : Int) (b : Nat) (w : World) (hb : b < 18446744073709551616) :
 Calls Tryz.prog 5 #[.agg #[.int .i64 e, .int .i64 f], .int .u64 b] w fun en w' => en = .returned (.bool (valOk e f b)) ∧ Below w.heap.size w w' := by
 by_cases h : fitsE e f b = 0
 · have hform : formE e f = 0 := by
    unfold fitsE at h
    split at h
    · rename_i hh; exact absurd h hh
    · rename_i hh; exact Classical.byContradiction hh
   obtain ⟨h1, h2, h3, h4⟩ := formE_ok hform
   obtain ⟨e, rfl⟩ := Int.eq_ofNat_of_zero_le (by omega : 0 ≤ e)
   obtain ⟨f, rfl⟩ := Int.eq_ofNat_of_zero_le (by omega : 0 ≤ f)
   have hp : b < pw (1 + e + f) := by
    unfold fitsE at h
    rw [if_neg (by simp [hform])] at h
    split at h
    · assumption
    · cases h
   have H : Hid (decide (exN e f b ≠ maskN e) = valOk (e : Int) (f : Int) b) := Lib.hid (by unfold valOk; rw [decide_eq_decide]; simp [h])
   have hfin : ∀ W : World, Calls Tryz.prog 12 #[.agg #[.int .i64 e, .int .i64 f], .int .u64 b] W fun en w' => en = .returned (.bool (decide (exN e f b ≠ maskN e))) ∧ Below W.heap.size W w' := fun W => refFinite3_any e f b W hform hb hp
   obtain ⟨v, hv⟩ : ∃ v, v = decide (exN e f b ≠ maskN e) := ⟨_, rfl⟩
   rw [← hv] at hfin H
   clear hv hp hform h1 h2 h3 h4
   go_enter Tryz.func5, Tryz.ntmps5
   go_wp2_with fail
   refine (topIs_any e f b _ hb).mono ?_
   rintro en w1 ⟨rfl, hb1⟩
   rw [h]
   have ⟨a0, a1⟩ := (box2_new w (.int .i64 (e : Int)) (.int .i64 (f : Int)) 23).stay hb1
   go_wp2_with fail
   refine (hfin _).mono ?_
   rintro en w2 ⟨rfl, hb2⟩
   go_wp2
   go_ret
   exact ⟨by rw [← H.out]; rfl, next (next (more (Below.refl _ _) _) hb1) hb2⟩
 · have H : Hid (valOk e f b = false) := Lib.hid (decide_eq_false (fun hh => h hh.1))
   have hd : decide (fitsE e f b = 0) = false := decide_eq_false h
   clear h
   go_enter Tryz.func5, Tryz.ntmps5
   go_wp2_with fail
   refine (topIs_any e f b _ hb).mono ?_
   rintro en w1 ⟨rfl, hb1⟩
   rw [hd]
   go_wp2
   go_ret
   exact ⟨by rw [H.out]; rfl, next (more (Below.refl _ _) _) hb1⟩
end Go.Proofs.YtpmncmglmobjoaaGreatDoor
