/-
  The walks of the top's is, finite, nought, double.
-/
import Derived.Test.YtmiheaoojmgalaaDoorTop03
import Derived.Test.YtmiheaoojmgalaaDoorFloatL
namespace Go.Proofs.YtmiheaoojmgalaaDoor
open Go.RowKit Go.Lb

set_option maxRecDepth 100000 in
theorem topDouble_any (w : World) :
    Calls Tryd.prog 34 #[] w fun e w' => e = .returned (.agg #[.int .i64 11, .int .i64 52]) ∧ Below w.heap.size w w' := by
  go_enter Tryd.func34, Tryd.ntmps34
  go_wp2
  refine bodyPost_ret (v := .agg #[.int .i64 11, .int .i64 52]) (by simp [results, Tryd.results34, go_sem]) rfl ⟨rfl, more (Below.refl _ _) _⟩

set_option maxRecDepth 100000 in
set_option maxHeartbeats 800000 in
theorem topIs_any (e f : Int) (b : Nat) (w : World) (hb : b < 18446744073709551616) :
    Calls Tryd.prog 65 #[.agg #[.int .i64 e, .int .i64 f], .int .u64 b] w fun en w' => en = .returned (.bool (decide (fitsE e f b = 0))) ∧ Below w.heap.size w w' := by
  by_cases h : formE e f = 0
  · have hfit : ∀ W : World, Calls Tryd.prog 91 #[.agg #[.int .i64 e, .int .i64 f], .int .u64 b] W fun en w' => en = .returned (.int .i64 (fitsE e f b)) ∧ Below W.heap.size W w' := fun W => refFits3_any e f b W hb
    obtain ⟨v, hv⟩ : ∃ v, v = fitsE e f b := ⟨_, rfl⟩
    rw [← hv] at hfit ⊢
    clear hv
    by_cases hv : v = 0
    · subst hv
      go_enter Tryd.func65, Tryd.ntmps65
      go_wp2_with fail
      refine (refCheck3_any e f _).mono ?_
      rintro en w1 ⟨rfl, hb1⟩
      rw [h]
      have ⟨a0, a1⟩ := (box2_new w (.int .i64 e) (.int .i64 f) 23).stay hb1
      go_wp2_with fail
      refine (hfit _).mono ?_
      rintro en w2 ⟨rfl, hb2⟩
      go_wp2
      go_ret
      exact ⟨rfl, next (next (more (Below.refl _ _) _) hb1) hb2⟩
    · have hv1 : (v == 0) = false := by simp [hv]
      have H : Hid (decide (v = 0) = false) := Lib.hid (decide_eq_false hv)
      clear hv
      go_enter Tryd.func65, Tryd.ntmps65
      go_wp2_with fail
      refine (refCheck3_any e f _).mono ?_
      rintro en w1 ⟨rfl, hb1⟩
      rw [h]
      have ⟨a0, a1⟩ := (box2_new w (.int .i64 e) (.int .i64 f) 23).stay hb1
      go_wp2_with fail
      refine (hfit _).mono ?_
      rintro en w2 ⟨rfl, hb2⟩
      go_wp2
      go_ret
      exact ⟨by rw [H.out]; rfl, next (next (more (Below.refl _ _) _) hb1) hb2⟩
  · have hz : (formE e f == 0) = false := by simp [h]
    have H : Hid (decide (fitsE e f b = 0) = false) := Lib.hid (decide_eq_false (by rw [fitsE_form h]; exact h))
    clear h
    go_enter Tryd.func65, Tryd.ntmps65
    go_wp2_with fail
    refine (refCheck3_any e f _).mono ?_
    rintro en w1 ⟨rfl, hb1⟩
    go_wp2
    go_ret
    exact ⟨by rw [H.out]; rfl, next (more (Below.refl _ _) _) hb1⟩

set_option maxRecDepth 100000 in
set_option maxHeartbeats 800000 in
theorem topFinite_any (e f : Int) (b : Nat) (w : World) (hb : b < 18446744073709551616) :
    Calls Tryd.prog 35 #[.agg #[.int .i64 e, .int .i64 f], .int .u64 b] w fun en w' => en = .returned (.bool (valOk e f b)) ∧ Below w.heap.size w w' := by
  by_cases h : fitsE e f b = 0
  · have hform : formE e f = 0 := by
      unfold fitsE at h
      split at h
      · rename_i hh; exact absurd h hh
      · rename_i hh; exact Classical.byContradiction hh
    obtain ⟨h1, h2, h3, h4⟩ := formE_ok hform
    obtain ⟨e, rfl⟩ := Int.eq_ofNat_of_zero_le (by omega : 0 ≤ e)
    obtain ⟨f, rfl⟩ := Int.eq_ofNat_of_zero_le (by omega : 0 ≤ f)
    have hp : b < pw (1 + e + f) := by
      unfold fitsE at h
      rw [if_neg (by simp [hform])] at h
      split at h
      · assumption
      · cases h
    have H : Hid (decide (exN e f b ≠ maskN e) = valOk (e : Int) (f : Int) b) := Lib.hid (by unfold valOk; rw [decide_eq_decide]; simp [h])
    have hfin : ∀ W : World, Calls Tryd.prog 66 #[.agg #[.int .i64 e, .int .i64 f], .int .u64 b] W fun en w' => en = .returned (.bool (decide (exN e f b ≠ maskN e))) ∧ Below W.heap.size W w' := fun W => refFinite3_any e f b W hform hb hp
    obtain ⟨v, hv⟩ : ∃ v, v = decide (exN e f b ≠ maskN e) := ⟨_, rfl⟩
    rw [← hv] at hfin H
    clear hv hp hform h1 h2 h3 h4
    go_enter Tryd.func35, Tryd.ntmps35
    go_wp2_with fail
    refine (topIs_any e f b _ hb).mono ?_
    rintro en w1 ⟨rfl, hb1⟩
    rw [h]
    have ⟨a0, a1⟩ := (box2_new w (.int .i64 (e : Int)) (.int .i64 (f : Int)) 23).stay hb1
    go_wp2_with fail
    refine (hfin _).mono ?_
    rintro en w2 ⟨rfl, hb2⟩
    go_wp2
    go_ret
    exact ⟨by rw [← H.out]; rfl, next (next (more (Below.refl _ _) _) hb1) hb2⟩
  · have H : Hid (valOk e f b = false) := Lib.hid (decide_eq_false (fun hh => h hh.1))
    have hd : decide (fitsE e f b = 0) = false := decide_eq_false h
    clear h
    go_enter Tryd.func35, Tryd.ntmps35
    go_wp2_with fail
    refine (topIs_any e f b _ hb).mono ?_
    rintro en w1 ⟨rfl, hb1⟩
    rw [hd]
    go_wp2
    go_ret
    exact ⟨by rw [H.out]; rfl, next (more (Below.refl _ _) _) hb1⟩

theorem shift_out {b m k : Nat} (h : m + k = 63) : (IntKind.u64.wrap (IntKind.u64.wrap ((b : Int) * 2 ^ k) * 2) == 0) = decide (b % pw m = 0) := by
  have hP : 18446744073709551616 = pw m * (pw k * 2) := by
    rw [← Nat.mul_assoc, ← pw_add, h, show pw 63 = 9223372036854775808 by unfold pw; rfl]
  have e1 : ((b : Int) * 2 ^ k) = ((b * pw k : Nat) : Int) := by
    rw [Int.natCast_mul, ← pow_pw, Int.natCast_pow]
    rfl
  rw [e1, IntKind.wrap_u64, IntKind.wrap_u64, Bool.eq_iff_iff]
  have e2 : (((b * pw k : Nat) : Int) % 18446744073709551616 * 2) % 18446744073709551616 = ((b * pw k * 2 % 18446744073709551616 : Nat) : Int) := by omega
  rw [e2]
  have e3 : b * pw k * 2 % 18446744073709551616 = b % pw m * (pw k * 2) := by
    rw [Nat.mul_assoc, hP, Nat.mul_mod_mul_right]
  rw [e3]
  have hk := pw_pos k
  simp only [beq_iff_eq, decide_eq_true_eq]
  constructor
  · intro hh
    have hh' : b % pw m * (pw k * 2) = 0 := by omega
    rcases Nat.mul_eq_zero.1 hh' with h0 | h0
    · exact h0
    · omega
  · intro hh
    rw [hh, Nat.zero_mul]
    rfl

set_option maxRecDepth 100000 in
set_option maxHeartbeats 800000 in
theorem topNought_any (e f b : Nat) (w : World) (h : formE (e : Int) (f : Int) = 0) :
    Calls Tryd.prog 36 #[.agg #[.int .i64 e, .int .i64 f], .int .u64 b] w fun en w' => en = .returned (.bool (decide (vN e f b = 0))) ∧ Below w.heap.size w w' := by
  obtain ⟨h1, h2, h3, h4⟩ := formE_ok h
  have g1 : e + f ≤ 63 := by omega
  have w1 : IntKind.i64.wrap (63 - (e : Int)) = 63 - (e : Int) := IntWalk.i64_in _ (by omega)
  have w2 : IntKind.i64.wrap (63 - (e : Int) - (f : Int)) = 63 - (e : Int) - (f : Int) := IntWalk.i64_in _ (by omega)
  have H : Hid ((IntKind.u64.wrap (IntKind.u64.wrap ((b : Int) * 2 ^ (63 - e - f)) * 2) == 0) = decide (vN e f b = 0)) := Lib.hid (by
    rw [shift_out (m := f + e) (by omega), decide_eq_decide]
    exact vN_zero.symm)
  go_enter Tryd.func36, Tryd.ntmps36
  go_wp2
  go_ret
  exact ⟨by rw [← H.out]; rfl, more (Below.refl _ _) _⟩

end Go.Proofs.YtmiheaoojmgalaaDoor
