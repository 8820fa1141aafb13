/-
  math.Nextafter toward an infinity, math.IsInf, Signbit: the walks, of doubles that are numbers.
-/
import Derived.WalkLawsBesides
import Derived.Test.YtfjgmpfpadfknaaGreatDoorQNbBase
import Derived.Test.YtfjgmpfpadfknaaGreatDoorQVNatF
import Derived.Test.YtfjgmpfpadfknaaGreatDoorQVRchL
namespace Go.Proofs.YtfjgmpfpadfknaaGreatDoor

open Go.RowKit Go.Lb

theorem fb_run (z : Nat) (W : World) : (callFunc 34 #[.int .u64 z]).run Tryz.prog W = .ok (.value (.float .f64 z)) W :=
  (run_callFunc_extern Tryz.func34 (by kernel_rfl) (by kernel_rfl) (by kernel_rfl) (e := Extern.MathFloatBits.float64frombits) (by kernel_rfl) _ W).trans rfl

theorem bf_run (z : Nat) (W : World) : (callFunc 86 #[.float .f64 z]).run Tryz.prog W = .ok (.value (.int .u64 z)) W :=
  (run_callFunc_extern Tryz.func86 (by kernel_rfl) (by kernel_rfl) (by kernel_rfl) (e := Extern.MathFloatBits.float64bits) (by kernel_rfl) _ W).trans rfl

/-- Two doubles that are numbers, compared. -/
theorem cmp_words {x y : Nat} (hx : mgN 11 52 x ≤ ifN 11 52) (hy : mgN 11 52 y ≤ ifN 11 52) (o : Ordering) : (FloatKind.f64.format.order x y == some o) = decide (cmI (plI 11 52 x) (plI 11 52 y) = o) := by
  rw [show FloatKind.f64.format.order x y = some (cmI (plI 11 52 x) (plI 11 52 y)) from order_place hx hy]
  generalize cmI (plI 11 52 x) (plI 11 52 y) = c
  cases c <;> cases o <;> rfl

def pInf : Nat := 9218868437227405312

def nInf : Nat := 18442240474082181120

theorem pInf_is : mgN 11 52 pInf ≤ ifN 11 52 ∧ plI 11 52 pInf = 9218868437227405312 := by decide +kernel

theorem nInf_is : mgN 11 52 nInf ≤ ifN 11 52 ∧ plI 11 52 nInf = -9218868437227405312 := by decide +kernel

theorem zero_is : mgN 11 52 0 ≤ ifN 11 52 ∧ plI 11 52 0 = 0 := by decide +kernel

theorem most_is : mgN 11 52 9218868437227405311 ≤ ifN 11 52 ∧ plI 11 52 9218868437227405311 = 9218868437227405311 := by decide +kernel

set_option maxRecDepth 100000 in
theorem infP_any (w : World) : Calls Tryz.prog 37 #[.int .i64 1] w fun en w' => en = .returned (.float .f64 (pInf : Nat)) ∧ w = w' := by
  have hfb : ∀ W, (callFunc 34 #[.int .u64 9218868437227405312]).run Tryz.prog W = .ok (.value (.float .f64 9218868437227405312)) W := fun W => fb_run 9218868437227405312 W
  go_enter Tryz.func37, Tryz.ntmps37
  go_wp2
  go_ret
  exact ⟨rfl, rfl⟩

set_option maxRecDepth 100000 in
theorem infN_any (w : World) : Calls Tryz.prog 37 #[.int .i64 (-1)] w fun en w' => en = .returned (.float .f64 (nInf : Nat)) ∧ w = w' := by
  have hfb : ∀ W, (callFunc 34 #[.int .u64 18442240474082181120]).run Tryz.prog W = .ok (.value (.float .f64 18442240474082181120)) W := fun W => fb_run 18442240474082181120 W
  go_enter Tryz.func37, Tryz.ntmps37
  go_wp2
  go_ret
  exact ⟨rfl, rfl⟩

set_option maxRecDepth 100000 in
theorem isNaN_no (x : Nat) (w : World) (hx : mgN 11 52 x ≤ ifN 11 52) : Calls Tryz.prog 83 #[.float .f64 x] w fun en w' => en = .returned (.bool false) ∧ w = w' := by
  have e := cmp_words hx hx .eq
  rw [show decide (cmI (plI 11 52 x) (plI 11 52 x) = .eq) = true by unfold cmI; simp] at e
  have e2 : (FloatKind.f64.format.order x x != some .eq) = false := by unfold bne; rw [e]; rfl
  clear hx
  go_enter Tryz.func83, Tryz.ntmps83
  go_wp2
  go_ret
  exact ⟨by simp, rfl⟩

set_option maxRecDepth 100000 in
theorem copyOne (y : Nat) (r : Nat) (w : World) (h : bits BinOp.or IntKind.u64 (bits BinOp.andNot IntKind.u64 (1 : Int) 9223372036854775808) (bits BinOp.and IntKind.u64 (y : Int) 9223372036854775808) = (r : Int)) :
    Calls Tryz.prog 85 #[.float .f64 1, .float .f64 y] w fun en w' => en = .returned (.float .f64 r) ∧ w = w' := by
  have hfb := fb_run
  have hbf := bf_run
  go_enter Tryz.func85, Tryz.ntmps85
  go_wp2
  go_ret
  exact ⟨by simp, rfl⟩

/-- A double's place, in words. -/
theorem pl_word {a : Nat} (ha : a < 18446744073709551616) : a = mgN 11 52 a + (if sgB 11 52 a = true then 9223372036854775808 else 0) ∧ mgN 11 52 a < 9223372036854775808 := by
  have h1 := mg_eq (e := 11) (f := 52) (b := a) (by rw [pw_all]; exact ha)
  have h2 := mg_lt 11 52 a
  rw [pw_double] at h1 h2
  exact ⟨h1, h2⟩

/-- What Nextafter upward, downward answers. -/
def nuW (a : Nat) : Nat := if plI 11 52 a = 9218868437227405312 then a else if mgN 11 52 a = 0 then 1 else if sgB 11 52 a = true then a - 1 else a + 1

def ndW (a : Nat) : Nat := if plI 11 52 a = -9218868437227405312 then a else if mgN 11 52 a = 0 then 9223372036854775809 else if sgB 11 52 a = true then a + 1 else a - 1

set_option maxRecDepth 100000 in
set_option maxHeartbeats 2000000 in
theorem nextUp_any (a : Nat) (w : World) (ha : a < 18446744073709551616) (hn : mgN 11 52 a ≤ ifN 11 52) :
    Calls Tryz.prog 36 #[.float .f64 a, .float .f64 pInf] w fun en w' => en = .returned (.float .f64 (nuW a)) ∧ w = w' := by
  have cN := fun W => isNaN_no a W hn
  have cP := fun W => isNaN_no pInf W pInf_is.1
  have o1 := cmp_words hn pInf_is.1 .eq
  have o2 := cmp_words hn zero_is.1 .eq
  have o3 := cmp_words pInf_is.1 hn .gt
  have o4 := cmp_words hn zero_is.1 .gt
  rw [pInf_is.2] at o1 o3
  rw [zero_is.2] at o2 o4
  have hk : plI 11 52 a = if sgB 11 52 a = true then -(mgN 11 52 a : Int) else (mgN 11 52 a : Int) := rfl
  obtain ⟨k1, k2⟩ := pl_word ha
  rw [if_double] at hn
  have hfb := fb_run
  have hbf := bf_run
  unfold nuW
  generalize plI 11 52 a = K at *
  generalize mgN 11 52 a = M at *
  generalize sgB 11 52 a = s at *
  by_cases h1 : K = 9218868437227405312
  · rw [if_pos h1]
    rw [decide_eq_true (by unfold cmI; rw [if_neg (by omega), if_pos h1])] at o1
    clear o2 o3 o4 hk k1 k2 hn h1
    go_enter Tryz.func36, Tryz.ntmps36
    go_wp2_with (first | (go_at_call 83; (with_reducible refine (cN _).mono ?_); rintro en w1 ⟨rfl, rfl⟩) | (go_at_call 83; (with_reducible refine (cP _).mono ?_); rintro en w1 ⟨rfl, rfl⟩))
    go_ret
    exact ⟨rfl, rfl⟩
  · rw [if_neg h1]
    rw [decide_eq_false (by unfold cmI; rw [if_neg h1]; split <;> simp)] at o1
    by_cases h2 : M = 0
    · rw [if_pos h2]
      have hK : K = 0 := by rw [hk, h2]; split <;> rfl
      rw [decide_eq_true (by unfold cmI; rw [hK]; rfl)] at o2
      have cC := fun W => copyOne pInf 1 W (by decide +kernel)
      have hf1 : ∀ W, (callFunc 34 #[.int .u64 1]).run Tryz.prog W = .ok (.value (.float .f64 1)) W := fun W => fb_run 1 W
      clear o3 o4 hk k1 k2 hn h1 h2 hK
      go_enter Tryz.func36, Tryz.ntmps36
      go_wp2_with (first | (go_at_call 83; (with_reducible refine (cN _).mono ?_); rintro en w1 ⟨rfl, rfl⟩) | (go_at_call 83; (with_reducible refine (cP _).mono ?_); rintro en w1 ⟨rfl, rfl⟩) | (go_at_call 85; (with_reducible refine (cC _).mono ?_); rintro en w1 ⟨rfl, rfl⟩))
      go_ret
      exact ⟨rfl, rfl⟩
    · rw [if_neg h2]
      have hK0 : K ≠ 0 := by rw [hk]; split <;> omega
      rw [decide_eq_false (by unfold cmI; rw [if_neg hK0]; split <;> simp)] at o2
      have hlt : K < 9218868437227405312 := by rw [hk]; rw [hk] at h1; split <;> (rename_i hs; simp only [hs, if_true, if_false, Bool.false_eq_true] at h1; omega)
      rw [decide_eq_true (by unfold cmI; rw [if_neg (by omega), if_neg (by omega)])] at o3
      cases s
      · simp only [Bool.false_eq_true, if_false] at hk k1 ⊢
        rw [decide_eq_true (by unfold cmI; rw [if_neg (by omega), if_neg (by omega)])] at o4
        have hw : IntKind.u64.wrap ((a : Int) + 1) = ((a + 1 : Nat) : Int) := by rw [IntKind.wrap_u64]; omega
        generalize a + 1 = z at *
        clear hk k1 k2 hn h1 h2 hK0 hlt
        go_enter Tryz.func36, Tryz.ntmps36
        go_wp2_with (first | (go_at_call 83; (with_reducible refine (cN _).mono ?_); rintro en w1 ⟨rfl, rfl⟩) | (go_at_call 83; (with_reducible refine (cP _).mono ?_); rintro en w1 ⟨rfl, rfl⟩))
        go_ret
        exact ⟨rfl, rfl⟩
      · simp only [if_true] at hk k1 ⊢
        rw [decide_eq_false (by unfold cmI; rw [if_pos (by omega)]; simp)] at o4
        have hw : IntKind.u64.wrap ((a : Int) - 1) = ((a - 1 : Nat) : Int) := by rw [IntKind.wrap_u64]; omega
        clear hk k1 k2 hn h1 h2 hK0 hlt
        go_enter Tryz.func36, Tryz.ntmps36
        go_wp2_with (first | (go_at_call 83; (with_reducible refine (cN _).mono ?_); rintro en w1 ⟨rfl, rfl⟩) | (go_at_call 83; (with_reducible refine (cP _).mono ?_); rintro en w1 ⟨rfl, rfl⟩))
        go_ret
        exact ⟨rfl, rfl⟩

set_option maxRecDepth 100000 in
set_option maxHeartbeats 2000000 in
theorem nextDn_any (a : Nat) (w : World) (ha : a < 18446744073709551616) (hn : mgN 11 52 a ≤ ifN 11 52) :
    Calls Tryz.prog 36 #[.float .f64 a, .float .f64 nInf] w fun en w' => en = .returned (.float .f64 (ndW a)) ∧ w = w' := by
  have cN := fun W => isNaN_no a W hn
  have cP := fun W => isNaN_no nInf W nInf_is.1
  have o1 := cmp_words hn nInf_is.1 .eq
  have o2 := cmp_words hn zero_is.1 .eq
  have o3 := cmp_words nInf_is.1 hn .gt
  have o4 := cmp_words hn zero_is.1 .gt
  rw [nInf_is.2] at o1 o3
  rw [zero_is.2] at o2 o4
  have hk : plI 11 52 a = if sgB 11 52 a = true then -(mgN 11 52 a : Int) else (mgN 11 52 a : Int) := rfl
  obtain ⟨k1, k2⟩ := pl_word ha
  rw [if_double] at hn
  have hfb := fb_run
  have hbf := bf_run
  unfold ndW
  generalize plI 11 52 a = K at *
  generalize mgN 11 52 a = M at *
  generalize sgB 11 52 a = s at *
  by_cases h1 : K = -9218868437227405312
  · rw [if_pos h1]
    rw [decide_eq_true (by unfold cmI; rw [if_neg (by omega), if_pos h1])] at o1
    clear o2 o3 o4 hk k1 k2 hn h1
    go_enter Tryz.func36, Tryz.ntmps36
    go_wp2_with (first | (go_at_call 83; (with_reducible refine (cN _).mono ?_); rintro en w1 ⟨rfl, rfl⟩) | (go_at_call 83; (with_reducible refine (cP _).mono ?_); rintro en w1 ⟨rfl, rfl⟩))
    go_ret
    exact ⟨rfl, rfl⟩
  · rw [if_neg h1]
    rw [decide_eq_false (by unfold cmI; rw [if_neg h1]; split <;> simp)] at o1
    by_cases h2 : M = 0
    · rw [if_pos h2]
      have hK : K = 0 := by rw [hk, h2]; split <;> rfl
      rw [decide_eq_true (by unfold cmI; rw [hK]; rfl)] at o2
      have cC := fun W => copyOne nInf 9223372036854775809 W (by decide +kernel)
      have hf1 : ∀ W, (callFunc 34 #[.int .u64 1]).run Tryz.prog W = .ok (.value (.float .f64 1)) W := fun W => fb_run 1 W
      clear o3 o4 hk k1 k2 hn h1 h2 hK
      go_enter Tryz.func36, Tryz.ntmps36
      go_wp2_with (first | (go_at_call 83; (with_reducible refine (cN _).mono ?_); rintro en w1 ⟨rfl, rfl⟩) | (go_at_call 83; (with_reducible refine (cP _).mono ?_); rintro en w1 ⟨rfl, rfl⟩) | (go_at_call 85; (with_reducible refine (cC _).mono ?_); rintro en w1 ⟨rfl, rfl⟩))
      go_ret
      exact ⟨rfl, rfl⟩
    · rw [if_neg h2]
      have hK0 : K ≠ 0 := by rw [hk]; split <;> omega
      rw [decide_eq_false (by unfold cmI; rw [if_neg hK0]; split <;> simp)] at o2
      have hlt : -9218868437227405312 < K := by rw [hk]; rw [hk] at h1; split <;> (rename_i hs; simp only [hs, if_true, if_false, Bool.false_eq_true] at h1; omega)
      rw [decide_eq_false (by unfold cmI; rw [if_pos (by omega)]; simp)] at o3
      cases s
      · simp only [Bool.false_eq_true, if_false] at hk k1 ⊢
        rw [decide_eq_true (by unfold cmI; rw [if_neg (by omega), if_neg (by omega)])] at o4
        have hw : IntKind.u64.wrap ((a : Int) - 1) = ((a - 1 : Nat) : Int) := by rw [IntKind.wrap_u64]; omega
        generalize a - 1 = z at *
        clear hk k1 k2 hn h1 h2 hK0 hlt
        go_enter Tryz.func36, Tryz.ntmps36
        go_wp2_with (first | (go_at_call 83; (with_reducible refine (cN _).mono ?_); rintro en w1 ⟨rfl, rfl⟩) | (go_at_call 83; (with_reducible refine (cP _).mono ?_); rintro en w1 ⟨rfl, rfl⟩))
        go_ret
        exact ⟨rfl, rfl⟩
      · simp only [if_true] at hk k1 ⊢
        rw [decide_eq_false (by unfold cmI; rw [if_pos (by omega)]; simp)] at o4
        have hw : IntKind.u64.wrap ((a : Int) + 1) = ((a + 1 : Nat) : Int) := by rw [IntKind.wrap_u64]; omega
        generalize a + 1 = z at *
        clear hk k1 k2 hn h1 h2 hK0 hlt
        go_enter Tryz.func36, Tryz.ntmps36
        go_wp2_with (first | (go_at_call 83; (with_reducible refine (cN _).mono ?_); rintro en w1 ⟨rfl, rfl⟩) | (go_at_call 83; (with_reducible refine (cP _).mono ?_); rintro en w1 ⟨rfl, rfl⟩))
        go_ret
        exact ⟨rfl, rfl⟩

theorem unary_neg_float (k : FloatKind) (b : Nat) : Op.unary .neg (.float k b) = pure (.float k (Op.negFloat k b)) := rfl

set_option maxRecDepth 100000 in
set_option maxHeartbeats 2000000 in
attribute [local go_sem] unary_neg_float in

theorem isInf_any (a : Nat) (g : Bool) (w : World) (ha : a < 18446744073709551616) (hn : mgN 11 52 a ≤ ifN 11 52) :
    Calls Tryz.prog 39 #[.float .f64 a, .int .i64 (if g = true then -1 else 1)] w fun en w' => en = .returned (.bool (decide (plI 11 52 a = if g = true then -9218868437227405312 else 9218868437227405312))) ∧ w = w' := by
  have hk : plI 11 52 a = if sgB 11 52 a = true then -(mgN 11 52 a : Int) else (mgN 11 52 a : Int) := rfl
  cases g
  · simp only [Bool.false_eq_true, if_false]
    have o := cmp_words hn most_is.1 .gt
    rw [most_is.2] at o
    have e : decide (cmI (plI 11 52 a) 9218868437227405311 = .gt) = decide (plI 11 52 a = 9218868437227405312) := by
      refine decide_eq_decide.2 ?_
      rw [if_double] at hn
      have hle : plI 11 52 a ≤ 9218868437227405312 := by rw [hk]; split <;> omega
      unfold cmI
      split
      · simp; omega
      · split
        · simp; omega
        · simp; omega
    rw [e] at o
    clear hk hn e
    generalize decide (plI 11 52 a = 9218868437227405312) = r at *
    go_enter Tryz.func39, Tryz.ntmps39
    go_wp2
    go_ret
    exact ⟨rfl, rfl⟩
  · simp only [if_true]
    obtain ⟨b, hb⟩ : ∃ b : Nat, Op.negFloat .f64 a = b := ⟨_, rfl⟩
    have hfl : b = flN 11 52 a := by
      rw [← hb]
      show a ^^^ 2 ^ 63 = _
      unfold flN
      rw [pw_double]
      exact xor_turn (k := 63) (by omega)
    obtain ⟨f1, f2, f3, _, _⟩ := fl_bits (e := 11) (f := 52) (b := a) (by rw [pw_all]; exact ha)
    have hp := fl_pl (e := 11) (f := 52) (b := a) (by rw [pw_all]; exact ha)
    rw [← hfl] at f1 f2 f3 hp
    have hnb : mgN 11 52 b ≤ ifN 11 52 := by rw [f3]; exact hn
    have o := cmp_words hnb most_is.1 .gt
    rw [most_is.2, hp] at o
    have e : decide (cmI (-plI 11 52 a) 9218868437227405311 = .gt) = decide (plI 11 52 a = -9218868437227405312) := by
      refine decide_eq_decide.2 ?_
      rw [if_double] at hn
      have hle : -9218868437227405312 ≤ plI 11 52 a := by rw [hk]; split <;> omega
      unfold cmI
      split
      · simp; omega
      · split
        · simp; omega
        · simp; omega
    rw [e] at o
    clear hk hn e hfl f1 f2 f3 hp hnb
    generalize decide (plI 11 52 a = -9218868437227405312) = r at *
    go_enter Tryz.func39, Tryz.ntmps39
    go_wp2
    go_ret
    exact ⟨rfl, rfl⟩

set_option maxRecDepth 100000 in
theorem signbit_any (a : Nat) (w : World) (ha : a < 18446744073709551616) : Calls Tryz.prog 38 #[.float .f64 a] w fun en w' => en = .returned (.bool (decide (9223372036854775808 ≤ a))) ∧ w = w' := by
  have hbf := bf_run
  by_cases h : 9223372036854775808 ≤ a
  · have hw : wrap64 (a : Int) = (a : Int) - 18446744073709551616 := by rw [← IntWalk.i64_left, IntKind.wrap_i64]; omega
    have hl : (a : Int) - 18446744073709551616 < 0 := by omega
    rw [decide_eq_true h]
    clear h
    go_enter Tryz.func38, Tryz.ntmps38
    go_wp2
    go_ret
    exact ⟨by simp, rfl⟩
  · have hw : wrap64 (a : Int) = (a : Int) := by rw [← IntWalk.i64_left, IntKind.wrap_i64]; omega
    have hl : ¬ (a : Int) < 0 := by omega
    rw [decide_eq_false h]
    clear h
    go_enter Tryz.func38, Tryz.ntmps38
    go_wp2
    go_ret
    exact ⟨by simp, rfl⟩

end Go.Proofs.YtfjgmpfpadfknaaGreatDoor

