/-
  math.Trunc of any finite double: its word (tcN), by the model's own extern.
-/
import Derived.Laws.Externs
import Derived.WalkLawsBesides
import Derived.Test.YtaddnoneoflimaaGreatDoorQTwBase
import Derived.Test.YtaddnoneoflimaaGreatDoorQZFlW
namespace Go.Proofs.YtaddnoneoflimaaGreatDoor

open Go.RowKit Go.Lb

/-- The word that math.Trunc answers of a number. -/
def tcN (b : Nat) : Nat := FloatKind.f64.encode ((FloatKind.f64.decode b).integral .zero)

theorem dec_fin {b : Nat} (hx : exN 11 52 b ≠ maskN 11) : FloatKind.f64.decode b = .number (sgB 11 52 b) (vN 11 52 b) (vX 11 52 b) :=
  (read_is 11 52 b (by decide)).trans (if_neg hx)

theorem toIntegral_num {b : Nat} {s : Bool} {m : Nat} {i : Int} (h : FloatKind.f64.decode b = .number s m i) (name : String) :
    Extern.MathFloor.toIntegral name .zero #[.float .f64 b] = pure (.float .f64 (FloatKind.f64.encode ((Ieee.Datum.number s m i).integral .zero))) := by
  show (match FloatKind.f64.decode b with
    | .nan _ _ => _
    | d => (pure (Value.float FloatKind.f64 (FloatKind.f64.encode (d.integral Ieee.Toward.zero))) : Sem Value)) = _
  rw [h]

theorem arch_fin {b : Nat} (W : World) (hx : exN 11 52 b ≠ maskN 11) : (callFunc 128 #[.float .f64 b]).run Tryz.prog W = .ok (.value (.float .f64 (tcN b))) W :=
  (run_callFunc_extern Tryz.func128 (by kernel_rfl) (by kernel_rfl) (by kernel_rfl) (e := Extern.MathFloor.toIntegral "math.archTrunc" .zero) (by kernel_rfl) _ W).trans (by
    have h := dec_fin hx
    unfold tcN
    rw [toIntegral_num h, h]
    rfl)

theorem mathTrunc_fin {b : Nat} (w : World) (hx : exN 11 52 b ≠ maskN 11) :
    Calls Tryz.prog 25 #[.float .f64 b] w fun e w' => e = .returned (.float .f64 (tcN b)) ∧ w = w' := by
  have h := fun W => arch_fin (b := b) W hx
  generalize tcN b = c at *
  clear hx
  go_enter Tryz.func25, Tryz.ntmps25
  go_wp2
  go_ret
  exact ⟨rfl, rfl⟩

/-- What stands between two ends, and the whole number that comes of it. -/
theorem trunc_stand {b : Nat} (hx : exN 11 52 b ≠ maskN 11) : ∃ m i, FloatKind.f64.decode (tcN b) = .number (sgB 11 52 b) m i ∧
    dQ (sgB 11 52 b) m i = ((sgZ (sgB 11 52 b) (upN (vN 11 52 b) (vX 11 52 b) / upD (vX 11 52 b)) : Int) : Rat) := trunc_word (E := 11) (F := 52) (by decide) (by decide) hx

/-- The whole number that a double is cut to. -/
def tzN (b : Nat) : Int := sgZ (sgB 11 52 b) (upN (vN 11 52 b) (vX 11 52 b) / upD (vX 11 52 b))

theorem tc_order {b : Nat} (hx : exN 11 52 b ≠ maskN 11) {c : Nat} {s : Bool} {m : Nat} {i C : Int} (hc : FloatKind.f64.format.read c = .number s m i) (hC : dQ s m i = ((C : Int) : Rat)) :
    (FloatKind.f64.format.order (tcN b) c == some .lt) = decide (tzN b < C) ∧ (FloatKind.f64.format.order (tcN b) c == some .gt || FloatKind.f64.format.order (tcN b) c == some .eq) = decide (C ≤ tzN b) := by
  obtain ⟨m1, i1, h1, h2⟩ := trunc_stand hx
  have e : FloatKind.f64.format.order (tcN b) c = (Ieee.Datum.number (sgB 11 52 b) m1 i1).order (.number s m i) := by
    unfold Ieee.Format.order
    rw [hc, ← h1]
    rfl
  rw [e, ord_lt, ord_ge, h2, hC]
  constructor
  · rw [decide_eq_decide]
    exact Rat.intCast_lt_intCast
  · rw [decide_eq_decide]
    exact Rat.intCast_le_intCast

theorem dq_const (s : Bool) (m k : Nat) (C : Int) (h : sgZ s m * ((2 ^ k : Nat) : Int) = C) : dQ s m (k : Int) = ((C : Int) : Rat) := by
  unfold dQ
  rw [p2_cast, ← Rat.intCast_mul, h]

theorem ends_read : FloatKind.f64.format.read 14114281232179134464 = .number true 4503599627370496 11 ∧ FloatKind.f64.format.read 4890909195324358656 = .number false 4503599627370496 11 ∧ FloatKind.f64.format.read 4895412794951729152 = .number false 4503599627370496 12 ∧ FloatKind.f64.format.read 0 = .number false 0 (-1074) := by decide +kernel

/-- Cut's four comparisons. -/
theorem cut_ends {b : Nat} (hx : exN 11 52 b ≠ maskN 11) :
    (FloatKind.f64.format.order (tcN b) 14114281232179134464 == some .gt || FloatKind.f64.format.order (tcN b) 14114281232179134464 == some .eq) = decide (-9223372036854775808 ≤ tzN b) ∧
    (FloatKind.f64.format.order (tcN b) 4890909195324358656 == some .lt) = decide (tzN b < 9223372036854775808) ∧
    (FloatKind.f64.format.order (tcN b) 0 == some .gt || FloatKind.f64.format.order (tcN b) 0 == some .eq) = decide (0 ≤ tzN b) ∧
    (FloatKind.f64.format.order (tcN b) 4895412794951729152 == some .lt) = decide (tzN b < 18446744073709551616) := by
  obtain ⟨r1, r2, r3, r4⟩ := ends_read
  refine ⟨(tc_order hx r1 (dq_const true _ 11 _ (by decide))).2, (tc_order hx r2 (dq_const false _ 11 _ (by decide))).1, (tc_order hx r4 ?_).2, (tc_order hx r3 (dq_const false _ 12 _ (by decide))).1⟩
  unfold dQ
  rw [show sgZ false 0 = 0 from rfl, Rat.intCast_zero, Rat.zero_mul]

theorem cut_int {b : Nat} (hx : exN 11 52 b ≠ maskN 11) : (FloatKind.f64.decode (tcN b)).toInt .zero = some (tzN b) := by
  obtain ⟨m1, i1, h1, h2⟩ := trunc_stand hx
  rw [h1]
  exact toInt_whole h2

end Go.Proofs.YtaddnoneoflimaaGreatDoor

