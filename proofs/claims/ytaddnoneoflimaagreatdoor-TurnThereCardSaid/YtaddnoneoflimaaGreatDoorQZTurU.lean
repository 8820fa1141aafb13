/-
  math.Trunc of any double, be it infinite or no number; any single widened into a double; what Cut's comparisons say.
-/
import Derived.Test.YtaddnoneoflimaaGreatDoorQTwBase
import Derived.Test.YtaddnoneoflimaaGreatDoorQZFlX
import Derived.Test.YtaddnoneoflimaaGreatDoorQZTurT
namespace Go.Proofs.YtaddnoneoflimaaGreatDoor

open Go.RowKit Go.Lb

/-- Is a float finite? -/
def finB (E F b : Nat) : Bool := decide (exN E F b ≠ maskN E)

/-- The whole number that a float is cut to. -/
def tzV (E F b : Nat) : Int := sgZ (sgB E F b) (upN (vN E F b) (vX E F b) / upD (vX E F b))

theorem tzV_is (b : Nat) : tzV 11 52 b = tzN b := rfl

theorem num_ex {E F c : Nat} {s : Bool} {m : Nat} {i : Int} (hE : 2 ≤ E) (h : (Ieee.Format.mk E F).read c = .number s m i) : exN E F c ≠ maskN E ∧ sgB E F c = s ∧ vN E F c = m ∧ vX E F c = i := by
  rw [read_is E F c hE] at h
  by_cases hx : exN E F c = maskN E
  · rw [if_pos hx] at h
    split at h <;> cases h
  · rw [if_neg hx] at h
    cases h
    exact ⟨hx, rfl, rfl, rfl⟩

theorem ex_of_nonum {E F c : Nat} (hE : 2 ≤ E) (h : ∀ s m i, (Ieee.Format.mk E F).read c ≠ .number s m i) : exN E F c = maskN E := by
  by_cases hx : exN E F c = maskN E
  · exact hx
  · exact absurd ((read_is E F c hE).trans (if_neg hx)) (h _ _ _)

theorem nonum_of_rung {c : Nat} (h : 9218868437227405312 ≤ c % 9223372036854775808) : ∀ s m i, FloatKind.f64.format.read c ≠ .number s m i := by
  intro s m i hr
  have e : FloatKind.f64.format.read c = (Ieee.Format.mk 11 52).read c := rfl
  rw [e] at hr
  unfold Ieee.Format.read Ieee.Format.signWeight Ieee.Format.binade Ieee.Format.infRung Ieee.Format.leastPlace Ieee.Format.binade at hr
  simp only at hr
  have e1 : 2 ^ (11 + 52) = 9223372036854775808 := by decide
  have e2 : (2 ^ 11 - 1) * 2 ^ 52 = 9218868437227405312 := by decide
  have e3 : 2 ^ 52 = 4503599627370496 := by decide
  rw [e1, e2, e3, if_neg (by omega), if_neg (by omega)] at hr
  split at hr <;> cases hr

theorem top_word (s : Bool) (x : Nat) (hx : x < 4503599627370496) : 9218868437227405312 ≤ (Ieee.Format.mk 11 52).word s ((Ieee.Format.mk 11 52).infRung + x) % 9223372036854775808 := by
  have e2 : (Ieee.Format.mk 11 52).infRung = 9218868437227405312 := by decide
  have h := (word_read (E := 11) (F := 52) (R := 9218868437227405312 + x) s (by have e1 : 2 ^ (11 + 52) = 9223372036854775808 := by decide
                                                                                omega)).2
  rw [show 2 ^ (11 + 52) = 9223372036854775808 from by decide] at h
  rw [e2, h]
  omega

/-- Cut's comparisons, of a word that is no number. -/
theorem nonum_ends {c : Nat} (h : ∀ s m i, FloatKind.f64.format.read c ≠ .number s m i) :
    ((FloatKind.f64.format.order c 14114281232179134464 == some .gt || FloatKind.f64.format.order c 14114281232179134464 == some .eq) = false ∨ (FloatKind.f64.format.order c 4890909195324358656 == some .lt) = false) ∧
    ((FloatKind.f64.format.order c 0 == some .gt || FloatKind.f64.format.order c 0 == some .eq) = false ∨ (FloatKind.f64.format.order c 4895412794951729152 == some .lt) = false) := by
  obtain ⟨r1, r2, r3, r4⟩ := ends_read
  have ho : ∀ k s m i, FloatKind.f64.format.read k = .number s m i → FloatKind.f64.format.order c k = (FloatKind.f64.format.read c).order (.number s m i) := fun k s m i hk => by
    unfold Ieee.Format.order
    rw [hk]
  rw [ho _ _ _ _ r1, ho _ _ _ _ r2, ho _ _ _ _ r3, ho _ _ _ _ r4]
  generalize FloatKind.f64.format.read c = d at h
  cases d with
  | number s m i => exact absurd rfl (h s m i)
  | infinity s => cases s <;> exact ⟨by decide, by decide⟩
  | nan s t => exact ⟨.inl rfl, .inl rfl⟩

/-- What math.Trunc answers. -/
structure Tc (b c : Nat) : Prop where
  fin : exN 11 52 b ≠ maskN 11 → c = tcN b
  non : exN 11 52 b = maskN 11 → ∀ s m i, FloatKind.f64.format.read c ≠ .number s m i

theorem toIntegral_is (b : Nat) (name : String) : Extern.MathFloor.toIntegral name .zero #[.float .f64 b] =
    (match FloatKind.f64.decode b with
    | .nan s t =>
      if FloatKind.f64.format.quiet t = t then pure (Value.float FloatKind.f64 b) else do
        let kept ← choose (.extern "math.Floor,Ceil,Trunc,RoundToEven.signallingNaN kept" 2)
        pure (Value.float FloatKind.f64 (if kept == 1 then b else FloatKind.f64.encode (.nan s (FloatKind.f64.format.quiet t))))
    | d => (pure (Value.float FloatKind.f64 (FloatKind.f64.encode (d.integral Ieee.Toward.zero))) : Sem Value)) := rfl

theorem toIntegral_non {b : Nat} (name : String) (W : World) (hx : exN 11 52 b = maskN 11) :
    ∃ c W', (Extern.MathFloor.toIntegral name .zero #[.float .f64 b]).run Tryz.prog W = .ok (.float .f64 c) W' ∧ Below W.heap.size W W' ∧ ∀ s m i, FloatKind.f64.format.read c ≠ .number s m i := by
  have hr : FloatKind.f64.decode b = (if frN 52 b = 0 then .infinity (sgB 11 52 b) else .nan (sgB 11 52 b) (frN 52 b)) := (read_is 11 52 b (by decide)).trans (if_pos hx)
  generalize sgB 11 52 b = s at hr
  rw [toIntegral_is]
  by_cases h0 : frN 52 b = 0
  · rw [if_pos h0] at hr
    refine ⟨FloatKind.f64.encode (.infinity s), W, ?_, Below.refl _ _, nonum_of_rung (top_word s 0 (by decide))⟩
    rw [hr]
    rfl
  · rw [if_neg h0] at hr
    generalize frN 52 b = t at hr
    have hb : ∀ s m i, FloatKind.f64.format.read b ≠ .number s m i := fun s m i h => by
      rw [show FloatKind.f64.format.read b = FloatKind.f64.decode b from rfl, hr] at h
      cases h
    rw [hr]
    by_cases hq : FloatKind.f64.format.quiet t = t
    · refine ⟨b, W, ?_, Below.refl _ _, hb⟩
      simp only
      rw [if_pos hq]
      rfl
    · have hn : ∀ n : Nat, ∀ s1 m i, FloatKind.f64.format.read (if (n == 1) = true then b else FloatKind.f64.encode (.nan s (FloatKind.f64.format.quiet t))) ≠ .number s1 m i := fun n => by
        by_cases h1 : (n == 1) = true
        · rw [if_pos h1]
          exact hb
        · rw [if_neg h1]
          exact nonum_of_rung (top_word s _ (Nat.mod_lt _ (by decide)))
      simp only
      rw [if_neg hq]
      exact ⟨_, W.drew, rfl, (Below.refl _ _).drew, hn _⟩

theorem arch_any (b : Nat) (W : World) : ∃ c W', (callFunc 128 #[.float .f64 b]).run Tryz.prog W = .ok (.value (.float .f64 c)) W' ∧ Below W.heap.size W W' ∧ Tc b c := by
  by_cases hx : exN 11 52 b ≠ maskN 11
  · exact ⟨_, _, arch_fin W hx, Below.refl _ _, ⟨fun _ => rfl, fun h => absurd h hx⟩⟩
  · obtain ⟨c, W', h, hB, hN⟩ := toIntegral_non "math.archTrunc" W (Decidable.not_not.1 hx)
    refine ⟨c, W', (run_callFunc_extern Tryz.func128 (by kernel_rfl) (by kernel_rfl) (by kernel_rfl) (e := Extern.MathFloor.toIntegral "math.archTrunc" .zero) (by kernel_rfl) _ W).trans ?_, hB, ⟨fun h => absurd h hx, fun _ => hN⟩⟩
    rw [h]
    rfl

set_option maxRecDepth 100000 in
theorem mathTrunc_any (b : Nat) (w : World) :
    Calls Tryz.prog 25 #[.float .f64 b] w fun e w' => ∃ c, e = .returned (.float .f64 c) ∧ Below w.heap.size w w' ∧ Tc b c := by
  obtain ⟨c, W, h, hB, hT⟩ := arch_any b w
  have HT := Lib.hid hT
  clear hT
  go_enter Tryz.func25, Tryz.ntmps25
  go_wp2
  go_ret
  exact ⟨c, rfl, hB, HT.out⟩

/-- What Cut sees of a double: a number between the ends, its integer; or none between them. -/
theorem cut_way_s {b c : Nat} (h : Tc b c) :
    ((FloatKind.f64.format.order c 14114281232179134464 == some .gt || FloatKind.f64.format.order c 14114281232179134464 == some .eq) = true ∧ (FloatKind.f64.format.order c 4890909195324358656 == some .lt) = true ∧ (finB 11 52 b = true ∧ -9223372036854775808 ≤ tzV 11 52 b ∧ tzV 11 52 b < 9223372036854775808) ∧ floatToIntVal .f64 c .i64 = some (tzV 11 52 b)) ∨
    ((FloatKind.f64.format.order c 14114281232179134464 == some .gt || FloatKind.f64.format.order c 14114281232179134464 == some .eq) = false ∧ ¬ (finB 11 52 b = true ∧ -9223372036854775808 ≤ tzV 11 52 b ∧ tzV 11 52 b < 9223372036854775808)) ∨
    ((FloatKind.f64.format.order c 14114281232179134464 == some .gt || FloatKind.f64.format.order c 14114281232179134464 == some .eq) = true ∧ (FloatKind.f64.format.order c 4890909195324358656 == some .lt) = false ∧ ¬ (finB 11 52 b = true ∧ -9223372036854775808 ≤ tzV 11 52 b ∧ tzV 11 52 b < 9223372036854775808)) := by
  by_cases hx : exN 11 52 b ≠ maskN 11
  · have hf : finB 11 52 b = true := decide_eq_true hx
    obtain ⟨o1, o2, _, _⟩ := cut_ends hx
    have hi := cut_int hx
    rw [h.fin hx, o1, o2, hf, tzV_is]
    have hv : -9223372036854775808 ≤ tzN b → tzN b < 9223372036854775808 → floatToIntVal .f64 (tcN b) .i64 = some (tzN b) := fun h1 h2 => by
      have e1 : IntKind.i64.min = -9223372036854775808 := by decide
      have e2 : IntKind.i64.max = 9223372036854775807 := by decide
      unfold floatToIntVal
      rw [hi]
      simp only [e1, e2]
      exact if_pos ⟨h1, by omega⟩
    generalize tzN b = t at *
    by_cases h1 : -9223372036854775808 ≤ t
    · by_cases h2 : t < 9223372036854775808
      · exact .inl ⟨decide_eq_true h1, decide_eq_true h2, ⟨rfl, h1, h2⟩, hv h1 h2⟩
      · exact .inr (.inr ⟨decide_eq_true h1, decide_eq_false h2, fun h => h2 h.2.2⟩)
    · exact .inr (.inl ⟨decide_eq_false h1, fun h => h1 h.2.1⟩)
  · have hf : finB 11 52 b = false := decide_eq_false hx
    have hn := (nonum_ends (h.non (Decidable.not_not.1 hx))).1
    rw [hf]
    generalize (FloatKind.f64.format.order c 14114281232179134464 == some .gt || FloatKind.f64.format.order c 14114281232179134464 == some .eq) = A at *
    generalize (FloatKind.f64.format.order c 4890909195324358656 == some .lt) = B at *
    cases A
    · exact .inr (.inl ⟨rfl, fun h => Bool.noConfusion h.1⟩)
    · rcases hn with hn | hn
      · cases hn
      · exact .inr (.inr ⟨rfl, hn, fun h => Bool.noConfusion h.1⟩)

/-- A single as a double: its word. -/
structure Wd8 (b c : Nat) : Prop where
  fin : finB 11 52 c = finB 8 23 b
  val : finB 8 23 b = true → tzV 11 52 c = tzV 8 23 b

set_option maxRecDepth 100000 in
theorem widen_fin {b : Nat} (hx : exN 8 23 b ≠ maskN 8) : ∃ m j, FloatKind.f64.format.read (FloatKind.f64.encode (FloatKind.f32.decode b)) = .number (sgB 8 23 b) m j ∧ dQ (sgB 8 23 b) m j = dQ (sgB 8 23 b) (vN 8 23 b) (vX 8 23 b) := by
  have hfl := flt_of (F := 23) (b := b) (by decide : 2 ≤ 8) hx
  have h1 := hfl.hr
  have h2 := hfl.he
  have h3 := hfl.hm
  have h4 := hfl.hx
  have hd : FloatKind.f32.decode b = .number (sgB 8 23 b) (vN 8 23 b) (vX 8 23 b) := (read_is 8 23 b (by decide)).trans (if_neg hx)
  rw [hd]
  have hM : vN 8 23 b < 16777216 := by
    have e : (2 : Nat) ^ 23 = 8388608 := by decide
    rw [e] at h3
    split at h3 <;> omega
  have hX : -149 ≤ vX 8 23 b ∧ vX 8 23 b ≤ 104 := by
    have e : bsN 8 = 127 := by decide
    rw [e] at h4 h2
    split at h4 <;> omega
  generalize sgB 8 23 b = s at *
  generalize vN 8 23 b = M at *
  generalize vX 8 23 b = X at *
  by_cases h0 : M = 0
  · subst h0
    obtain ⟨m, i, r1, r2⟩ := nil_word 11 52 s X
    refine ⟨m, i, r1, r2.trans ?_⟩
    unfold dQ
    rw [show sgZ s 0 = 0 by cases s <;> rfl, Rat.intCast_zero, Rat.zero_mul]
  · have hl : M.log2 < 24 := (Nat.log2_lt h0).2 (by omega)
    have e10 : (2 : Int) ^ (11 - 1) = 1024 := by decide +kernel
    refine write_exact (E := 11) (F := 52) s (by decide) h0 (by rw [e10]; omega) (.inl ?_)
    unfold plN
    rw [e10]
    omega

set_option maxRecDepth 100000 in
theorem widen_any (b : Nat) (src dst : TypeId) (W : World) (hs : (Tryz.prog.underlying src).isSome = true) (hd : Tryz.prog.underlying dst = some (.float .f64)) :
    ∃ c W', (convert src dst (.float .f32 b)).run Tryz.prog W = .ok (.float .f64 c) W' ∧ Below W.heap.size W W' ∧ Wd8 b c := by
  obtain ⟨u, hs'⟩ := Option.isSome_iff_exists.1 hs
  have ne : FloatKind.f32 ≠ FloatKind.f64 := by decide
  by_cases hx : exN 8 23 b ≠ maskN 8
  · obtain ⟨m, j, h1, h2⟩ := widen_fin hx
    have hd2 : FloatKind.f32.decode b = .number (sgB 8 23 b) (vN 8 23 b) (vX 8 23 b) := (read_is 8 23 b (by decide)).trans (if_neg hx)
    obtain ⟨n1, n2, n3, n4⟩ := num_ex (E := 11) (F := 52) (by decide) h1
    refine ⟨_, W, run_convert_float_float W src dst .f32 .f64 b (FloatKind.f64.encode (FloatKind.f32.decode b)) hs hd ?_, Below.refl _ _, ⟨?_, fun _ => ?_⟩⟩
    · unfold floatToFloatBits
      rw [if_neg ne, hd2]
      simp only
      rw [← hd2]
      rw [if_neg]
      rw [show FloatKind.f64.decode (FloatKind.f64.encode (FloatKind.f32.decode b)) = _ from h1]
      exact Bool.false_ne_true
    · unfold finB
      rw [decide_eq_true n1, decide_eq_true hx]
    · unfold tzV
      rw [n2, n3, n4, cut_same h2]
  · have hx1 : exN 8 23 b = maskN 8 := Decidable.not_not.1 hx
    have hr : FloatKind.f32.decode b = (if frN 23 b = 0 then .infinity (sgB 8 23 b) else .nan (sgB 8 23 b) (frN 23 b)) := (read_is 8 23 b (by decide)).trans (if_pos hx1)
    have fin : ∀ {c}, (∀ s m i, FloatKind.f64.format.read c ≠ .number s m i) → Wd8 b c := fun {c} h => by
      have h1 := ex_of_nonum (E := 11) (F := 52) (by decide) h
      have f0 : finB 8 23 b = false := decide_eq_false hx
      exact ⟨by rw [f0]; exact decide_eq_false (fun h => h h1), fun h => by rw [f0] at h; cases h⟩
    generalize sgB 8 23 b = s at hr
    by_cases h0 : frN 23 b = 0
    · rw [if_pos h0] at hr
      refine ⟨_, W, run_convert_float_float W src dst .f32 .f64 b (FloatKind.f64.encode (.infinity s)) hs hd ?_, Below.refl _ _, fin (nonum_of_rung (top_word s 0 (by decide)))⟩
      unfold floatToFloatBits
      rw [if_neg ne, hr]
    · rw [if_neg h0] at hr
      generalize frN 23 b = t at hr
      have hn : ∀ n : Nat, ∀ s m i, FloatKind.f64.format.read ((n % 2) * 2 ^ 63 + 0x7ff0000000000000 + 1 + (n / 2) % (2 ^ 52 - 1)) ≠ .number s m i := fun n => nonum_of_rung (by
        have e1 : (2 : Nat) ^ 63 = 9223372036854775808 := by decide
        have e2 : (2 : Nat) ^ 52 - 1 = 4503599627370495 := by decide
        rw [e1, e2]
        rcases Nat.mod_two_eq_zero_or_one n with h | h <;> rw [h] <;> omega)
      refine ⟨_, W.drew, ?_, (Below.refl _ _).drew, fin (hn (W.tape W.drawn (.nanConv .f64 b)))⟩
      cases u <;> simp [convert, run_underlying hs', run_underlying hd, Conv.floatToFloat, ne, hr] <;> rfl

/-- Does the whole number of a float fit? -/
def cuB (lo hi : Int) (fin : Bool) (t : Int) : Bool := fin && decide (lo ≤ t ∧ t < hi)

/-- What Cut answers. -/
def cuV (lo hi : Int) (fin : Bool) (t : Int) : Int := if cuB lo hi fin t = true then t else 0

theorem cu_yes {lo hi : Int} {fin : Bool} {t : Int} (hf : fin = true) (h1 : lo ≤ t) (h2 : t < hi) : cuB lo hi fin t = true ∧ cuV lo hi fin t = t := by
  have h : cuB lo hi fin t = true := by unfold cuB; rw [hf, decide_eq_true ⟨h1, h2⟩]; rfl
  exact ⟨h, if_pos h⟩

theorem cu_no {lo hi : Int} {fin : Bool} {t : Int} (h : ¬ (fin = true ∧ lo ≤ t ∧ t < hi)) : cuB lo hi fin t = false ∧ cuV lo hi fin t = 0 := by
  have h : cuB lo hi fin t = false := by
    unfold cuB
    cases fin
    · rfl
    · rw [decide_eq_false (fun hh => h ⟨rfl, hh⟩)]
      rfl
  exact ⟨h, if_neg (by rw [h]; exact Bool.false_ne_true)⟩

end Go.Proofs.YtaddnoneoflimaaGreatDoor

