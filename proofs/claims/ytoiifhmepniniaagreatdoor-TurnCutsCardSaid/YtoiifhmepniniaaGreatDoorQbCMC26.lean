/-
  math.Trunc of any double, be it infinite or no number; any single widened into a double; what Cut's comparisons say.
-/
import Derived.Test.YtoiifhmepniniaaGreatDoorQbCMC25
set_option maxHeartbeats 3000000
set_option maxRecDepth 100000
namespace Go.Proofs.YtoiifhmepniniaaGreatDoor
open Go.RowKit Go.Lb
def finB (E F b : Nat) : Bool := decide (exN E F b ≠ maskN E)
def tzV (E F b : Nat) : Int := sgZ (sgB E F b) (upN (vN E F b) (vX E F b) / upD (vX E F b))
theorem tzV_is (b : Nat) : tzV 11 52 b = tzN b := rfl
theorem num_ex {E F c : Nat} {s : Bool} {m : Nat} {i : Int} (hE : 2 ≤ E) (h : (Ieee.Format.mk E F).read c = .number s m i) : exN E F c ≠ maskN E ∧ sgB E F c = s ∧ vN E F c = m ∧ vX E F c = i := by
 rw [read_is E F c hE] at h
 by_cases hx : exN E F c = maskN E
 · rw [if_pos hx] at h
   split at h <;> cases h
 · rw [if_neg hx] at h
   cases h
   exact ⟨hx, rfl, rfl, rfl⟩
theorem ex_of_nonum {E F c : Nat} (hE : 2 ≤ E) (h : ∀ s m i, (Ieee.Format.mk E F).read c ≠ .number s m i) : exN E F c = maskN E := by
 by_cases hx : exN E F c = maskN E
 · exact hx
 · exact absurd ((read_is E F c hE).trans (if_neg hx)) (h _ _ _)
theorem nonum_of_rung {c : Nat} (h : 9218868437227405312 ≤ c % 9223372036854775808) : ∀ s m i, FloatKind.f64.format.read c ≠ .number s m i := by
 intro s m i hr
 have e : FloatKind.f64.format.read c = (Ieee.Format.mk 11 52).read c := rfl
 rw [e] at hr
 unfold Ieee.Format.read Ieee.Format.signWeight Ieee.Format.binade Ieee.Format.infRung Ieee.Format.leastPlace Ieee.Format.binade at hr
 simp only at hr
 have e1 : 2 ^ (11 + 52) = 9223372036854775808 := by decide
 have e2 : (2 ^ 11 - 1) * 2 ^ 52 = 9218868437227405312 := by decide
 have e3 : 2 ^ 52 = 4503599627370496 := by decide
 rw [e1, e2, e3, if_neg (by omega), if_neg (by omega)] at hr
 split at hr <;> cases hr
theorem top_word (s : Bool) (x : Nat) (hx : x < 4503599627370496) : 9218868437227405312 ≤ (Ieee.Format.mk 11 52).word s ((Ieee.Format.mk 11 52).infRung + x) % 9223372036854775808 := by
 have e2 : (Ieee.Format.mk 11 52).infRung = 9218868437227405312 := by decide
 have h := (word_read (E := 11) (F := 52) (R := 9218868437227405312 + x) s (by rw [show 2 ^ (11 + 52) = 9223372036854775808 from by decide]; omega)).2
 rw [show 2 ^ (11 + 52) = 9223372036854775808 from by decide] at h
 rw [e2, h]
 omega
theorem nonum_ends {c : Nat} (h : ∀ s m i, FloatKind.f64.format.read c ≠ .number s m i) :
 ((FloatKind.f64.format.order c 14114281232179134464 == some .gt || FloatKind.f64.format.order c 14114281232179134464 == some .eq) = false ∨ (FloatKind.f64.format.order c 4890909195324358656 == some .lt) = false) ∧
 ((FloatKind.f64.format.order c 0 == some .gt || FloatKind.f64.format.order c 0 == some .eq) = false ∨ (FloatKind.f64.format.order c 4895412794951729152 == some .lt) = false) := by
 obtain ⟨r1, r2, r3, r4⟩ := ends_read
 have ho : ∀ k s m i, FloatKind.f64.format.read k = .number s m i → FloatKind.f64.format.order c k = (FloatKind.f64.format.read c).order (.number s m i) := fun k s m i hk => by
  unfold Ieee.Format.order
  rw [hk]
 rw [ho _ _ _ _ r1, ho _ _ _ _ r2, ho _ _ _ _ r3, ho _ _ _ _ r4]
 generalize FloatKind.f64.format.read c = d at h
 cases d with
 | number s m i => exact absurd rfl (h s m i)
 | infinity s => cases s <;> exact ⟨by decide, by decide⟩
 | nan s t => exact ⟨.inl rfl, .inl rfl⟩
structure Tc (b c : Nat) : Prop where
 fin : exN 11 52 b ≠ maskN 11 → c = tcN b
 non : exN 11 52 b = maskN 11 → ∀ s m i, FloatKind.f64.format.read c ≠ .number s m i
theorem toIntegral_is (b : Nat) (name : String) : Extern.MathFloor.toIntegral name .zero #[.float .f64 b] =
 (match FloatKind.f64.decode b with
 | .nan s t =>
   if FloatKind.f64.format.quiet t = t then pure (Value.float FloatKind.f64 b) else do
    let kept ← choose (.extern "math.Floor,Ceil,Trunc,RoundToEven.signallingNaN kept" 2)
    pure (Value.float FloatKind.f64 (if kept == 1 then b else FloatKind.f64.encode (.nan s (FloatKind.f64.format.quiet t))))
 | d => (pure (Value.float FloatKind.f64 (FloatKind.f64.encode (d.integral Ieee.Toward.zero))) : Sem Value)) := rfl
theorem toIntegral_non {b : Nat} (name : String) (W : World) (hx : exN 11 52 b = maskN 11) :
 ∃ c W', (Extern.MathFloor.toIntegral name .zero #[.float .f64 b]).run Tryz.prog W = .ok (.float .f64 c) W' ∧ Below W.heap.size W W' ∧ ∀ s m i, FloatKind.f64.format.read c ≠ .number s m i := by
 have hr : FloatKind.f64.decode b = (if frN 52 b = 0 then .infinity (sgB 11 52 b) else .nan (sgB 11 52 b) (frN 52 b)) := (read_is 11 52 b (by decide)).trans (if_pos hx)
 generalize sgB 11 52 b = s at hr
 rw [toIntegral_is]
 by_cases h0 : frN 52 b = 0
 · rw [if_pos h0] at hr
   refine ⟨FloatKind.f64.encode (.infinity s), W, ?_, Below.refl _ _, nonum_of_rung (top_word s 0 (by decide))⟩
   rw [hr]
   rfl
 · rw [if_neg h0] at hr
   generalize frN 52 b = t at hr
   have hb : ∀ s m i, FloatKind.f64.format.read b ≠ .number s m i := fun s m i h => by
    rw [show FloatKind.f64.format.read b = FloatKind.f64.decode b from rfl, hr] at h
    cases h
   rw [hr]
   by_cases hq : FloatKind.f64.format.quiet t = t
   · refine ⟨b, W, ?_, Below.refl _ _, hb⟩
     simp only
     rw [if_pos hq]
     rfl
   · have hn : ∀ n : Nat, ∀ s1 m i, FloatKind.f64.format.read (if (n == 1) = true then b else FloatKind.f64.encode (.nan s (FloatKind.f64.format.quiet t))) ≠ .number s1 m i := fun n => by
      by_cases h1 : (n == 1) = true
      · rw [if_pos h1]
        exact hb
      · rw [if_neg h1]
        exact nonum_of_rung (top_word s _ (Nat.mod_lt _ (by decide)))
     simp only
     rw [if_neg hq]
     exact ⟨_, W.drew, rfl, (Below.refl _ _).drew, hn _⟩
theorem arch_any (b : Nat) (W : World) : ∃ c W', (callFunc 132 #[.float .f64 b]).run Tryz.prog W = .ok (.value (.float .f64 c)) W' ∧ Below W.heap.size W W' ∧ Tc b c := by
 by_cases hx : exN 11 52 b ≠ maskN 11
 · exact ⟨_, _, arch_fin W hx, Below.refl _ _, ⟨fun _ => rfl, fun h => absurd h hx⟩⟩
 · obtain ⟨c, W', h, hB, hN⟩ := toIntegral_non "math.archTrunc" W (Decidable.not_not.1 hx)
   refine ⟨c, W', (run_callFunc_extern Tryz.func132 (by kernel_rfl) (by kernel_rfl) (by kernel_rfl) (e := Extern.MathFloor.toIntegral "math.archTrunc" .zero) (by kernel_rfl) _ W).trans ?_, hB, ⟨fun h => absurd h hx, fun _ => hN⟩⟩
   rw [h]
   rfl
theorem mathTrunc_any (b : Nat) (w : World) :
 Calls Tryz.prog 82 #[.float .f64 b] w fun e w' => ∃ c, e = .returned (.float .f64 c) ∧ Below w.heap.size w w' ∧ Tc b c := by
 obtain ⟨c, W, h, hB, hT⟩ := arch_any b w
 have HT := Lib.hid hT
 clear hT
 go_enter Tryz.func82, Tryz.ntmps82
 go_wp2
 go_ret
 exact ⟨c, rfl, hB, HT.out⟩
theorem cut_way_s {b c : Nat} (h : Tc b c) :
 ((FloatKind.f64.format.order c 14114281232179134464 == some .gt || FloatKind.f64.format.order c 14114281232179134464 == some .eq) = true ∧ (FloatKind.f64.format.order c 4890909195324358656 == some .lt) = true ∧ (finB 11 52 b = true ∧ -9223372036854775808 ≤ tzV 11 52 b ∧ tzV 11 52 b < 9223372036854775808) ∧ floatToIntVal .f64 c .i64 = some (tzV 11 52 b)) ∨
 ((FloatKind.f64.format.order c 14114281232179134464 == some .gt || FloatKind.f64.format.order c 14114281232179134464 == some .eq) = false ∧ ¬ (finB 11 52 b = true ∧ -9223372036854775808 ≤ tzV 11 52 b ∧ tzV 11 52 b < 9223372036854775808)) ∨
 ((FloatKind.f64.format.order c 14114281232179134464 == some .gt || FloatKind.f64.format.order c 14114281232179134464 == some .eq) = true ∧ (FloatKind.f64.format.order c 4890909195324358656 == some .lt) = false ∧ ¬ (finB 11 52 b = true ∧ -9223372036854775808 ≤ tzV 11 52 b ∧ tzV 11 52 b < 9223372036854775808)) := by
 by_cases hx : exN 11 52 b ≠ maskN 11
 · have hf : finB 11 52 b = true := decide_eq_true hx
   obtain ⟨o1, o2, _, _⟩ := cut_ends hx
   have hi := cut_int hx
   rw [h.fin hx, o1, o2, hf, tzV_is]
   have hv : -9223372036854775808 ≤ tzN b → tzN b < 9223372036854775808 → floatToIntVal .f64 (tcN b) .i64 = some (tzN b) := fun h1 h2 => by
    have e1 : IntKind.i64.min = -9223372036854775808 := by decide
    have e2 : IntKind.i64.max = 9223372036854775807 := by decide
    unfold floatToIntVal
    rw [hi]
    simp only [e1, e2]
    exact if_pos ⟨h1, by omega⟩
   generalize tzN b = t at *
   by_cases h1 : -9223372036854775808 ≤ t
   · by_cases h2 : t < 9223372036854775808
     · exact .inl ⟨decide_eq_true h1, decide_eq_true h2, ⟨rfl, h1, h2⟩, hv h1 h2⟩
     · exact .inr (.inr ⟨decide_eq_true h1, decide_eq_false h2, fun h => h2 h.2.2⟩)
   · exact .inr (.inl ⟨decide_eq_false h1, fun h => h1 h.2.1⟩)
 · have hf : finB 11 52 b = false := decide_eq_false hx
   have hn := (nonum_ends (h.non (Decidable.not_not.1 hx))).1
   rw [hf]
   generalize (FloatKind.f64.format.order c 14114281232179134464 == some .gt || FloatKind.f64.format.order c 14114281232179134464 == some .eq) = A at *
   generalize (FloatKind.f64.format.order c 4890909195324358656 == some .lt) = B at *
   cases A
   · exact .inr (.inl ⟨rfl, fun h => Bool.noConfusion h.1⟩)
   · rcases hn with hn | hn
     · cases hn
     · exact .inr (.inr ⟨rfl, hn, fun h => Bool.noConfusion h.1⟩)
theorem cut_way_u {b c : Nat} (h : Tc b c) :
 ((FloatKind.f64.format.order c 0 == some .gt || FloatKind.f64.format.order c 0 == some .eq) = true ∧ (FloatKind.f64.format.order c 4895412794951729152 == some .lt) = true ∧ (finB 11 52 b = true ∧ 0 ≤ tzV 11 52 b ∧ tzV 11 52 b < 18446744073709551616) ∧ floatToIntVal .f64 c .u64 = some (tzV 11 52 b)) ∨
 ((FloatKind.f64.format.order c 0 == some .gt || FloatKind.f64.format.order c 0 == some .eq) = false ∧ ¬ (finB 11 52 b = true ∧ 0 ≤ tzV 11 52 b ∧ tzV 11 52 b < 18446744073709551616)) ∨
 ((FloatKind.f64.format.order c 0 == some .gt || FloatKind.f64.format.order c 0 == some .eq) = true ∧ (FloatKind.f64.format.order c 4895412794951729152 == some .lt) = false ∧ ¬ (finB 11 52 b = true ∧ 0 ≤ tzV 11 52 b ∧ tzV 11 52 b < 18446744073709551616)) := by
 by_cases hx : exN 11 52 b ≠ maskN 11
 · have hf : finB 11 52 b = true := decide_eq_true hx
   obtain ⟨_, _, o1, o2⟩ := cut_ends hx
   have hi := cut_int hx
   rw [h.fin hx, o1, o2, hf, tzV_is]
   have hv : 0 ≤ tzN b → tzN b < 18446744073709551616 → floatToIntVal .f64 (tcN b) .u64 = some (tzN b) := fun h1 h2 => by
    have e1 : IntKind.u64.min = 0 := by decide
    have e2 : IntKind.u64.max = 18446744073709551615 := by decide
    unfold floatToIntVal
    rw [hi]
    simp only [e1, e2]
    exact if_pos ⟨h1, by omega⟩
   generalize tzN b = t at *
   by_cases h1 : 0 ≤ t
   · by_cases h2 : t < 18446744073709551616
     · exact .inl ⟨decide_eq_true h1, decide_eq_true h2, ⟨rfl, h1, h2⟩, hv h1 h2⟩
     · exact .inr (.inr ⟨decide_eq_true h1, decide_eq_false h2, fun h => h2 h.2.2⟩)
   · exact .inr (.inl ⟨decide_eq_false h1, fun h => h1 h.2.1⟩)
 · have hf : finB 11 52 b = false := decide_eq_false hx
   have hn := (nonum_ends (h.non (Decidable.not_not.1 hx))).2
   rw [hf]
   generalize (FloatKind.f64.format.order c 0 == some .gt || FloatKind.f64.format.order c 0 == some .eq) = A at *
   generalize (FloatKind.f64.format.order c 4895412794951729152 == some .lt) = B at *
   cases A
   · exact .inr (.inl ⟨rfl, fun h => Bool.noConfusion h.1⟩)
   · rcases hn with hn | hn
     · cases hn
     · exact .inr (.inr ⟨rfl, hn, fun h => Bool.noConfusion h.1⟩)
structure Wd8 (b c : Nat) : Prop where
 fin : finB 11 52 c = finB 8 23 b
 val : finB 8 23 b = true → tzV 11 52 c = tzV 8 23 b
theorem widen_fin {b : Nat} (hx : exN 8 23 b ≠ maskN 8) : ∃ m j, FloatKind.f64.format.read (FloatKind.f64.encode (FloatKind.f32.decode b)) = .number (sgB 8 23 b) m j ∧ dQ (sgB 8 23 b) m j = dQ (sgB 8 23 b) (vN 8 23 b) (vX 8 23 b) := by
 have hfl := flt_of (F := 23) (b := b) (by decide : 2 ≤ 8) hx
 have h1 := hfl.hr
 have h2 := hfl.he
 have h3 := hfl.hm
 have h4 := hfl.hx
 have hd : FloatKind.f32.decode b = .number (sgB 8 23 b) (vN 8 23 b) (vX 8 23 b) := (read_is 8 23 b (by decide)).trans (if_neg hx)
 rw [hd]
 have hM : vN 8 23 b < 16777216 := by
  have e : (2 : Nat) ^ 23 = 8388608 := by decide
  rw [e] at h3
  split at h3 <;> omega
 have hX : -149 ≤ vX 8 23 b ∧ vX 8 23 b ≤ 104 := by
  have e : bsN 8 = 127 := by decide
  rw [e] at h4 h2
  split at h4 <;> omega
 generalize sgB 8 23 b = s at *
 generalize vN 8 23 b = M at *
 generalize vX 8 23 b = X at *
 by_cases h0 : M = 0
 · subst h0
   obtain ⟨m, i, r1, r2⟩ := nil_word 11 52 s X
   refine ⟨m, i, r1, r2.trans ?_⟩
   unfold dQ
   rw [show sgZ s 0 = 0 by cases s <;> rfl, Rat.intCast_zero, Rat.zero_mul]
 · have hl : M.log2 < 24 := (Nat.log2_lt h0).2 (by omega)
   have e10 : (2 : Int) ^ (11 - 1) = 1024 := by decide +kernel
   refine write_exact (E := 11) (F := 52) s (by decide) h0 (by rw [e10]; omega) (.inl ?_)
   unfold plN
   rw [e10]
   omega
theorem widen_any (b : Nat) (src dst : TypeId) (W : World) (hs : (Tryz.prog.underlying src).isSome = true) (hd : Tryz.prog.underlying dst = some (.float .f64)) :
 ∃ c W', (convert src dst (.float .f32 b)).run Tryz.prog W = .ok (.float .f64 c) W' ∧ Below W.heap.size W W' ∧ Wd8 b c := by
 obtain ⟨u, hs'⟩ := Option.isSome_iff_exists.1 hs
 have ne : FloatKind.f32 ≠ FloatKind.f64 := by decide
 by_cases hx : exN 8 23 b ≠ maskN 8
 · obtain ⟨m, j, h1, h2⟩ := widen_fin hx
   have hd2 : FloatKind.f32.decode b = .number (sgB 8 23 b) (vN 8 23 b) (vX 8 23 b) := (read_is 8 23 b (by decide)).trans (if_neg hx)
   obtain ⟨n1, n2, n3, n4⟩ := num_ex (E := 11) (F := 52) (by decide) h1
   refine ⟨_, W, run_convert_float_float W src dst .f32 .f64 b (FloatKind.f64.encode (FloatKind.f32.decode b)) hs hd ?_, Below.refl _ _, ⟨?_, fun _ => ?_⟩⟩
   · unfold floatToFloatBits
     rw [if_neg ne, hd2]
     simp only
     rw [← hd2]
     rw [if_neg]
     rw [show FloatKind.f64.decode (FloatKind.f64.encode (FloatKind.f32.decode b)) = _ from h1]
     exact Bool.false_ne_true
   · unfold finB
     rw [decide_eq_true n1, decide_eq_true hx]
   · unfold tzV
     rw [n2, n3, n4, cut_same h2]
 · have hx1 : exN 8 23 b = maskN 8 := Decidable.not_not.1 hx
   have hr : FloatKind.f32.decode b = (if frN 23 b = 0 then .infinity (sgB 8 23 b) else .nan (sgB 8 23 b) (frN 23 b)) := (read_is 8 23 b (by decide)).trans (if_pos hx1)
   have fin : ∀ {c}, (∀ s m i, FloatKind.f64.format.read c ≠ .number s m i) → Wd8 b c := fun {c} h => by
    have h1 := ex_of_nonum (E := 11) (F := 52) (by decide) h
    have f0 : finB 8 23 b = false := decide_eq_false hx
    exact ⟨by rw [f0]; exact decide_eq_false (fun h => h h1), fun h => by rw [f0] at h; cases h⟩
   generalize sgB 8 23 b = s at hr
   by_cases h0 : frN 23 b = 0
   · rw [if_pos h0] at hr
     refine ⟨_, W, run_convert_float_float W src dst .f32 .f64 b (FloatKind.f64.encode (.infinity s)) hs hd ?_, Below.refl _ _, fin (nonum_of_rung (top_word s 0 (by decide)))⟩
     unfold floatToFloatBits
     rw [if_neg ne, hr]
   · rw [if_neg h0] at hr
     generalize frN 23 b = t at hr
     have hn : ∀ n : Nat, ∀ s m i, FloatKind.f64.format.read ((n % 2) * 2 ^ 63 + 0x7ff0000000000000 + 1 + (n / 2) % (2 ^ 52 - 1)) ≠ .number s m i := fun n => nonum_of_rung (by
      have e1 : (2 : Nat) ^ 63 = 9223372036854775808 := by decide
      have e2 : (2 : Nat) ^ 52 - 1 = 4503599627370495 := by decide
      rw [e1, e2]
      rcases Nat.mod_two_eq_zero_or_one n with h | h <;> rw [h] <;> omega)
     refine ⟨_, W.drew, ?_, (Below.refl _ _).drew, fin (hn (W.tape W.drawn (.nanConv .f64 b)))⟩
     cases u <;> simp [convert, run_underlying hs', run_underlying hd, Conv.floatToFloat, ne, hr] <;> rfl
def cuB (lo hi : Int) (fin : Bool) (t : Int) : Bool := fin && decide (lo ≤ t ∧ t < hi)
def cuV (lo hi : Int) (fin : Bool) (t : Int) : Int := if cuB lo hi fin t = true then t else 0
theorem cu_yes {lo hi : Int} {fin : Bool} {t : Int} (hf : fin = true) (h1 : lo ≤ t) (h2 : t < hi) : cuB lo hi fin t = true ∧ cuV lo hi fin t = t := by
 have h : cuB lo hi fin t = true := by unfold cuB; rw [hf, decide_eq_true ⟨h1, h2⟩]; rfl
 exact ⟨h, if_pos h⟩
theorem cu_no {lo hi : Int} {fin : Bool} {t : Int} (h : ¬ (fin = true ∧ lo ≤ t ∧ t < hi)) : cuB lo hi fin t = false ∧ cuV lo hi fin t = 0 := by
 have h : cuB lo hi fin t = false := by
  unfold cuB
  cases fin
  · rfl
  · rw [decide_eq_false (fun hh => h ⟨rfl, hh⟩)]
    rfl
 exact ⟨h, if_neg (by rw [h]; exact Bool.false_ne_true)⟩
theorem wrap_i16_out {t : Int} (h : ¬ (-32768 ≤ t ∧ t < 32768)) : IntKind.i16.wrap t ≠ t ∧ -32768 ≤ IntKind.i16.wrap t ∧ IntKind.i16.wrap t < 32768 := by
 have e : IntKind.i16.wrap t = if 32768 ≤ t % 65536 then t % 65536 - 65536 else t % 65536 := by
  simp [IntKind.wrap, IntKind.bits, IntKind.signed]
 rw [e]
 split <;> omega
theorem wrap_i8_out {t : Int} (h : ¬ (-128 ≤ t ∧ t < 128)) : IntKind.i8.wrap t ≠ t ∧ -128 ≤ IntKind.i8.wrap t ∧ IntKind.i8.wrap t < 128 := by
 have e : IntKind.i8.wrap t = if 128 ≤ t % 256 then t % 256 - 256 else t % 256 := by
  simp [IntKind.wrap, IntKind.bits, IntKind.signed]
 rw [e]
 split <;> omega
theorem wrap_i32_out {t : Int} (h : ¬ (-2147483648 ≤ t ∧ t < 2147483648)) : IntKind.i32.wrap t ≠ t ∧ -2147483648 ≤ IntKind.i32.wrap t ∧ IntKind.i32.wrap t < 2147483648 := by
 rw [IntKind.wrap_i32]
 omega
theorem wrap_i16_is {t : Int} (h : -32768 ≤ t ∧ t < 32768) : IntKind.i16.wrap t = t := by
 have e : IntKind.i16.wrap t = if 32768 ≤ t % 65536 then t % 65536 - 65536 else t % 65536 := by
  simp [IntKind.wrap, IntKind.bits, IntKind.signed]
 rw [e]
 split <;> omega
theorem wrap_i8_is {t : Int} (h : -128 ≤ t ∧ t < 128) : IntKind.i8.wrap t = t := by
 have e : IntKind.i8.wrap t = if 128 ≤ t % 256 then t % 256 - 256 else t % 256 := by
  simp [IntKind.wrap, IntKind.bits, IntKind.signed]
 rw [e]
 split <;> omega
theorem wrap_i32_is {t : Int} (h : -2147483648 ≤ t ∧ t < 2147483648) : IntKind.i32.wrap t = t := by
 rw [IntKind.wrap_i32]
 omega
section
attribute [local go_sem] Go.World.cell?_alloc_some
theorem sgn_int64 (w : World) : Calls Tryz.prog 90 #[] w fun e w' => e = .returned (.bool true) ∧ w = w' := by
 go_enter Tryz.func90, Tryz.ntmps90
 go_wp2
 go_ret
 exact ⟨rfl, rfl⟩
theorem cut_F64_int64 (b : Nat) (w : World) :
 Calls Tryz.prog 23 #[.float .f64 b] w fun e w' => e = .returned (.tuple #[.int .i64 (cuV (-9223372036854775808) 9223372036854775808 (finB 11 52 b) (tzV 11 52 b)), .bool (cuB (-9223372036854775808) 9223372036854775808 (finB 11 52 b) (tzV 11 52 b))]) ∧ Below w.heap.size w w' := by
 have hway := fun {c} (h : Tc b c) => cut_way_s h
 generalize finB 11 52 b = fn at *
 generalize (tzV 11 52 b) = t at *
 go_enter Tryz.func23, Tryz.ntmps23
 go_wp2_with fail
 refine (mathTrunc_any b w).mono ?_
 rintro en w1 ⟨c, rfl, hb1, hT⟩
 have hw := hway hT
 clear hT hway
 have V1 : Below w.heap.size w w1 := hb1
 go_wp2_with fail
 refine (sgn_int64 _).mono ?_
 rintro en w2 ⟨rfl, rfl⟩
 rcases hw with ⟨h1, h2, ⟨hf, h3, h4⟩, h5⟩ | ⟨h1, hn⟩ | ⟨h1, h2, hn⟩
 · have hq : ∀ W : World, (convert 25 2 (.float .f64 c)).run Tryz.prog W = .ok (.int .i64 t) W := fun W => run_convert_float_int W _ _ .f64 .i64 c t (by kernel_rfl) (by kernel_rfl) h5
   obtain ⟨p1, p2⟩ := cu_yes (lo := (-9223372036854775808)) (hi := 9223372036854775808) hf h3 h4
   have hwl : wrap64 t = t := by unfold wrap64; omega
   clear h5 hf
   go_wp2
   go_ret2
   rw [p2, p1]
   exact ⟨rfl, V1⟩
 · obtain ⟨p1, p2⟩ := cu_no (lo := (-9223372036854775808)) (hi := 9223372036854775808) (fin := fn) (t := t) (fun h => hn ⟨h.1, by omega, by omega⟩)
   clear hn
   go_wp2
   go_ret2
   rw [p2, p1]
   exact ⟨rfl, V1⟩
 · obtain ⟨p1, p2⟩ := cu_no (lo := (-9223372036854775808)) (hi := 9223372036854775808) (fin := fn) (t := t) (fun h => hn ⟨h.1, by omega, by omega⟩)
   clear hn
   go_wp2
   go_ret2
   rw [p2, p1]
   exact ⟨rfl, V1⟩
theorem cut_F32_int64 (b : Nat) (w : World) :
 Calls Tryz.prog 47 #[.float .f32 b] w fun e w' => e = .returned (.tuple #[.int .i64 (cuV (-9223372036854775808) 9223372036854775808 (finB 8 23 b) (tzV 8 23 b)), .bool (cuB (-9223372036854775808) 9223372036854775808 (finB 8 23 b) (tzV 8 23 b))]) ∧ Below w.heap.size w w' := by
 obtain ⟨x, W0, hcv, hB0, hw8⟩ := widen_any b 27 25 w (by kernel_rfl) (by kernel_rfl)
 have hway := fun {c} (h : Tc x c) => cut_way_s h
 rw [hw8.fin] at hway
 have hval := hw8.val
 clear hw8
 generalize tzV 11 52 x = tx at *
 generalize finB 8 23 b = fn at *
 generalize (tzV 8 23 b) = t at *
 go_enter Tryz.func47, Tryz.ntmps47
 go_wp2_with fail
 refine (mathTrunc_any x W0).mono ?_
 rintro en w1 ⟨c, rfl, hb1, hT⟩
 have hw := hway hT
 clear hT hway
 have V1 : Below w.heap.size w w1 := next hB0 hb1
 go_wp2_with fail
 refine (sgn_int64 _).mono ?_
 rintro en w2 ⟨rfl, rfl⟩
 rcases hw with ⟨h1, h2, ⟨hf, h3, h4⟩, h5⟩ | ⟨h1, hn⟩ | ⟨h1, h2, hn⟩
 · obtain rfl : tx = t := hval hf
   have hq : ∀ W : World, (convert 25 2 (.float .f64 c)).run Tryz.prog W = .ok (.int .i64 tx) W := fun W => run_convert_float_int W _ _ .f64 .i64 c tx (by kernel_rfl) (by kernel_rfl) h5
   obtain ⟨p1, p2⟩ := cu_yes (lo := (-9223372036854775808)) (hi := 9223372036854775808) hf h3 h4
   have hwl : wrap64 tx = tx := by unfold wrap64; omega
   clear h5 hf
   go_wp2
   go_ret2
   rw [p2, p1]
   exact ⟨rfl, V1⟩
 · obtain ⟨p1, p2⟩ := cu_no (lo := (-9223372036854775808)) (hi := 9223372036854775808) (fin := fn) (t := t) (fun h => hn ⟨h.1, by have := h.2.1; have := hval h.1; omega, by have := h.2.2; have := hval h.1; omega⟩)
   clear hn
   go_wp2
   go_ret2
   rw [p2, p1]
   exact ⟨rfl, V1⟩
 · obtain ⟨p1, p2⟩ := cu_no (lo := (-9223372036854775808)) (hi := 9223372036854775808) (fin := fn) (t := t) (fun h => hn ⟨h.1, by have := h.2.1; have := hval h.1; omega, by have := h.2.2; have := hval h.1; omega⟩)
   clear hn
   go_wp2
   go_ret2
   rw [p2, p1]
   exact ⟨rfl, V1⟩
end
section
section
variable {P : Program} {ops : Array Oper} {Q : Exit → Act → World → Prop} {md : Region.Mode} {S : World → Prop} {t : Nat}
def tillT (P : Program) (md : Region.Mode) (ops : Array Oper) (Q : Exit → Act → World → Prop) (S : World → Prop) (t : Nat) : Nat → Array Bool → Act → World → Prop
 | 0, listed, a, w => Region.ready md ops listed = [] ∧ Q .normal a w
 | fuel + 1, listed, a, w =>
   (Region.ready md ops listed = [] → Q .normal a w) ∧
   ∀ i ∈ Region.ready md ops listed, wpOp P ops Q i (fun a' w' => (i = t → wpAny P md ops Q fuel (listed.setIfInBounds i true) a' w') ∧ (i ≠ t → S w' ∧ tillT P md ops Q S t fuel (listed.setIfInBounds i true) a' w')) a w
theorem any_of_till : ∀ (fuel : Nat) (listed : Array Bool) (a : Act) (w : World), tillT P md ops Q S t fuel listed a w → wpAny P md ops Q fuel listed a w
 | 0, _, _, _, h => h
 | fuel + 1, _, _, _, h => ⟨h.1, fun i hi => wpOp_mono (fun a' w' h' => by
    by_cases e : i = t
    · exact h'.1 e
    · exact any_of_till fuel _ a' w' (h'.2 e).2) (h.2 i hi)⟩
def waitsB (md : Region.Mode) (ops : Array Oper) (j d : Nat) : Bool := match ops[j]? with
 | some o => o.after.any fun e => Region.binds md e && e.on == d
 | none => false
def barred (md : Region.Mode) (ops : Array Oper) (listed : Array Bool) (i t : Nat) (C : List Nat) : Bool :=
 C.contains t && (i != t) && C.all fun c => !listed.getD c true && (c == i || C.any fun d => waitsB md ops c d)
theorem not_ready {listed : Array Bool} {i j : Nat} {C : List Nat} (hsta : ∀ c ∈ C, c ≠ i → ∃ d ∈ C, waitsB md ops c d = true) (hun : ∀ c ∈ C, listed.getD c true = false) (hj : j ∈ Region.ready md ops listed) (hji : j ≠ i) : j ∉ C := fun hC => by
 obtain ⟨d, hd, hw⟩ := hsta j hC hji
 obtain ⟨_, o, ho, hall⟩ := mem_ready.1 hj
 unfold waitsB at hw
 rw [ho] at hw
 obtain ⟨k, hk, he⟩ := Array.any_eq_true.1 hw
 rw [Bool.and_eq_true] at he
 have h1 := hall _ (Array.getElem_mem hk) he.1
 rw [beq_iff_eq.1 he.2] at h1
 have h0 := hun d hd
 rcases Nat.lt_or_ge d listed.size with h' | h'
 · simp [h'] at h0 h1; rw [h0] at h1; cases h1
 · simp [Array.getElem?_eq_none h'] at h1
theorem till_first {i : Nat} {oi : Oper} {v : Value} {C : List Nat} (hi : ops[i]? = some oi) (hsel : ∀ (j : Nat) (o : Oper) cs b, ops[j]? = some o → o.op ≠ .select cs b)
 (hQ : ∀ c a w, Q (.panic c) (a.put oi.dst v) w → Q (.panic c) a w) (hsta : ∀ c ∈ C, c ≠ i → ∃ d ∈ C, waitsB md ops c d = true) (htC : t ∈ C) (hit : i ≠ t) :
 ∀ (fuel : Nat) (listed : Array Bool) (a : Act) (w : World),
  (∀ j oj, ops[j]? = some oj → j ≠ i → listed.getD j true = false → (∀ e ∈ oj.after, Region.binds md e = true → e.on ≠ i) → oi.apart ops oj = true) →
  (∀ c ∈ C, listed.getD c true = false) →
  i ∈ Region.ready md ops listed → YieldsIf P ops S oi v a → S w →
  tillT P md ops Q S t fuel (listed.setIfInBounds i true) (a.put oi.dst v) w → tillT P md ops Q S t (fuel + 1) listed a w := by
 intro fuel
 induction fuel with
 | zero =>
   intro listed a w _ _ hr hy hS H
   refine ⟨fun h => (by rw [h] at hr; cases hr), fun j hj => ?_⟩
   by_cases hji : j = i
   · subst hji; exact hy.wpOp hi hS ⟨fun e => absurd e hit, fun _ => ⟨hS, H⟩⟩
   · have := ready_mono hj hji
     rw [H.1] at this
     cases this
 | succ fuel ih =>
   intro listed a w hfree hun hr hy hS H
   refine ⟨fun h => (by rw [h] at hr; cases hr), fun j hj => ?_⟩
   by_cases hji : j = i
   · subst hji; exact hy.wpOp hi hS ⟨fun e => absurd e hit, fun _ => ⟨hS, H⟩⟩
   · have hjC := not_ready hsta hun hj hji
     have hjt : j ≠ t := fun e => hjC (e ▸ htC)
     have h1 := wpOp_mono (fun a' w' h => h.2 hjt) (H.2 j (ready_mono hj hji))
     obtain ⟨hjun, oj, hoj, hall⟩ := mem_ready.1 hj
     have hnot : ∀ e ∈ oj.after, Region.binds md e = true → e.on ≠ i := fun e he hb heq => by
      have h1 := hall e he hb
      have h0 := (mem_ready.1 hr).1
      rw [heq] at h1
      rcases Nat.lt_or_ge i listed.size with h' | h'
      · simp [h'] at h0 h1; rw [h0] at h1; cases h1
      · simp [Array.getElem?_eq_none h'] at h1
     have h2 := wpOp_putIf hoj (hfree j oj hoj hji hjun hnot) (fun cs b => hsel i oi cs b hi) (fun cs b => hsel j oj cs b hoj) hQ hy h1
     have hfree' : ∀ k ok, ops[k]? = some ok → k ≠ i → (listed.setIfInBounds j true).getD k true = false →
      (∀ e ∈ ok.after, Region.binds md e = true → e.on ≠ i) → oi.apart ops ok = true := fun k ok hk hki hun hno => by
      refine hfree k ok hk hki ?_ hno
      by_cases hjk : j = k
      · subst hjk; exact hjun
      · rw [getD_set_ne true hjk] at hun; exact hun
     have hun' : ∀ c ∈ C, (listed.setIfInBounds j true).getD c true = false := fun c hc => by
      have hjc : j ≠ c := fun e => hjC (by rw [e]; exact hc)
      rw [getD_set_ne true hjc]
      exact hun c hc
     refine wpOp_mono (fun a' w' h3 => ⟨fun e => absurd e hjt, fun _ => ⟨h3.2.1, ih (listed.setIfInBounds j true) a' w' hfree' hun' (ready_mono hr (Ne.symm hji)) h3.1 h3.2.1 ?_⟩⟩) h2
     rw [Array.setIfInBounds_comm _ _ hji]
     exact h3.2.2
theorem till_take {i : Nat} (C : List Nat) {oi : Oper} {v : Value} {fuel : Nat} {listed : Array Bool} {a : Act} {w : World} (hi : ops[i]? = some oi)
 (hs : Region.noSelect ops = true) (hf : Region.free md ops listed i = true) (hr : (Region.ready md ops listed).contains i = true) (hb : barred md ops listed i t C = true)
 (hQ : ∀ c a w, Q (.panic c) (a.put oi.dst v) w → Q (.panic c) a w) (hy : YieldsIf P ops S oi v a) (hS : S w)
 (h : tillT P md ops Q S t fuel (listed.setIfInBounds i true) (a.put oi.dst v) w) : tillT P md ops Q S t (fuel + 1) listed a w := by
 unfold barred at hb
 rw [Bool.and_eq_true, Bool.and_eq_true] at hb
 obtain ⟨⟨b1, b2⟩, b3⟩ := hb
 have b4 : ∀ c ∈ C, listed.getD c true = false ∧ (c = i ∨ ∃ d ∈ C, waitsB md ops c d = true) := fun c hc => by
  have := List.all_eq_true.1 b3 c hc
  rw [Bool.and_eq_true, Bool.or_eq_true, beq_iff_eq, List.any_eq_true] at this
  exact ⟨by simpa using this.1, this.2⟩
 exact till_first hi (Region.noSelect_spec hs) hQ (fun c hc h => (b4 c hc).2.resolve_left h) (by simpa using b1) (by simpa using b2) fuel listed a w (Region.free_spec hi hf) (fun c hc => (b4 c hc).1) (by simpa using hr) hy hS h
theorem till_step {i : Nat} {o : Oper} {fuel : Nat} {listed : Array Bool} {a : Act} {w : World} (hr : Region.ready md ops listed = [i]) (ho : ops[i]? = some o) (hit : i ≠ t)
 (h : ∀ K' : Act → World → Prop, Shut (∀ a w, S w → tillT P md ops Q S t fuel (listed.setIfInBounds i true) a w → K' a w) → if Region.wanted o (yielded ops a.tmps) = true then Oper.wp P o a w K' Q else K' (a.put o.dst undef) w) :
 tillT P md ops Q S t (fuel + 1) listed a w := by
 refine ⟨fun h0 => (by rw [hr] at h0; cases h0), ?_⟩
 rw [hr]
 intro j hj
 cases List.mem_singleton.1 hj
 exact wpOp_step ho (fun K' hK => h K' (fun a w hS hW => hK a w ⟨fun e => absurd e hit, fun _ => ⟨hS, hW⟩⟩))
theorem till_last {o : Oper} {fuel : Nat} {listed : Array Bool} {a : Act} {w : World} (hr : Region.ready md ops listed = [t]) (ho : ops[t]? = some o)
 (h : ∀ K' : Act → World → Prop, Shut (∀ a w, wpAny P md ops Q fuel (listed.setIfInBounds t true) a w → K' a w) → if Region.wanted o (yielded ops a.tmps) = true then Oper.wp P o a w K' Q else K' (a.put o.dst undef) w) :
 tillT P md ops Q S t (fuel + 1) listed a w := by
 refine ⟨fun h0 => (by rw [hr] at h0; cases h0), ?_⟩
 rw [hr]
 intro j hj
 cases List.mem_singleton.1 hj
 exact wpOp_step ho (fun K' hK => h K' (fun a w hW => hK a w ⟨fun _ => hW, fun e => absurd rfl e⟩))
theorem till_region {id : Nat} {a : Act} {w : World} (S : World → Prop) (t : Nat) (hm : P.follows .mixedOrders = true) (hS : S w.drew)
 (h : S w.drew → tillT P .any ops Q S t ops.size (Array.replicate ops.size false) a w.drew) : (Code.region id ops true).wp P Q a w :=
 wp_region_any hm (any_of_till _ _ _ _ (h hS))
end
end
section
attribute [local go_sem] Go.World.cell?_alloc_some
theorem nbRMulX_any (b base B1 B2 b2 : Nat) (x y : Rat) (w : World) (hbb : base ≤ b) (h1 : Rq 23 w B1 b x) (h2 : Rq 23 w B2 b2 y) (l1 : ln x.num.natAbs ≤ 67108864) (l2 : ln x.den ≤ 67108864) (l3 : ln y.num.natAbs ≤ 67108864) (l4 : ln y.den ≤ 67108864) (hT : Tab w) :
 Calls Tryz.prog 147 #[.pointer (some ⟨b, 0, none⟩), .pointer (some ⟨b, 0, none⟩), .pointer (some ⟨b2, 0, none⟩)] w (StQ 23 b base (x * y) w) := by
 have H1 := h1
 have H2 := h2
 have hr := h1.res
 obtain ⟨⟨a1, n1, c1, i1⟩, _, _⟩ := h1
 obtain ⟨⟨a2, n2, c2, i2⟩, _, _⟩ := h2
 have hn1 : n1 ≤ 67108864 := by rw [i1.len]; exact l1
 have hn2 : n2 ≤ 67108864 := by rw [i2.len]; exact l3
 have hR : ∀ W a3 a4 n3 n4 c3 c4, Below w.heap.size w W → Sl W a3 n3 c3 (limbs x.den) → Sl W a4 n4 c4 (limbs y.den) →
  Calls Tryz.prog 199 #[.pointer (some ⟨b, 0, none⟩), .bool (!(decide (x.num < 0) == decide (y.num < 0))), .slice a1 n1 c1, .slice a3 n3 c3, .slice a2 n2 c2, .slice a4 n4 c4] W (StQ 23 b base (x * y) W) := fun W a3 a4 n3 n4 c3 c4 hW s3 s4 => by
  have := nbTimes_any b base (decide (x.num < 0) != decide (y.num < 0)) a1 a3 a2 a4 n1 n3 n2 n4 c1 c3 c2 c4 x.num.natAbs x.den y.num.natAbs y.den W (hr.stay hW) hbb (i1.stay hW).fr.sl s3 (i2.stay hW).fr.sl s4 (rat_cop x) (rat_cop y) y.den_nz x.den_nz hn1 (by rw [← s3.len]; exact l2) hn2 (by rw [← s4.len]; exact l4) (hT.below hW)
  rw [mul_mk x y] at this
  exact this
 have hB1 : ∀ W, Below w.heap.size w W → Calls Tryz.prog 193 #[.pointer (some ⟨b, 0, none⟩)] W fun e w' => ∃ ao k c, e = .returned (.slice ao k c) ∧ Sl w' ao k c (limbs x.den) ∧ Below W.heap.size W w' := fun W hW => nbRbelow_any b B1 _ _ _ W (Ra.stay H1 hW)
 have hB2 : ∀ W, Below w.heap.size w W → Calls Tryz.prog 193 #[.pointer (some ⟨b2, 0, none⟩)] W fun e w' => ∃ ao k c, e = .returned (.slice ao k c) ∧ Sl w' ao k c (limbs y.den) ∧ Below W.heap.size W w' := fun W hW => nbRbelow_any b2 B2 _ _ _ W (Ra.stay H2 hW)
 have x0 := i1.c0
 have x1 := i1.c1
 have y0 := i2.c0
 have y1 := i2.c1
 clear l1 l2 l3 l4 hT hbb hn1 hn2 i1 i2
 generalize decide (x.num < 0) = s1 at *
 generalize decide (y.num < 0) = s2 at *
 clear H1 H2 hr
 go_enter Tryz.func147, Tryz.ntmps147
 go_wp2
 refine till_region (fun w' => w'.cell? ⟨b, 0, none⟩ = some (.bool s1) ∧ w'.cell? ⟨b, 1, none⟩ = some (.slice a1 n1 c1) ∧ w'.cell? ⟨b2, 0, none⟩ = some (.bool s2) ∧ w'.cell? ⟨b2, 1, none⟩ = some (.slice a2 n2 c2)) 26 (by kernel_rfl) ⟨by simpa using x0, by simpa using x1, by simpa using y0, by simpa using y1⟩ (fun hS => ?_)
 refine till_take (i := 0) (v := ?_) [0, 26] rfl (by kernel_rfl) (by kernel_rfl) (by kernel_rfl) (by kernel_rfl) (fun _ _ _ h => h) (Or.inl ⟨by rfl, ?_⟩) hS ?_
 case refine_2 => (intro w hSw; go_split_ands; go_simp; try with_reducible rfl)
 simp only [List.getElem_toArray, List.getElem_cons_zero, Act.put, List.setIfInBounds_toArray, List.set_cons_zero, List.set_cons_succ]
 refine till_take (i := 1) (v := ?_) [1, 2, 3, 4, 5, 11, 26] rfl (by kernel_rfl) (by kernel_rfl) (by kernel_rfl) (by kernel_rfl) (fun _ _ _ h => h) (Or.inl ⟨by rfl, ?_⟩) hS ?_
 case refine_2 => (intro w hSw; go_split_ands; go_simp; try with_reducible rfl)
 simp only [List.getElem_toArray, List.getElem_cons_zero, List.getElem_cons_succ, Act.put, List.setIfInBounds_toArray, List.set_cons_zero, List.set_cons_succ]
 refine till_take (i := 2) (v := ?_) [2, 3, 4, 5, 11, 26] rfl (by kernel_rfl) (by kernel_rfl) (by kernel_rfl) (by kernel_rfl) (fun _ _ _ h => h) (Or.inl ⟨by rfl, ?_⟩) hS ?_
 case refine_2 => (intro w hSw; go_split_ands; go_simp; try with_reducible rfl)
 simp only [List.getElem_toArray, List.getElem_cons_zero, List.getElem_cons_succ, Act.put, List.setIfInBounds_toArray, List.set_cons_zero, List.set_cons_succ]
 refine till_take (i := 3) (v := ?_) [3, 4, 5, 11, 26] rfl (by kernel_rfl) (by kernel_rfl) (by kernel_rfl) (by kernel_rfl) (fun _ _ _ h => h) (Or.inl ⟨by rfl, ?_⟩) hS ?_
 case refine_2 => (intro w hSw; go_split_ands; go_simp; try with_reducible rfl)
 simp only [List.getElem_toArray, List.getElem_cons_zero, List.getElem_cons_succ, Act.put, List.setIfInBounds_toArray, List.set_cons_zero, List.set_cons_succ]
 refine till_take (i := 4) (v := ?_) [4, 5, 11, 26] rfl (by kernel_rfl) (by kernel_rfl) (by kernel_rfl) (by kernel_rfl) (fun _ _ _ h => h) (Or.inl ⟨by rfl, ?_⟩) hS ?_
 case refine_2 => (intro w hSw; go_split_ands; go_simp; try with_reducible rfl)
 simp only [List.getElem_toArray, List.getElem_cons_zero, List.getElem_cons_succ, Act.put, List.setIfInBounds_toArray, List.set_cons_zero, List.set_cons_succ]
 refine till_take (i := 5) (v := ?_) [5, 11, 26] rfl (by kernel_rfl) (by kernel_rfl) (by kernel_rfl) (by kernel_rfl) (fun _ _ _ h => h) (Or.inl ⟨by rfl, ?_⟩) hS ?_
 case refine_2 => (intro w hSw; go_split_ands; go_simp; try with_reducible rfl)
 simp only [List.getElem_toArray, List.getElem_cons_zero, List.getElem_cons_succ, Act.put, List.setIfInBounds_toArray, List.set_cons_zero, List.set_cons_succ]
 refine till_take (i := 6) (v := ?_) [6, 7, 8, 9, 10, 11, 26] rfl (by kernel_rfl) (by kernel_rfl) (by kernel_rfl) (by kernel_rfl) (fun _ _ _ h => h) (Or.inl ⟨by rfl, ?_⟩) hS ?_
 case refine_2 => (intro w hSw; go_split_ands; go_simp; try with_reducible rfl)
 simp only [List.getElem_toArray, List.getElem_cons_zero, List.getElem_cons_succ, Act.put, List.setIfInBounds_toArray, List.set_cons_zero, List.set_cons_succ]
 refine till_take (i := 7) (v := ?_) [7, 8, 9, 10, 11, 26] rfl (by kernel_rfl) (by kernel_rfl) (by kernel_rfl) (by kernel_rfl) (fun _ _ _ h => h) (Or.inl ⟨by rfl, ?_⟩) hS ?_
 case refine_2 => (intro w hSw; go_split_ands; go_simp; try with_reducible rfl)
 simp only [List.getElem_toArray, List.getElem_cons_zero, List.getElem_cons_succ, Act.put, List.setIfInBounds_toArray, List.set_cons_zero, List.set_cons_succ]
 refine till_take (i := 8) (v := ?_) [8, 9, 10, 11, 26] rfl (by kernel_rfl) (by kernel_rfl) (by kernel_rfl) (by kernel_rfl) (fun _ _ _ h => h) (Or.inl ⟨by rfl, ?_⟩) hS ?_
 case refine_2 => (intro w hSw; go_split_ands; go_simp; try with_reducible rfl)
 simp only [List.getElem_toArray, List.getElem_cons_zero, List.getElem_cons_succ, Act.put, List.setIfInBounds_toArray, List.set_cons_zero, List.set_cons_succ]
 refine till_take (i := 9) (v := ?_) [9, 10, 11, 26] rfl (by kernel_rfl) (by kernel_rfl) (by kernel_rfl) (by kernel_rfl) (fun _ _ _ h => h) (Or.inl ⟨by rfl, ?_⟩) hS ?_
 case refine_2 => (intro w hSw; go_split_ands; go_simp; try with_reducible rfl)
 simp only [List.getElem_toArray, List.getElem_cons_zero, List.getElem_cons_succ, Act.put, List.setIfInBounds_toArray, List.set_cons_zero, List.set_cons_succ]
 refine till_take (i := 10) (v := ?_) [10, 11, 26] rfl (by kernel_rfl) (by kernel_rfl) (by kernel_rfl) (by kernel_rfl) (fun _ _ _ h => h) (Or.inl ⟨by rfl, ?_⟩) hS ?_
 case refine_2 => (intro w hSw; go_split_ands; go_simp; try with_reducible rfl)
 simp only [List.getElem_toArray, List.getElem_cons_zero, List.getElem_cons_succ, Act.put, List.setIfInBounds_toArray, List.set_cons_zero, List.set_cons_succ]
 refine till_take (i := 11) (v := ?_) [11, 26] rfl (by kernel_rfl) (by kernel_rfl) (by kernel_rfl) (by kernel_rfl) (fun _ _ _ h => h) (Or.inl ⟨by rfl, ?_⟩) hS ?_
 case refine_2 => (intro w hSw; go_split_ands; go_simp; try with_reducible rfl)
 simp only [List.getElem_toArray, List.getElem_cons_zero, List.getElem_cons_succ, Act.put, List.setIfInBounds_toArray, List.set_cons_zero, List.set_cons_succ]
 refine till_take (i := 12) (v := ?_) [12, 13, 14, 15, 16, 26] rfl (by kernel_rfl) (by kernel_rfl) (by kernel_rfl) (by kernel_rfl) (fun _ _ _ h => h) (Or.inl ⟨by rfl, ?_⟩) hS ?_
 case refine_2 => (intro w hSw; go_split_ands; go_simp; try with_reducible rfl)
 simp only [List.getElem_toArray, List.getElem_cons_zero, List.getElem_cons_succ, Act.put, List.setIfInBounds_toArray, List.set_cons_zero, List.set_cons_succ]
 refine till_take (i := 13) (v := ?_) [13, 14, 15, 16, 26] rfl (by kernel_rfl) (by kernel_rfl) (by kernel_rfl) (by kernel_rfl) (fun _ _ _ h => h) (Or.inl ⟨by rfl, ?_⟩) hS ?_
 case refine_2 => (intro w hSw; go_split_ands; go_simp; try with_reducible rfl)
 simp only [List.getElem_toArray, List.getElem_cons_zero, List.getElem_cons_succ, Act.put, List.setIfInBounds_toArray, List.set_cons_zero, List.set_cons_succ]
 refine till_take (i := 14) (v := ?_) [14, 15, 16, 26] rfl (by kernel_rfl) (by kernel_rfl) (by kernel_rfl) (by kernel_rfl) (fun _ _ _ h => h) (Or.inl ⟨by rfl, ?_⟩) hS ?_
 case refine_2 => (intro w hSw; go_split_ands; go_simp; try with_reducible rfl)
 simp only [List.getElem_toArray, List.getElem_cons_zero, List.getElem_cons_succ, Act.put, List.setIfInBounds_toArray, List.set_cons_zero, List.set_cons_succ]
 refine till_take (i := 15) (v := ?_) [15, 16, 26] rfl (by kernel_rfl) (by kernel_rfl) (by kernel_rfl) (by kernel_rfl) (fun _ _ _ h => h) (Or.inl ⟨by rfl, ?_⟩) hS ?_
 case refine_2 => (intro w hSw; go_split_ands; go_simp; try with_reducible rfl)
 simp only [List.getElem_toArray, List.getElem_cons_zero, List.getElem_cons_succ, Act.put, List.setIfInBounds_toArray, List.set_cons_zero, List.set_cons_succ]
 refine till_take (i := 16) (v := ?_) [16, 26] rfl (by kernel_rfl) (by kernel_rfl) (by kernel_rfl) (by kernel_rfl) (fun _ _ _ h => h) (Or.inl ⟨by rfl, ?_⟩) hS ?_
 case refine_2 => (intro w hSw; go_split_ands; go_simp; try with_reducible rfl)
 simp only [List.getElem_toArray, List.getElem_cons_zero, List.getElem_cons_succ, Act.put, List.setIfInBounds_toArray, List.set_cons_zero, List.set_cons_succ]
 refine till_take (i := 17) (v := ?_) [17, 18, 26] rfl (by kernel_rfl) (by kernel_rfl) (by kernel_rfl) (by kernel_rfl) (fun _ _ _ h => h) (Or.inl ⟨by rfl, ?_⟩) hS ?_
 case refine_2 => (intro w hSw; go_split_ands; go_simp; try with_reducible rfl)
 simp only [List.getElem_toArray, List.getElem_cons_zero, List.getElem_cons_succ, Act.put, List.setIfInBounds_toArray, List.set_cons_zero, List.set_cons_succ]
 refine till_take (i := 19) (v := ?_) [19, 20, 21, 22, 23, 26] rfl (by kernel_rfl) (by kernel_rfl) (by kernel_rfl) (by kernel_rfl) (fun _ _ _ h => h) (Or.inl ⟨by rfl, ?_⟩) hS ?_
 case refine_2 => (intro w hSw; go_split_ands; go_simp; try with_reducible rfl)
 simp only [List.getElem_toArray, List.getElem_cons_zero, List.getElem_cons_succ, Act.put, List.setIfInBounds_toArray, List.set_cons_zero, List.set_cons_succ]
 refine till_take (i := 20) (v := ?_) [20, 21, 22, 23, 26] rfl (by kernel_rfl) (by kernel_rfl) (by kernel_rfl) (by kernel_rfl) (fun _ _ _ h => h) (Or.inl ⟨by rfl, ?_⟩) hS ?_
 case refine_2 => (intro w hSw; go_split_ands; go_simp; try with_reducible rfl)
 simp only [List.getElem_toArray, List.getElem_cons_zero, List.getElem_cons_succ, Act.put, List.setIfInBounds_toArray, List.set_cons_zero, List.set_cons_succ]
 refine till_take (i := 21) (v := ?_) [21, 22, 23, 26] rfl (by kernel_rfl) (by kernel_rfl) (by kernel_rfl) (by kernel_rfl) (fun _ _ _ h => h) (Or.inl ⟨by rfl, ?_⟩) hS ?_
 case refine_2 => (intro w hSw; go_split_ands; go_simp; try with_reducible rfl)
 simp only [List.getElem_toArray, List.getElem_cons_zero, List.getElem_cons_succ, Act.put, List.setIfInBounds_toArray, List.set_cons_zero, List.set_cons_succ]
 refine till_take (i := 22) (v := ?_) [22, 23, 26] rfl (by kernel_rfl) (by kernel_rfl) (by kernel_rfl) (by kernel_rfl) (fun _ _ _ h => h) (Or.inl ⟨by rfl, ?_⟩) hS ?_
 case refine_2 => (intro w hSw; go_split_ands; go_simp; try with_reducible rfl)
 simp only [List.getElem_toArray, List.getElem_cons_zero, List.getElem_cons_succ, Act.put, List.setIfInBounds_toArray, List.set_cons_zero, List.set_cons_succ]
 refine till_take (i := 23) (v := ?_) [23, 26] rfl (by kernel_rfl) (by kernel_rfl) (by kernel_rfl) (by kernel_rfl) (fun _ _ _ h => h) (Or.inl ⟨by rfl, ?_⟩) hS ?_
 case refine_2 => (intro w hSw; go_split_ands; go_simp; try with_reducible rfl)
 simp only [List.getElem_toArray, List.getElem_cons_zero, List.getElem_cons_succ, Act.put, List.setIfInBounds_toArray, List.set_cons_zero, List.set_cons_succ]
 refine till_take (i := 24) (v := ?_) [24, 25, 26] rfl (by kernel_rfl) (by kernel_rfl) (by kernel_rfl) (by kernel_rfl) (fun _ _ _ h => h) (Or.inl ⟨by rfl, ?_⟩) hS ?_
 case refine_2 => (intro w hSw; go_split_ands; go_simp; try with_reducible rfl)
 simp only [List.getElem_toArray, List.getElem_cons_zero, List.getElem_cons_succ, Act.put, List.setIfInBounds_toArray, List.set_cons_zero, List.set_cons_succ]
 refine till_step (i := 18) (by kernel_rfl) rfl (by decide) (fun K hK => ?_)
 simp only [List.getElem_toArray, List.getElem_cons_zero, List.getElem_cons_succ]
 go_simp
 go_at_call 193
 with_reducible refine (hB1 _ ?_).mono ?_
 · first | exact Below.refl _ _ | exact (Below.refl _ _).drew
 rintro en wA ⟨a3, n3, c3, rfl, s3, hbB⟩
 have hWA : Below w.heap.size w wA := by first | exact hbB | exact undrew hbB
 try go_wp2_with fail
 refine hK.out _ _ ⟨cellStay x0 hWA, cellStay x1 hWA, cellStay y0 hWA, cellStay y1 hWA⟩ ?_
 clear hK K hS
 refine till_step (i := 25) (by kernel_rfl) rfl (by decide) (fun K hK => ?_)
 simp only [List.getElem_toArray, List.getElem_cons_zero, List.getElem_cons_succ]
 go_simp
 go_at_call 193
 with_reducible refine (hB2 _ hWA).mono ?_
 rintro en wB ⟨a4, n4, c4, rfl, s4, hbC⟩
 have hWB := next hWA hbC
 have s3B := s3.below hbC
 try go_wp2_with fail
 refine hK.out _ _ ⟨cellStay x0 hWB, cellStay x1 hWB, cellStay y0 hWB, cellStay y1 hWB⟩ ?_
 clear hK K
 refine till_last (by kernel_rfl) rfl (fun K hK => ?_)
 simp only [List.getElem_toArray, List.getElem_cons_zero, List.getElem_cons_succ]
 go_simp
 go_at_call 199
 with_reducible refine (hR _ a3 a4 n3 n4 c3 c4 hWB s3B s4).mono ?_
 rintro en wC ⟨rfl, hRa, hgB⟩
 try go_wp2_with fail
 refine hK.out _ _ ?_
 clear hK K
 refine wpAny_take (i := 27) (v := ?_) rfl (by kernel_rfl) (by kernel_rfl) (by kernel_rfl) (fun _ _ _ h => h) (Or.inl ⟨by rfl, ?_⟩) ?_
 case refine_2 => (intro w; go_simp; try with_reducible rfl)
 simp only [List.getElem_toArray, List.getElem_cons_zero, List.getElem_cons_succ, Act.put, List.setIfInBounds_toArray, List.set_cons_zero, List.set_cons_succ]
 refine wpAny_done (by kernel_rfl) ?_ _
 go_wp2
 go_ret
 exact ⟨rfl, hRa, grown_trans (grown_below hWB _) hgB⟩
end
end Go.Proofs.YtoiifhmepniniaaGreatDoor
