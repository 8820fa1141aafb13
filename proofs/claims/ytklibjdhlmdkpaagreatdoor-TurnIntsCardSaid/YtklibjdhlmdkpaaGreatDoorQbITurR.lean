/-
  Contracts: numeralbig's SetUint64; numeralref05's Fits, Finite, Worth.
-/
import Derived.Test.YtklibjdhlmdkpaaGreatDoorQbIMI26
import Derived.Test.YtklibjdhlmdkpaaGreatDoorQbIMI30
import Derived.Deep.RegionHeld3
import Derived.BigQuiet
import Derived.Deep.QuietTactic
namespace Go.Proofs.YtklibjdhlmdkpaaGreatDoor

open Go.RowKit Go.Lb

attribute [local go_sem] Go.World.cell?_alloc_some

set_option maxHeartbeats 1600000 in
theorem nbSetUint64_any (b base : Nat) (x : Nat) (w : World) (hz : Zc w b) (hb : base ≤ w.heap.size) (hx : x < 18446744073709551616) :
    Calls Tryz.prog 162 #[.pointer (some ⟨b, 0, none⟩), .int .u64 (x : Int)] w (StZ 38 b base (x : Int) w) := by
  have hbl := hz.lt
  unfold StZ
  rw [nonneg_dec (by omega : 0 ≤ (x : Int)), Int.natAbs_natCast]
  go_enter Tryz.func162, Tryz.ntmps162
  go_wp2_with (first
    | (go_at_call 240; refine (nbFromUint_any x _ rfl _ hx).mono ?_; rintro e w1 ⟨ao, k, c, rfl, hF, hb1⟩)
    | (go_at_call 239; refine (nbSet_any b false ao k c x w.heap.size _ (hz.stay hb1) hF).mono ?_; rintro e w2 ⟨rfl, rfl⟩))
  go_ret
  exact ⟨_, _, _, w1, rfl, hb1, hF.mono hb, fr_ne hF hbl, rfl⟩

theorem sign_twice {E F : Nat} (h : E + F < 63) : IntKind.u64.wrap (2 * ((2 ^ (E + F) : Nat) : Int)) = ((pw (1 + E + F) : Nat) : Int) := by
  have e : 2 * (2 ^ (E + F) : Nat) = pw (1 + E + F) := by rw [Nat.add_assoc, Nat.add_comm 1, pw_succ, pw_is]
  have l := pw_le (j := 1 + E + F) (k := 63) (by omega)
  have h63 : pw 63 = 9223372036854775808 := by unfold pw; rfl
  rw [IntKind.wrap_u64]
  omega

set_option maxRecDepth 100000 in
theorem nbFits5_any (E F b : Nat) (w : World) (hE : E ≤ 11) (hF : F ≤ 52) (hb : b < 18446744073709551616) :
    Calls Tryz.prog 197 #[.agg #[.int .i64 (E : Int), .int .i64 (F : Int)], .int .u64 (b : Int)] w fun en w' => en = .returned (.bool (decide (b < pw (1 + E + F)))) ∧ Below w.heap.size w w' := by
  have B := box2_new w (.int .i64 (E : Int)) (.int .i64 (F : Int)) 24
  have hW := more (Below.refl w.heap.size w) (.cells #[.int .i64 (E : Int), .int .i64 (F : Int)] 24)
  have ⟨a0, a1⟩ := B
  by_cases h : E + F < 63
  · have cS := fun W => nbSign5_any E F W hE hF
    have hw := sign_twice h
    generalize (2 ^ (E + F) : Nat) = S at *
    generalize pw (1 + E + F) = P at *
    have h63 : ¬ (E : Int) + (F : Int) ≥ 63 := by omega
    have hd : Hid (decide (b < P) = decide ((b : Int) < (P : Int))) := Lib.hid (decide_eq_decide.2 (by omega))
    go_enter Tryz.func197, Tryz.ntmps197
    go_wp2_with fail
    refine (cS _).mono ?_
    rintro en w1 ⟨rfl, hb1⟩
    go_wp2
    go_ret
    exact ⟨by rw [hd.out]; rfl, next hW hb1⟩
  · have h63 : (E : Int) + (F : Int) ≥ 63 := by omega
    have hd : Hid (decide (b < pw (1 + E + F)) = true) := Lib.hid (decide_eq_true (by
      have l := pw_le (j := 64) (k := 1 + E + F) (by omega)
      have h64 : pw 64 = 18446744073709551616 := by unfold pw; rfl
      omega))
    go_enter Tryz.func197, Tryz.ntmps197
    go_wp2
    go_ret
    exact ⟨by rw [hd.out]; rfl, hW⟩

set_option maxRecDepth 100000 in
set_option maxHeartbeats 4000000 in
theorem nbFinite5_any (E F b : Nat) (w : World) (hE : 2 ≤ E) (h11 : E ≤ 11) (hF1 : 1 ≤ F) (hF : F ≤ 52) (hb : b < pw (1 + E + F)) :
    Calls Tryz.prog 98 #[.agg #[.int .i64 (E : Int), .int .i64 (F : Int)], .int .u64 (b : Int)] w fun en w' => en = .returned (.bool (decide (exN E F b ≠ maskN E))) ∧ Below w.heap.size w w' := by
  have hb64 : b < 18446744073709551616 := by
    have h := pw_le (j := 1 + E + F) (k := 64) (by omega)
    have h64 : pw 64 = 18446744073709551616 := by unfold pw; rfl
    omega
  have B := box2_new w (.int .i64 (E : Int)) (.int .i64 (F : Int)) 24
  have hW := more (Below.refl w.heap.size w) (.cells #[.int .i64 (E : Int), .int .i64 (F : Int)] 24)
  have ⟨a0, a1⟩ := B
  have cF := fun W => nbFits5_any E F b W h11 hF hb64
  rw [decide_eq_true hb] at cF
  have x1 : IntKind.u64.wrap (E : Int) = (E : Int) := by rw [IntKind.wrap_u64]; omega
  have x2 : IntKind.u64.wrap (F : Int) = (F : Int) := by rw [IntKind.wrap_u64]; omega
  have m1 : min E 64 = E := by omega
  have m2 : min F 64 = F := by omega
  have wE := pw_u64 (show E ≤ 52 by omega)
  have hpE := pw_pos E
  have hlE := pw_le h11
  rw [show pw 11 = 2048 by unfold pw; rfl] at hlE
  have vE : IntKind.i64.wrap (2 ^ E) = ((pw E : Nat) : Int) := by
    rw [show (2 : Int) ^ E = ((pw E : Nat) : Int) by unfold pw; rw [Int.natCast_pow]; rfl]
    exact IntWalk.i64_in _ (by omega)
  have vM : IntKind.i64.wrap (((pw E : Nat) : Int) - 1) = (maskN E : Int) := by
    rw [maskN_eq]
    rw [IntWalk.i64_in _ (by omega)]
    omega
  have nE : ((pw E : Int) == 0) = false := by simp; omega
  have nE' : ¬ (pw E : Int) = 0 := by omega
  obtain ⟨q, hq⟩ : ∃ q, q = b / 2 ^ F := ⟨_, rfl⟩
  have hd : (b : Int) / 2 ^ F = (q : Int) := by rw [hq]; simp
  have hr : (q : Int).tmod (pw E : Int) = (exN E F b : Int) := by
    rw [← Int.ofNat_tmod, hq]
    unfold exN takeN
    rw [pw_is F]
  have hxl := takeN_lt b F E
  have hw : IntKind.i64.wrap (exN E F b : Int) = (exN E F b : Int) := IntWalk.i64_in _ (by unfold exN; omega)
  have HF : Hid (((exN E F b : Int) != (maskN E : Int)) = decide (exN E F b ≠ maskN E)) := Lib.hid (by rw [Bool.eq_iff_iff]; simp; omega)
  generalize decide (exN E F b ≠ maskN E) = r at *
  generalize exN E F b = x at *
  generalize maskN E = M at *
  generalize pw E = P at *
  clear hxl hpE hlE hq
  go_enter Tryz.func98, Tryz.ntmps98
  go_wp2_with fail
  refine (cF _).mono ?_
  rintro en w1 ⟨rfl, hb1⟩
  have ⟨b0, b1⟩ := B.stay hb1
  go_upto_region 2 with fail
  go_quiet (fail)
  go_wp2
  go_ret
  exact ⟨by rw [← HF.out]; rfl, drewn (next hW hb1) _⟩

set_option maxRecDepth 100000 in
theorem nbInf8_any (E F : Nat) (w : World) (hE : 2 ≤ E) (h11 : E ≤ 11) (hF1 : 1 ≤ F) (hF : F ≤ 52) :
    Calls Tryz.prog 101 #[.agg #[.int .i64 (E : Int), .int .i64 (F : Int)]] w fun en w' => en = .returned (.int .u64 (infN E F : Int)) ∧ Below w.heap.size w w' := by
  have hx : IntKind.u64.wrap (F : Int) = (F : Int) := by rw [IntKind.wrap_u64]; omega
  have hm : min F 64 = F := by omega
  have hw : IntKind.u64.wrap (2 ^ F) = ((2 ^ F : Nat) : Int) := by
    rw [pw_u64 hF, pw_is]
  have hs : IntKind.u64.wrap (((2 ^ (E + F) : Nat) : Int) - ((2 ^ F : Nat) : Int)) = (infN E F : Int) := by
    obtain ⟨p1, p2, p3⟩ := pow_bounds (E := E) (F := F) hE h11 hF
    have h63 : (2 : Nat) ^ 63 = 9223372036854775808 := by decide
    rw [IntKind.wrap_u64]
    unfold infN
    omega
  have cS := fun W => nbSign5_any E F W h11 hF
  generalize infN E F = I at *
  generalize (2 ^ (E + F) : Nat) = S at *
  generalize (2 ^ F : Nat) = P at *
  go_enter Tryz.func101, Tryz.ntmps101
  go_wp2
  have A := box2_new w (.int .i64 E) (.int .i64 F) 24
  have ⟨a0, a1⟩ := A
  have hW0 := more (Below.refl w.heap.size w) (.cells #[.int .i64 E, .int .i64 F] 24)
  go_region_held3 (fun w' => w'.cell? ⟨w.heap.size, 0, none⟩ = some (.int .i64 E) ∧ w'.cell? ⟨w.heap.size, 1, none⟩ = some (.int .i64 F) ∧ Below w.heap.size w w')
    ((go_split_ands; refine ⟨?_, ?_, ?_⟩ <;> (first | assumption | exact Below.drew (by assumption) | exact cellStay (by assumption) hbB | exact next (by assumption) hbB | (go_keep; done))))
    (first | (go_at_call 96; (with_reducible refine (cS _).mono ?_); rintro en wB ⟨rfl, hbB⟩))
  go_split_ands
  go_wp2
  refine bodyPost_ret (v := .int .u64 (I : Int)) (by simp [results, Tryz.results101, go_sem]) rfl ⟨rfl, by assumption⟩

set_option maxRecDepth 100000 in
theorem nbIsNaN8_any (E F b : Nat) (w : World) (hE : 2 ≤ E) (h11 : E ≤ 11) (hF1 : 1 ≤ F) (hF : F ≤ 52) (hb : b < 18446744073709551616) :
    Calls Tryz.prog 97 #[.agg #[.int .i64 (E : Int), .int .i64 (F : Int)], .int .u64 (b : Int)] w fun en w' => en = .returned (.bool (naB E F b)) ∧ Below w.heap.size w w' := by
  have hT := nan_test E F b
  have hw : IntKind.u64.wrap (((2 ^ (E + F) : Nat) : Int) - 1) = (maskN (E + F) : Int) := by
    obtain ⟨p1, p2, p3⟩ := pow_bounds (E := E) (F := F) hE h11 hF
    have h63 : (2 : Nat) ^ 63 = 9223372036854775808 := by decide
    have hp := Nat.two_pow_pos (E + F)
    rw [IntKind.wrap_u64, maskN_eq, pw_is]
    omega
  have ha := and_mask (b := b) (sz := E + F) (by omega) hb
  rw [pw_is] at ha
  have cS := fun W => nbSign5_any E F W h11 hF
  have cI := fun W => nbInf8_any E F W hE h11 hF1 hF
  have hd : Hid (decide ((infN E F : Int) < ((b % 2 ^ (E + F) : Nat) : Int)) = naB E F b) := Lib.hid (by rw [← hT, decide_eq_decide]; omega)
  generalize naB E F b = r at *
  generalize infN E F = I at *
  generalize b % 2 ^ (E + F) = low at *
  generalize (2 ^ (E + F) : Nat) = S at *
  generalize maskN (E + F) = M at *
  clear hT
  go_enter Tryz.func97, Tryz.ntmps97
  go_wp2
  have A := box2_new w (.int .i64 E) (.int .i64 F) 24
  have ⟨a0, a1⟩ := A
  have hW0 := more (Below.refl w.heap.size w) (.cells #[.int .i64 E, .int .i64 F] 24)
  go_region_held3 (fun w' => w'.cell? ⟨w.heap.size, 0, none⟩ = some (.int .i64 E) ∧ w'.cell? ⟨w.heap.size, 1, none⟩ = some (.int .i64 F) ∧ Below w.heap.size w w')
    ((go_split_ands; refine ⟨?_, ?_, ?_⟩ <;> (first | assumption | exact Below.drew (by assumption) | exact cellStay (by assumption) hbB | exact next (by assumption) hbB | (go_keep; done))))
    (first | (go_at_call 96; (with_reducible refine (cS _).mono ?_); rintro en wB ⟨rfl, hbB⟩) | (go_at_call 101; (with_reducible refine (cI _).mono ?_); rintro en wB ⟨rfl, hbB⟩))
  go_split_ands
  go_wp2
  refine bodyPost_ret (v := .bool (decide ((I : Int) < (low : Int)))) (by simp [results, Tryz.results97, go_sem]) rfl ⟨by rw [hd.out], by assumption⟩

set_option maxRecDepth 100000 in
theorem nbAsked8_any (e f : Int) (b : Nat) (w : World) (hb : b < 18446744073709551616) :
    Calls Tryz.prog 95 #[.agg #[.int .i64 e, .int .i64 f], .int .u64 (b : Int)] w fun en w' => en = .returned (.int .i64 (fitsE e f b)) ∧ Below w.heap.size w w' := by
  have B := box2_new w (.int .i64 e) (.int .i64 f) 24
  have hW := more (Below.refl w.heap.size w) (.cells #[.int .i64 e, .int .i64 f] 24)
  have ⟨a0, a1⟩ := B
  have c1 := fun W => nbForm_any e f W
  by_cases hf : formE e f = 0
  · rw [form_yes hf] at c1
    obtain ⟨e1, e2, e3, e4⟩ := formE_ok hf
    have hfit : fitsE e f b = if b < pw (1 + e.toNat + f.toNat) then 0 else 6 := by unfold fitsE; rw [if_neg (by simp [hf])]
    obtain ⟨E, rfl⟩ : ∃ E : Nat, e = (E : Int) := ⟨e.toNat, by omega⟩
    obtain ⟨F, rfl⟩ : ∃ F : Nat, f = (F : Int) := ⟨f.toNat, by omega⟩
    have c2 := fun W => nbFits5_any E F b W (by omega) (by omega) hb
    simp only [Int.toNat_natCast] at hfit
    by_cases hp : b < pw (1 + E + F)
    · rw [if_pos hp] at hfit
      rw [decide_eq_true hp] at c2
      rw [hfit]
      go_enter Tryz.func95, Tryz.ntmps95
      go_wp2_with fail
      refine (c1 _).mono ?_
      rintro en w1 ⟨rfl, hb1⟩
      have ⟨d0, d1⟩ := B.stay hb1
      go_wp2_with fail
      refine (c2 _).mono ?_
      rintro en w2 ⟨rfl, hb2⟩
      go_wp2
      go_ret
      exact ⟨rfl, next (next hW hb1) hb2⟩
    · rw [if_neg hp] at hfit
      rw [decide_eq_false hp] at c2
      rw [hfit]
      go_enter Tryz.func95, Tryz.ntmps95
      go_wp2_with fail
      refine (c1 _).mono ?_
      rintro en w1 ⟨rfl, hb1⟩
      have ⟨d0, d1⟩ := B.stay hb1
      go_wp2_with fail
      refine (c2 _).mono ?_
      rintro en w2 ⟨rfl, hb2⟩
      go_wp2
      go_ret
      exact ⟨rfl, next (next hW hb1) hb2⟩
  · have h5 : formE e f = 5 := by unfold formE at hf ⊢; split at hf <;> simp_all
    have hfit : fitsE e f b = 5 := by unfold fitsE; rw [if_pos hf, h5]
    rw [form_not h5] at c1
    rw [hfit]
    go_enter Tryz.func95, Tryz.ntmps95
    go_wp2_with fail
    refine (c1 _).mono ?_
    rintro en w1 ⟨rfl, hb1⟩
    go_wp2
    go_ret
    exact ⟨rfl, next hW hb1⟩

theorem hd_set {e : TypeId} {w : World} {b : Nat} (h : Hd e w b) (p : Addr) (v : Value) : Hd e (w.setCell p v) b := fun cur hh => by
  unfold World.setCell at hh
  simp only [Array.getElem?_modify] at hh
  split at hh
  · cases ho : w.heap[b]? with
    | none => rw [ho] at hh; cases hh
    | some o =>
      rw [ho] at hh
      cases o with
      | cells c t fr =>
        simp only [Option.map_some] at hh
        injection hh with hh
        injection hh with _ h2 h3
        subst h2 h3
        exact h c ho
      | _ => simp at hh
  · exact h cur hh

set_option maxHeartbeats 1600000 in
theorem nbRSetIntH_any (b base B1 b1 : Nat) (x : Int) (w : World) (hr : Res3 w b) (hbb : base ≤ b) (h1 : Iz 38 w B1 b1 x) (l1 : ln x.natAbs ≤ 4294967296) (hH : Hd 38 w b) :
    Calls Tryz.prog 208 #[.pointer (some ⟨b, 0, none⟩), .pointer (some ⟨b1, 0, none⟩)] w fun en w' => StQ 38 b base (x : Rat) w en w' ∧ Hd 38 w' b := by
  have hbl := hr.lt
  have hS := nbSetZ_any b base B1 b1 x w hr.zc (by omega) h1 l1
  go_enter Tryz.func208, Tryz.ntmps208
  go_wp2_with fail
  refine hS.mono ?_
  rintro e w2 hS
  obtain ⟨ao, k, c, w1, rfl, hb1, hF, hne, rfl⟩ := hS
  have R1 := hr.stay hb1
  have hI := setIn_in R1.zc (decide (x < 0)) hF hne hbb
  have R2 := R1.setIn (decide (x < 0)) (.slice ao k c)
  have G := grown_trans (grown_below hb1 (some b)) (setIn_grown w1 b (decide (x < 0)) (.slice ao k c))
  have HH : Hd 38 (setIn w1 b (decide (x < 0)) (.slice ao k c)) b := hd_set (hd_set (hH.stay hbl hb1) _ _) _ _
  generalize setIn w1 b (decide (x < 0)) (.slice ao k c) = w2 at *
  have cc2 := R2.c2
  have cz2 := R2.z2
  go_wp2
  go_ret
  refine ⟨⟨rfl, ?_, grown_trans G (grown_set _ _ _ _)⟩, hd_set HH _ _⟩
  exact ra_of (s := decide (x < 0)) (N := x.natAbs) (D := 1) hI R2 (ds := []) (fr_nil _ _ _) ⟨by decide, .inr ⟨rfl, rfl⟩⟩ (by simp [blkOf])

theorem ln_wu {E F b : Nat} (h11 : E ≤ 11) (hF : F ≤ 52) : ln (wuQ E F b).num.natAbs ≤ 4096 ∧ ln (wuQ E F b).den ≤ 4096 := by
  have hbs := bs_le h11
  have hfr : frN F b < 18446744073709551616 := by
    have h1 := frN_lt2 F b
    have h2 : 2 ^ F ≤ 2 ^ 52 := Nat.pow_le_pow_right (by decide) hF
    have h3 : (2 : Nat) ^ 52 = 4503599627370496 := by decide
    omega
  have hex := ex_le E F b
  have hm : maskN E ≤ 2047 := by
    have := pw_le h11
    rw [show pw 11 = 2048 by unfold pw; rfl] at this
    rw [maskN_eq]
    omega
  unfold wuQ
  by_cases h0 : exN E F b = 0
  · rw [if_pos h0]
    obtain ⟨a1, a2⟩ := ln_word hfr
    obtain ⟨m1, m2⟩ := mul_len (((frN F b : Nat) : Int) : Rat) (1 - (bsN E : Int) - F)
    omega
  · rw [if_neg h0]
    obtain ⟨a1, a2⟩ := ln_sum (F := F) hfr hF
    obtain ⟨m1, m2⟩ := mul_len ((((frN F b : Nat) : Int) : Rat) + p2 (F : Int)) ((exN E F b : Int) - bsN E - F)
    omega

set_option maxRecDepth 100000 in
set_option maxHeartbeats 4000000 in
theorem nbWorth5_any (E F b : Nat) (w : World) (hf : formE (E : Int) (F : Int) = 0) (hb : b < pw (1 + E + F)) (hx : exN E F b ≠ maskN E) (hT : Tab w) :
    Calls Tryz.prog 103 #[.agg #[.int .i64 (E : Int), .int .i64 (F : Int)], .int .u64 (b : Int)] w (MkQ 38 (wrQ E F b) w) := by
  obtain ⟨q1, q2, q3, q4⟩ := formE_ok hf
  have hE : 2 ≤ E := by omega
  have h11 : E ≤ 11 := by omega
  have hF1 : 1 ≤ F := by omega
  have hF : F ≤ 52 := by omega
  have hb64 : b < 18446744073709551616 := by
    have h := pw_le (j := 1 + E + F) (k := 64) (by omega)
    have h64 : pw 64 = 18446744073709551616 := by unfold pw; rfl
    omega
  have wf := pw_u64 hF
  have we := pw_u64 (show E ≤ 52 by omega)
  have hpf := pw_pos F
  have hpe := pw_pos E
  have n1 : ¬ IntKind.u64.wrap (2 ^ F) = 0 := by rw [wf]; omega
  have n2 : ¬ IntKind.u64.wrap (2 ^ E) = 0 := by rw [we]; omega
  have hxl : exN E F b < 2048 := by
    have := takeN_lt b F E
    have hle := pw_le h11
    rw [show pw 11 = 2048 by unfold pw; rfl] at hle
    unfold exN
    omega
  have e2 : wrap64 (((b : Int) / 2 ^ F).tmod (IntKind.u64.wrap (2 ^ E))) = (exN E F b : Int) := by
    rw [we, int_div_pow, Int.tmod_eq_emod_of_nonneg (Int.natCast_nonneg _), ← Int.natCast_emod, show b / 2 ^ F % pw E = takeN b F E by unfold takeN pw; rfl]
    exact wrap64_nat (takeN b F E) (by unfold exN at hxl; omega)
  have e3 : (b : Int) % IntKind.u64.wrap (2 ^ F) = (frN F b : Int) := by
    rw [wf, ← Int.natCast_emod]
    unfold frN takeN
    rw [pw_zero, Nat.div_one]
  have E2 := Lib.hid e2
  have E3 := Lib.hid e3
  have hfr : frN F b < 18446744073709551616 := by
    have h1 := frN_lt2 F b
    have h2 : 2 ^ F ≤ 2 ^ 52 := Nat.pow_le_pow_right (by decide) hF
    have h3 : (2 : Nat) ^ 52 = 4503599627370496 := by decide
    omega
  have hbs := bs_le h11
  have hbs1 := bs_leQ hE h11
  have cS := fun W => nbSign5_any E F W h11 hF
  have cB := fun W => nbBias_any E (F : Int) W hE h11
  obtain ⟨u1, u2⟩ := ln_wu (E := E) (F := F) (b := b) h11 hF
  have hu : wuQ E F b = if exN E F b = 0 then (((frN F b : Nat) : Int) : Rat) * p2 (1 - (bsN E : Int) - F) else ((((frN F b : Nat) : Int) : Rat) + p2 (F : Int)) * p2 ((exN E F b : Int) - bsN E - F) := rfl
  have hG : ∀ r, decide (2 ^ (E + F) ≤ b) = r → (if r = true then -wuQ E F b else wuQ E F b) = wrQ E F b := fun r hr => by
    rw [worth_five hE h11 hF (fits_bits hf hb) hx, (bits_parts hb).2, hr]
  have HG := Lib.hid hG
  have HU := Lib.hid hu
  obtain ⟨fl1, fl2⟩ := ln_word hfr
  obtain ⟨fs1, fs2⟩ := ln_sum (F := F) hfr hF
  have hpF := ln_pow2 (n := (F : Int)) (by omega) (by omega)
  have hkp : ∀ k : Int, -2000 ≤ k → k ≤ 4000 → ln (p2 k).num.natAbs ≤ 200 ∧ ln (p2 k).den ≤ 200 := fun k h1 h2 => ln_pow2 (by omega) (by omega)
  clear e2 e3 hu hG wf we hpf hpe
  generalize frN F b = r at *
  generalize wrQ E F b = V at *
  generalize wuQ E F b = U at *
  generalize exN E F b = x at *
  obtain ⟨S, hS⟩ : ∃ S : Nat, S = 2 ^ (E + F) := ⟨_, rfl⟩
  rw [← hS] at cS HG
  obtain ⟨W0, hW0⟩ : ∃ W0 : World, W0 = w.alloc (.cells #[.int .i64 (E : Int), .int .i64 (F : Int)] 24) := ⟨_, rfl⟩
  have hb0 : Below w.heap.size w W0 := hW0 ▸ more (Below.refl _ _) _
  have c0 : W0.cell? ⟨w.heap.size, 0, none⟩ = some (.int .i64 (E : Int)) := by rw [hW0]; simp
  have c1 : W0.cell? ⟨w.heap.size, 1, none⟩ = some (.int .i64 (F : Int)) := by rw [hW0]; simp
  have hs0 : W0.heap.size = w.heap.size + 1 := by rw [hW0]; simp
  obtain ⟨W1, hW1⟩ : ∃ W1 : World, W1 = W0.alloc (.cells #[.bool false, .slice none 0 0, .slice none 0 0] 153) := ⟨_, rfl⟩
  obtain ⟨W2, hW2⟩ : ∃ W2 : World, W2 = W1.alloc (.cells #[.bool false, .slice none 0 0] 151) := ⟨_, rfl⟩
  have hs1 : W1.heap.size = w.heap.size + 1 + 1 := by rw [hW1, World.size_alloc, hs0]
  have hdd : Hd 38 W1 (w.heap.size + 1) := by rw [← hs0, hW1]; exact hd_new _ _ (by decide)
  have hz : Zc W2 (w.heap.size + 1 + 1) := by rw [← hs1, hW2]; exact zc_new _ _ _ _
  have hr : Res3 W1 (w.heap.size + 1) := by rw [← hs0, hW1]; exact res_new _ _ _ _ _
  have hb1 : Below W0.heap.size W0 W1 := hW1 ▸ more (Below.refl _ _) _
  have hb2 : Below W1.heap.size W1 W2 := hW2 ▸ more (Below.refl _ _) _
  have hUi := nbSetUint64_any (w.heap.size + 1 + 1) W1.heap.size r W2 hz hb2.size hfr
  clear n1 n2 hf hx q1 q2 q3 q4
  have n1 : ¬ IntKind.u64.wrap (2 ^ F) = 0 := by rw [pw_u64 hF]; have := pw_pos F; omega
  have n2 : ¬ IntKind.u64.wrap (2 ^ E) = 0 := by rw [pw_u64 (show E ≤ 52 by omega)]; have := pw_pos E; omega
  go_enter Tryz.func103, Tryz.ntmps103
  go_wp2_with fail
  rw [E2.out, E3.out, ← hW0, ← hW1, ← hW2]
  clear hW0 hW1 hW2 E2 E3 n1 n2
  refine hUi.mono ?_
  rintro en w3 hS3
  have hb3 : Below W1.heap.size W1 w3 := hS3.below hb2 hb2.size (by omega)
  obtain ⟨rfl, I3, _⟩ := hS3.in_ hz (by omega)
  have hR := nbRSetIntH_any (w.heap.size + 1) (w.heap.size + 1) W1.heap.size (w.heap.size + 1 + 1) _ w3 (hr.stay hb3) (Nat.le_refl _) I3 (by rw [Int.natAbs_natCast]; have := ln_small2 hfr; omega) (hdd.stay (by omega) hb3)
  go_wp2_with fail
  refine hR.mono ?_
  rintro en w4 ⟨⟨rfl, Q4, hg4⟩, hd4⟩
  have V3 := next hb1 hb3
  have V4 : Below W0.heap.size W0 w4 := V3.grown hg4 V3.size (fun k hk => by cases hk; omega)
  have F0 : Hid (∀ {W : World}, Below W0.heap.size W0 W → W.cell? ⟨w.heap.size, 0, none⟩ = some (.int .i64 (E : Int))) := Lib.hid fun h => cellStay c0 h
  have F1 : Hid (∀ {W : World}, Below W0.heap.size W0 W → W.cell? ⟨w.heap.size, 1, none⟩ = some (.int .i64 (F : Int))) := Lib.hid fun h => cellStay c1 h
  have VV : Below w.heap.size w w4 ∧ Below W0.heap.size W0 w4 := ⟨next hb0 V4, V4⟩
  have kM : ∀ (y : Rat) (k : Int) (W : World) (B t : Nat), y * p2 k = U → -2000 ≤ k → k ≤ 4000 → ln y.num.natAbs ≤ 4 → ln y.den ≤ 4 → Rq 38 W (w.heap.size + 1) (w.heap.size + 1) y → Rq 38 W B t (p2 k) → Below w.heap.size w W →
      Calls Tryz.prog 209 #[.pointer (some ⟨w.heap.size + 1, 0, none⟩), .pointer (some ⟨w.heap.size + 1, 0, none⟩), .pointer (some ⟨t, 0, none⟩)] W (StQ 38 (w.heap.size + 1) (w.heap.size + 1) U W) := fun y k W B t hU h1 h2 h3 h4 hq ht hW => by
    obtain ⟨p1, p3⟩ := hkp k h1 h2
    have := nbRMulX_any (w.heap.size + 1) (w.heap.size + 1) (w.heap.size + 1) B t y (p2 k) W (Nat.le_refl _) hq ht (by omega) (by omega) (by omega) (by omega) (hT.below hW)
    rwa [hU] at this
  have hlt4 := Q4.lt
  have kA : ∀ (W : World) (B t : Nat), Below w4.heap.size w4 W → Rq 38 W (w.heap.size + 1) (w.heap.size + 1) ((r : Int) : Rat) → Rq 38 W B t (p2 (F : Int)) → Below w.heap.size w W →
      Calls Tryz.prog 211 #[.pointer (some ⟨w.heap.size + 1, 0, none⟩), .pointer (some ⟨w.heap.size + 1, 0, none⟩), .pointer (some ⟨t, 0, none⟩)] W (StQ 38 (w.heap.size + 1) (w.heap.size + 1) (((r : Int) : Rat) + p2 (F : Int)) W) := fun W B t h4 hq ht hW =>
    nbRAdd_any (w.heap.size + 1) (w.heap.size + 1) (w.heap.size + 1) B (w.heap.size + 1) t _ _ W hq.res (hd4.stay hlt4 h4) (Nat.le_refl _) hq ht (by omega) (by omega) (by omega) (by omega) (hT.below hW)
  have hs := hs0
  clear hS c0 c1 hz hr hb1 hb2 hb3 hUi hS3 hR hg4 V3 V4 hb0 hT I3 hb hb64 hfr
  have bw : ∀ k : Int, -5000 ≤ k → k ≤ 5000 → IntKind.i64.wrap k = k := fun k h1 h2 => IntWalk.i64_in _ (by omega)
  by_cases h0 : x = 0
  · subst h0
    have hU0 : ((r : Int) : Rat) * p2 (1 - (bsN E : Int) - F) = U := by rw [HU.out, if_pos rfl]
    generalize hk : 1 - (bsN E : Int) - (F : Int) = k at *
    have i1 := bw (1 - (bsN E : Int)) (by omega) (by omega)
    have i2 := bw k (by omega) (by omega)
    have hk1 : -2000 ≤ k := by omega
    have hk2 : k ≤ 4000 := by omega
    have hP : ∀ W, Calls Tryz.prog 210 #[.int .i64 k] W (MkQ 38 (p2 k) W) := fun W => nbPower_any k W (by omega) (by omega)
    clear bw kA
    have k0 := F0.out VV.2
    have k1 := F1.out VV.2
    go_upto_region 5 with fail
    generalize bsN E = bs at *
    go_region_held3 (fun w' => w'.cell? ⟨w.heap.size, 0, none⟩ = some (.int .i64 (E : Int)) ∧ w'.cell? ⟨w.heap.size, 1, none⟩ = some (.int .i64 (F : Int)) ∧ (Below w.heap.size w w' ∧ Below W0.heap.size W0 w'))
      ((refine ⟨F0.out ?_, F1.out ?_, ?_⟩ <;> (first | exact VC.2 | exact VC | exact VB.2 | exact VB | exact VA.2 | exact VA | exact VV.2.drew | exact ⟨VV.1.drew, VV.2.drew⟩ | exact VV.2 | exact VV)))
      (first
        | (go_at_call 202; (with_reducible refine (cB _).mono ?_); rintro en wA ⟨rfl, hbA'⟩; have hbA : Below w4.heap.size w4 wA := (by first | exact hbA' | exact undrew hbA'); have VA : Below w.heap.size w wA ∧ Below W0.heap.size W0 wA := ⟨next VV.1 hbA, next VV.2 hbA⟩; have QA := Q4.stay hbA)
        | (go_at_call 210; (with_reducible refine (hP _).mono ?_); rintro en wB ⟨t, rfl, PB, hbB⟩; have VB : Below w.heap.size w wB ∧ Below W0.heap.size W0 wB := ⟨next VA.1 hbB, next VA.2 hbB⟩; have QB := QA.stay hbB)
        | (go_at_call 209; (with_reducible refine (kM _ _ _ _ _ hU0 hk1 hk2 (by omega) (by omega) QB PB VB.1).mono ?_); rintro en wC ⟨rfl, QC, hgC⟩; have VC : Below w.heap.size w wC ∧ Below W0.heap.size W0 wC := ⟨VB.1.grown hgC VB.1.size (fun k hk => by cases hk; omega), VB.2.grown hgC VB.2.size (fun k hk => by cases hk; omega)⟩))
    clear kM hP hkp HU
    have k0 := F0.out VC.2
    have k1 := F1.out VC.2
    go_wp2_with fail
    refine (cS wC).mono ?_
    rintro en w7 ⟨rfl, hb7⟩
    have Q7 := QC.stay hb7
    have V7 := next VC.1 hb7
    have hlt := QC.lt
    clear QC VC hb7 k0 k1 F0 F1
    by_cases hg : S ≤ b
    · have hg1 : (b : Int) ≥ (S : Int) := by omega
      have hN := nbRNeg_any (w.heap.size + 1) w.heap.size _ (w.heap.size + 1) U w7 Q7.res (by omega) Q7 (by omega) (by omega)
      go_wp2_with fail
      refine hN.mono ?_
      rintro en w8 ⟨rfl, Q8, hg8⟩
      have V8 : Below w.heap.size w w8 := V7.grown hg8 V7.size (fun k hk => by cases hk; omega)
      go_wp2
      go_ret
      exact ⟨_, rfl, (show -U = V from HG.out true (decide_eq_true hg)) ▸ Q8, V8⟩
    · have hg1 : ¬ (b : Int) ≥ (S : Int) := by omega
      go_wp2
      go_ret
      exact ⟨_, rfl, (show U = V from HG.out false (decide_eq_false hg)) ▸ Q7.mono (by omega), V7⟩
  · have hU0 : (((r : Int) : Rat) + p2 (F : Int)) * p2 ((x : Int) - (bsN E : Int) - F) = U := by rw [HU.out, if_neg h0]
    have x0 : ¬ (x : Int) = 0 := by omega
    generalize hk : (x : Int) - (bsN E : Int) - (F : Int) = k at *
    have i1 := bw ((x : Int) - (bsN E : Int)) (by omega) (by omega)
    have i2 := bw k (by omega) (by omega)
    have hk1 : -2000 ≤ k := by omega
    have hk2 : k ≤ 4000 := by omega
    have hP : ∀ W, Calls Tryz.prog 210 #[.int .i64 k] W (MkQ 38 (p2 k) W) := fun W => nbPower_any k W (by omega) (by omega)
    have hPF : ∀ W, Calls Tryz.prog 210 #[.int .i64 (F : Int)] W (MkQ 38 (p2 (F : Int)) W) := fun W => nbPower_any (F : Int) W (by omega) (by omega)
    clear bw
    have k0 := F0.out VV.2
    have k1 := F1.out VV.2
    go_wp2_with fail
    refine (hPF w4).mono ?_
    rintro en w5 ⟨t5, rfl, P5, hb5⟩
    have hAd := kA w5 _ t5 hb5 (Q4.stay hb5) P5 (next VV.1 hb5)
    have V5 : Below w.heap.size w w5 ∧ Below W0.heap.size W0 w5 := ⟨next VV.1 hb5, next VV.2 hb5⟩
    clear k0 k1 VV kA Q4 hd4 P5 hb5 hPF
    go_wp2_with fail
    refine hAd.mono ?_
    rintro en w6 ⟨rfl, Q6, hg6⟩
    have V6 : Below w.heap.size w w6 ∧ Below W0.heap.size W0 w6 := ⟨V5.1.grown hg6 V5.1.size (fun k hk => by cases hk; omega), V5.2.grown hg6 V5.2.size (fun k hk => by cases hk; omega)⟩
    have k0 := F0.out V6.2
    have k1 := F1.out V6.2
    clear V5 hg6 hAd
    go_upto_region 7 with fail
    generalize bsN E = bs at *
    go_region_held3 (fun w' => w'.cell? ⟨w.heap.size, 0, none⟩ = some (.int .i64 (E : Int)) ∧ w'.cell? ⟨w.heap.size, 1, none⟩ = some (.int .i64 (F : Int)) ∧ (Below w.heap.size w w' ∧ Below W0.heap.size W0 w'))
      ((refine ⟨F0.out ?_, F1.out ?_, ?_⟩ <;> (first | exact VC.2 | exact VC | exact VB.2 | exact VB | exact VA.2 | exact VA | exact V6.2.drew | exact ⟨V6.1.drew, V6.2.drew⟩ | exact V6.2 | exact V6)))
      (first
        | (go_at_call 202; (with_reducible refine (cB _).mono ?_); rintro en wA ⟨rfl, hbA'⟩; have hbA : Below w6.heap.size w6 wA := (by first | exact hbA' | exact undrew hbA'); have VA : Below w.heap.size w wA ∧ Below W0.heap.size W0 wA := ⟨next V6.1 hbA, next V6.2 hbA⟩; have QA := Q6.stay hbA)
        | (go_at_call 210; (with_reducible refine (hP _).mono ?_); rintro en wB ⟨t, rfl, PB, hbB⟩; have VB : Below w.heap.size w wB ∧ Below W0.heap.size W0 wB := ⟨next VA.1 hbB, next VA.2 hbB⟩; have QB := QA.stay hbB)
        | (go_at_call 209; (with_reducible refine (kM _ _ _ _ _ hU0 hk1 hk2 fs1 fs2 QB PB VB.1).mono ?_); rintro en wC ⟨rfl, QC, hgC⟩; have VC : Below w.heap.size w wC ∧ Below W0.heap.size W0 wC := ⟨VB.1.grown hgC VB.1.size (fun k hk => by cases hk; omega), VB.2.grown hgC VB.2.size (fun k hk => by cases hk; omega)⟩))
    clear kM hP hkp HU
    have k0 := F0.out VC.2
    have k1 := F1.out VC.2
    go_wp2_with fail
    refine (cS wC).mono ?_
    rintro en w7 ⟨rfl, hb7⟩
    have Q7 := QC.stay hb7
    have V7 := next VC.1 hb7
    have hlt := QC.lt
    clear QC VC hb7 k0 k1 F0 F1
    by_cases hg : S ≤ b
    · have hg1 : (b : Int) ≥ (S : Int) := by omega
      have hN := nbRNeg_any (w.heap.size + 1) w.heap.size _ (w.heap.size + 1) U w7 Q7.res (by omega) Q7 (by omega) (by omega)
      go_wp2_with fail
      refine hN.mono ?_
      rintro en w8 ⟨rfl, Q8, hg8⟩
      have V8 : Below w.heap.size w w8 := V7.grown hg8 V7.size (fun k hk => by cases hk; omega)
      go_wp2
      go_ret
      exact ⟨_, rfl, (show -U = V from HG.out true (decide_eq_true hg)) ▸ Q8, V8⟩
    · have hg1 : ¬ (b : Int) ≥ (S : Int) := by omega
      go_wp2
      go_ret
      exact ⟨_, rfl, (show U = V from HG.out false (decide_eq_false hg)) ▸ Q7.mono (by omega), V7⟩

end Go.Proofs.YtklibjdhlmdkpaaGreatDoor

