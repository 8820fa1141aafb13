/-
  Contracts: numeralbig's SetUint64; numeralref05's Fits, Finite, Worth.
-/
import Derived.Test.YtoiifhmepniniaaGreatDoorQbCMC26
set_option maxHeartbeats 4000000
set_option maxRecDepth 100000
namespace Go.Proofs.YtoiifhmepniniaaGreatDoor
open Go.RowKit Go.Lb
section
attribute [local go_sem] Go.World.cell?_alloc_some
theorem nbSetUint64_any (b base : Nat) (x : Nat) (w : World) (hz : Zc w b) (hb : base ≤ w.heap.size) (hx : x < 18446744073709551616) :
 Calls Tryz.prog 146 #[.pointer (some ⟨b, 0, none⟩), .int .u64 (x : Int)] w (StZ 23 b base (x : Int) w) := by
 have hbl := hz.lt
 unfold StZ
 rw [nonneg_dec (by omega : 0 ≤ (x : Int)), Int.natAbs_natCast]
 go_enter Tryz.func146, Tryz.ntmps146
 go_wp2_with (first
  | (go_at_call 198; refine (nbFromUint_any x _ rfl _ hx).mono ?_; rintro e w1 ⟨ao, k, c, rfl, hF, hb1⟩)
  | (go_at_call 154; refine (nbSet_any b false ao k c x w.heap.size _ (hz.stay hb1) hF).mono ?_; rintro e w2 ⟨rfl, rfl⟩))
 go_ret
 exact ⟨_, _, _, w1, rfl, hb1, hF.mono hb, fr_ne hF hbl, rfl⟩
theorem sign_twice {E F : Nat} (h : E + F < 63) : IntKind.u64.wrap (2 * ((2 ^ (E + F) : Nat) : Int)) = ((pw (1 + E + F) : Nat) : Int) := by
 have e : 2 * (2 ^ (E + F) : Nat) = pw (1 + E + F) := by rw [Nat.add_assoc, Nat.add_comm 1, pw_succ, pw_is]
 have l := pw_le (j := 1 + E + F) (k := 63) (by omega)
 have h63 : pw 63 = 9223372036854775808 := by unfold pw; rfl
 rw [IntKind.wrap_u64]
 omega
theorem nbFits5_any (E F b : Nat) (w : World) (hE : E ≤ 11) (hF : F ≤ 52) (hb : b < 18446744073709551616) :
 Calls Tryz.prog 135 #[.agg #[.int .i64 (E : Int), .int .i64 (F : Int)], .int .u64 (b : Int)] w fun en w' => en = .returned (.bool (decide (b < pw (1 + E + F)))) ∧ Below w.heap.size w w' := by
 have B := box2_new w (.int .i64 (E : Int)) (.int .i64 (F : Int)) 31
 have hW := more (Below.refl w.heap.size w) (.cells #[.int .i64 (E : Int), .int .i64 (F : Int)] 31)
 have ⟨a0, a1⟩ := B
 by_cases h : E + F < 63
 · have cS := fun W => nbSign5_any E F W hE hF
   have hw := sign_twice h
   generalize (2 ^ (E + F) : Nat) = S at *
   generalize pw (1 + E + F) = P at *
   have h63 : ¬ (E : Int) + (F : Int) ≥ 63 := by omega
   have hd : Hid (decide (b < P) = decide ((b : Int) < (P : Int))) := Lib.hid (decide_eq_decide.2 (by omega))
   go_enter Tryz.func135, Tryz.ntmps135
   go_wp2_with fail
   refine (cS _).mono ?_
   rintro en w1 ⟨rfl, hb1⟩
   go_wp2
   go_ret
   exact ⟨by rw [hd.out]; rfl, next hW hb1⟩
 · have h63 : (E : Int) + (F : Int) ≥ 63 := by omega
   have hd : Hid (decide (b < pw (1 + E + F)) = true) := Lib.hid (decide_eq_true (by
    have l := pw_le (j := 64) (k := 1 + E + F) (by omega)
    have h64 : pw 64 = 18446744073709551616 := by unfold pw; rfl
    omega))
   go_enter Tryz.func135, Tryz.ntmps135
   go_wp2
   go_ret
   exact ⟨by rw [hd.out]; rfl, hW⟩
theorem nbFinite5_any (E F b : Nat) (w : World) (hE : 2 ≤ E) (h11 : E ≤ 11) (hF1 : 1 ≤ F) (hF : F ≤ 52) (hb : b < pw (1 + E + F)) :
 Calls Tryz.prog 97 #[.agg #[.int .i64 (E : Int), .int .i64 (F : Int)], .int .u64 (b : Int)] w fun en w' => en = .returned (.bool (decide (exN E F b ≠ maskN E))) ∧ Below w.heap.size w w' := by
 have hb64 : b < 18446744073709551616 := by
  have h := pw_le (j := 1 + E + F) (k := 64) (by omega)
  have h64 : pw 64 = 18446744073709551616 := by unfold pw; rfl
  omega
 have B := box2_new w (.int .i64 (E : Int)) (.int .i64 (F : Int)) 31
 have hW := more (Below.refl w.heap.size w) (.cells #[.int .i64 (E : Int), .int .i64 (F : Int)] 31)
 have ⟨a0, a1⟩ := B
 have cF := fun W => nbFits5_any E F b W h11 hF hb64
 rw [decide_eq_true hb] at cF
 have x1 : IntKind.u64.wrap (E : Int) = (E : Int) := by rw [IntKind.wrap_u64]; omega
 have x2 : IntKind.u64.wrap (F : Int) = (F : Int) := by rw [IntKind.wrap_u64]; omega
 have m1 : min E 64 = E := by omega
 have m2 : min F 64 = F := by omega
 have wE := pw_u64 (show E ≤ 52 by omega)
 have hpE := pw_pos E
 have hlE := pw_le h11
 rw [show pw 11 = 2048 by unfold pw; rfl] at hlE
 have vE : IntKind.i64.wrap (2 ^ E) = ((pw E : Nat) : Int) := by
  rw [show (2 : Int) ^ E = ((pw E : Nat) : Int) by unfold pw; rw [Int.natCast_pow]; rfl]
  exact IntWalk.i64_in _ (by omega)
 have vM : IntKind.i64.wrap (((pw E : Nat) : Int) - 1) = (maskN E : Int) := by
  rw [maskN_eq]
  rw [IntWalk.i64_in _ (by omega)]
  omega
 have nE : ((pw E : Int) == 0) = false := by simp; omega
 have nE' : ¬ (pw E : Int) = 0 := by omega
 obtain ⟨q, hq⟩ : ∃ q, q = b / 2 ^ F := ⟨_, rfl⟩
 have hd : (b : Int) / 2 ^ F = (q : Int) := by rw [hq]; simp
 have hr : (q : Int).tmod (pw E : Int) = (exN E F b : Int) := by
  rw [← Int.ofNat_tmod, hq]
  unfold exN takeN
  rw [pw_is F]
 have hxl := takeN_lt b F E
 have hw : IntKind.i64.wrap (exN E F b : Int) = (exN E F b : Int) := IntWalk.i64_in _ (by unfold exN; omega)
 have HF : Hid (((exN E F b : Int) != (maskN E : Int)) = decide (exN E F b ≠ maskN E)) := Lib.hid (by rw [Bool.eq_iff_iff]; simp; omega)
 generalize decide (exN E F b ≠ maskN E) = r at *
 generalize exN E F b = x at *
 generalize maskN E = M at *
 generalize pw E = P at *
 clear hxl hpE hlE hq
 go_enter Tryz.func97, Tryz.ntmps97
 go_wp2_with fail
 refine (cF _).mono ?_
 rintro en w1 ⟨rfl, hb1⟩
 have ⟨b0, b1⟩ := B.stay hb1
 go_upto_region 2 with fail
 go_quiet (fail)
 go_wp2
 go_ret
 exact ⟨by rw [← HF.out]; rfl, drewn (next hW hb1) _⟩
theorem hd_set {e : TypeId} {w : World} {b : Nat} (h : Hd e w b) (p : Addr) (v : Value) : Hd e (w.setCell p v) b := fun cur hh => by
 unfold World.setCell at hh
 simp only [Array.getElem?_modify] at hh
 split at hh
 · cases ho : w.heap[b]? with
   | none => rw [ho] at hh; cases hh
   | some o =>
     rw [ho] at hh
     cases o with
     | cells c t fr =>
       simp only [Option.map_some] at hh
       injection hh with hh
       injection hh with _ h2 h3
       subst h2 h3
       exact h c ho
     | _ => simp at hh
 · exact h cur hh
theorem nbRSetIntH_any (b base B1 b1 : Nat) (x : Int) (w : World) (hr : Res3 w b) (hbb : base ≤ b) (h1 : Iz 23 w B1 b1 x) (l1 : ln x.natAbs ≤ 4294967296) (hH : Hd 23 w b) :
 Calls Tryz.prog 140 #[.pointer (some ⟨b, 0, none⟩), .pointer (some ⟨b1, 0, none⟩)] w fun en w' => StQ 23 b base (x : Rat) w en w' ∧ Hd 23 w' b := by
 have hbl := hr.lt
 have hS := nbSetZ_any b base B1 b1 x w hr.zc (by omega) h1 l1
 go_enter Tryz.func140, Tryz.ntmps140
 go_wp2_with fail
 refine hS.mono ?_
 rintro e w2 hS
 obtain ⟨ao, k, c, w1, rfl, hb1, hF, hne, rfl⟩ := hS
 have R1 := hr.stay hb1
 have hI := setIn_in R1.zc (decide (x < 0)) hF hne hbb
 have R2 := R1.setIn (decide (x < 0)) (.slice ao k c)
 have G := grown_trans (grown_below hb1 (some b)) (setIn_grown w1 b (decide (x < 0)) (.slice ao k c))
 have HH : Hd 23 (setIn w1 b (decide (x < 0)) (.slice ao k c)) b := hd_set (hd_set (hH.stay hbl hb1) _ _) _ _
 generalize setIn w1 b (decide (x < 0)) (.slice ao k c) = w2 at *
 have cc2 := R2.c2
 have cz2 := R2.z2
 go_wp2
 go_ret
 refine ⟨⟨rfl, ?_, grown_trans G (grown_set _ _ _ _)⟩, hd_set HH _ _⟩
 exact ra_of (s := decide (x < 0)) (N := x.natAbs) (D := 1) hI R2 (ds := []) (fr_nil _ _ _) ⟨by decide, .inr ⟨rfl, rfl⟩⟩ (by simp [blkOf])
theorem ln_wu {E F b : Nat} (h11 : E ≤ 11) (hF : F ≤ 52) : ln (wuQ E F b).num.natAbs ≤ 4096 ∧ ln (wuQ E F b).den ≤ 4096 := by
 have hbs := bs_le h11
 have hfr : frN F b < 18446744073709551616 := by
  have h1 := frN_lt2 F b
  have h2 : 2 ^ F ≤ 2 ^ 52 := Nat.pow_le_pow_right (by decide) hF
  have h3 : (2 : Nat) ^ 52 = 4503599627370496 := by decide
  omega
 have hex := ex_le E F b
 have hm : maskN E ≤ 2047 := by
  have := pw_le h11
  rw [show pw 11 = 2048 by unfold pw; rfl] at this
  rw [maskN_eq]
  omega
 unfold wuQ
 by_cases h0 : exN E F b = 0
 · rw [if_pos h0]
   obtain ⟨a1, a2⟩ := ln_word hfr
   obtain ⟨m1, m2⟩ := mul_len (((frN F b : Nat) : Int) : Rat) (1 - (bsN E : Int) - F)
   omega
 · rw [if_neg h0]
   obtain ⟨a1, a2⟩ := ln_sum (F := F) hfr hF
   obtain ⟨m1, m2⟩ := mul_len ((((frN F b : Nat) : Int) : Rat) + p2 (F : Int)) ((exN E F b : Int) - bsN E - F)
   omega
theorem nbWorth5_any (E F b : Nat) (w : World) (hf : formE (E : Int) (F : Int) = 0) (hb : b < pw (1 + E + F)) (hx : exN E F b ≠ maskN E) (hT : Tab w) :
 Calls Tryz.prog 99 #[.agg #[.int .i64 (E : Int), .int .i64 (F : Int)], .int .u64 (b : Int)] w (MkQ 23 (wrQ E F b) w) := by
 obtain ⟨q1, q2, q3, q4⟩ := formE_ok hf
 have hE : 2 ≤ E := by omega
 have h11 : E ≤ 11 := by omega
 have hF1 : 1 ≤ F := by omega
 have hF : F ≤ 52 := by omega
 have hb64 : b < 18446744073709551616 := by
  have h := pw_le (j := 1 + E + F) (k := 64) (by omega)
  have h64 : pw 64 = 18446744073709551616 := by unfold pw; rfl
  omega
 have wf := pw_u64 hF
 have we := pw_u64 (show E ≤ 52 by omega)
 have hpf := pw_pos F
 have hpe := pw_pos E
 have n1 : ¬ IntKind.u64.wrap (2 ^ F) = 0 := by rw [wf]; omega
 have n2 : ¬ IntKind.u64.wrap (2 ^ E) = 0 := by rw [we]; omega
 have hxl : exN E F b < 2048 := by
  have := takeN_lt b F E
  have hle := pw_le h11
  rw [show pw 11 = 2048 by unfold pw; rfl] at hle
  unfold exN
  omega
 have e2 : wrap64 (((b : Int) / 2 ^ F).tmod (IntKind.u64.wrap (2 ^ E))) = (exN E F b : Int) := by
  rw [we, int_div_pow, Int.tmod_eq_emod_of_nonneg (Int.natCast_nonneg _), ← Int.natCast_emod, show b / 2 ^ F % pw E = takeN b F E by unfold takeN pw; rfl]
  exact wrap64_nat (takeN b F E) (by unfold exN at hxl; omega)
 have e3 : (b : Int) % IntKind.u64.wrap (2 ^ F) = (frN F b : Int) := by
  rw [wf, ← Int.natCast_emod]
  unfold frN takeN
  rw [pw_zero, Nat.div_one]
 have E2 := Lib.hid e2
 have E3 := Lib.hid e3
 have hfr : frN F b < 18446744073709551616 := by
  have h1 := frN_lt2 F b
  have h2 : 2 ^ F ≤ 2 ^ 52 := Nat.pow_le_pow_right (by decide) hF
  have h3 : (2 : Nat) ^ 52 = 4503599627370496 := by decide
  omega
 have hbs := bs_le h11
 have hbs1 := bs_leQ hE h11
 have cS := fun W => nbSign5_any E F W h11 hF
 have cB := fun W => nbBias_any E (F : Int) W hE h11
 obtain ⟨u1, u2⟩ := ln_wu (E := E) (F := F) (b := b) h11 hF
 have hu : wuQ E F b = if exN E F b = 0 then (((frN F b : Nat) : Int) : Rat) * p2 (1 - (bsN E : Int) - F) else ((((frN F b : Nat) : Int) : Rat) + p2 (F : Int)) * p2 ((exN E F b : Int) - bsN E - F) := rfl
 have hG : ∀ r, decide (2 ^ (E + F) ≤ b) = r → (if r = true then -wuQ E F b else wuQ E F b) = wrQ E F b := fun r hr => by
  rw [worth_five hE h11 hF (fits_bits hf hb) hx, (bits_parts hb).2, hr]
 have HG := Lib.hid hG
 have HU := Lib.hid hu
 obtain ⟨fl1, fl2⟩ := ln_word hfr
 obtain ⟨fs1, fs2⟩ := ln_sum (F := F) hfr hF
 have hpF := ln_pow2 (n := (F : Int)) (by omega) (by omega)
 have hkp : ∀ k : Int, -2000 ≤ k → k ≤ 4000 → ln (p2 k).num.natAbs ≤ 200 ∧ ln (p2 k).den ≤ 200 := fun k h1 h2 => ln_pow2 (by omega) (by omega)
 clear e2 e3 hu hG wf we hpf hpe
 generalize frN F b = r at *
 generalize wrQ E F b = V at *
 generalize wuQ E F b = U at *
 generalize exN E F b = x at *
 obtain ⟨S, hS⟩ : ∃ S : Nat, S = 2 ^ (E + F) := ⟨_, rfl⟩
 rw [← hS] at cS HG
 obtain ⟨W0, hW0⟩ : ∃ W0 : World, W0 = w.alloc (.cells #[.int .i64 (E : Int), .int .i64 (F : Int)] 31) := ⟨_, rfl⟩
 have hb0 : Below w.heap.size w W0 := hW0 ▸ more (Below.refl _ _) _
 have c0 : W0.cell? ⟨w.heap.size, 0, none⟩ = some (.int .i64 (E : Int)) := by rw [hW0]; simp
 have c1 : W0.cell? ⟨w.heap.size, 1, none⟩ = some (.int .i64 (F : Int)) := by rw [hW0]; simp
 have hs0 : W0.heap.size = w.heap.size + 1 := by rw [hW0]; simp
 obtain ⟨W1, hW1⟩ : ∃ W1 : World, W1 = W0.alloc (.cells #[.bool false, .slice none 0 0, .slice none 0 0] 191) := ⟨_, rfl⟩
 obtain ⟨W2, hW2⟩ : ∃ W2 : World, W2 = W1.alloc (.cells #[.bool false, .slice none 0 0] 154) := ⟨_, rfl⟩
 have hs1 : W1.heap.size = w.heap.size + 1 + 1 := by rw [hW1, World.size_alloc, hs0]
 have hdd : Hd 23 W1 (w.heap.size + 1) := by rw [← hs0, hW1]; exact hd_new _ _ (by decide)
 have hz : Zc W2 (w.heap.size + 1 + 1) := by rw [← hs1, hW2]; exact zc_new _ _ _ _
 have hr : Res3 W1 (w.heap.size + 1) := by rw [← hs0, hW1]; exact res_new _ _ _ _ _
 have hb1 : Below W0.heap.size W0 W1 := hW1 ▸ more (Below.refl _ _) _
 have hb2 : Below W1.heap.size W1 W2 := hW2 ▸ more (Below.refl _ _) _
 have hUi := nbSetUint64_any (w.heap.size + 1 + 1) W1.heap.size r W2 hz hb2.size hfr
 clear n1 n2 hf hx q1 q2 q3 q4
 have n1 : ¬ IntKind.u64.wrap (2 ^ F) = 0 := by rw [pw_u64 hF]; have := pw_pos F; omega
 have n2 : ¬ IntKind.u64.wrap (2 ^ E) = 0 := by rw [pw_u64 (show E ≤ 52 by omega)]; have := pw_pos E; omega
 go_enter Tryz.func99, Tryz.ntmps99
 go_wp2_with fail
 rw [E2.out, E3.out, ← hW0, ← hW1, ← hW2]
 clear hW0 hW1 hW2 E2 E3 n1 n2
 refine hUi.mono ?_
 rintro en w3 hS3
 have hb3 : Below W1.heap.size W1 w3 := hS3.below hb2 hb2.size (by omega)
 obtain ⟨rfl, I3, _⟩ := hS3.in_ hz (by omega)
 have hR := nbRSetIntH_any (w.heap.size + 1) (w.heap.size + 1) W1.heap.size (w.heap.size + 1 + 1) _ w3 (hr.stay hb3) (Nat.le_refl _) I3 (by rw [Int.natAbs_natCast]; have := ln_small2 hfr; omega) (hdd.stay (by omega) hb3)
 go_wp2_with fail
 refine hR.mono ?_
 rintro en w4 ⟨⟨rfl, Q4, hg4⟩, hd4⟩
 have V3 := next hb1 hb3
 have V4 : Below W0.heap.size W0 w4 := V3.grown hg4 V3.size (fun k hk => by cases hk; omega)
 have F0 : Hid (∀ {W : World}, Below W0.heap.size W0 W → W.cell? ⟨w.heap.size, 0, none⟩ = some (.int .i64 (E : Int))) := Lib.hid fun h => cellStay c0 h
 have F1 : Hid (∀ {W : World}, Below W0.heap.size W0 W → W.cell? ⟨w.heap.size, 1, none⟩ = some (.int .i64 (F : Int))) := Lib.hid fun h => cellStay c1 h
 have VV : Below w.heap.size w w4 ∧ Below W0.heap.size W0 w4 := ⟨next hb0 V4, V4⟩
 have kM : ∀ (y : Rat) (k : Int) (W : World) (B t : Nat), y * p2 k = U → -2000 ≤ k → k ≤ 4000 → ln y.num.natAbs ≤ 4 → ln y.den ≤ 4 → Rq 23 W (w.heap.size + 1) (w.heap.size + 1) y → Rq 23 W B t (p2 k) → Below w.heap.size w W →
  Calls Tryz.prog 147 #[.pointer (some ⟨w.heap.size + 1, 0, none⟩), .pointer (some ⟨w.heap.size + 1, 0, none⟩), .pointer (some ⟨t, 0, none⟩)] W (StQ 23 (w.heap.size + 1) (w.heap.size + 1) U W) := fun y k W B t hU h1 h2 h3 h4 hq ht hW => by
  obtain ⟨p1, p3⟩ := hkp k h1 h2
  have := nbRMulX_any (w.heap.size + 1) (w.heap.size + 1) (w.heap.size + 1) B t y (p2 k) W (Nat.le_refl _) hq ht (by omega) (by omega) (by omega) (by omega) (hT.below hW)
  rwa [hU] at this
 have hlt4 := Q4.lt
 have kA : ∀ (W : World) (B t : Nat), Below w4.heap.size w4 W → Rq 23 W (w.heap.size + 1) (w.heap.size + 1) ((r : Int) : Rat) → Rq 23 W B t (p2 (F : Int)) → Below w.heap.size w W →
  Calls Tryz.prog 150 #[.pointer (some ⟨w.heap.size + 1, 0, none⟩), .pointer (some ⟨w.heap.size + 1, 0, none⟩), .pointer (some ⟨t, 0, none⟩)] W (StQ 23 (w.heap.size + 1) (w.heap.size + 1) (((r : Int) : Rat) + p2 (F : Int)) W) := fun W B t h4 hq ht hW =>
  nbRAdd_any (w.heap.size + 1) (w.heap.size + 1) (w.heap.size + 1) B (w.heap.size + 1) t _ _ W hq.res (hd4.stay hlt4 h4) (Nat.le_refl _) hq ht (by omega) (by omega) (by omega) (by omega) (hT.below hW)
 have hs := hs0
 clear hS c0 c1 hz hr hb1 hb2 hb3 hUi hS3 hR hg4 V3 V4 hb0 hT I3 hb hb64 hfr
 have bw : ∀ k : Int, -5000 ≤ k → k ≤ 5000 → IntKind.i64.wrap k = k := fun k h1 h2 => IntWalk.i64_in _ (by omega)
 by_cases h0 : x = 0
 · subst h0
   have hU0 : ((r : Int) : Rat) * p2 (1 - (bsN E : Int) - F) = U := by rw [HU.out, if_pos rfl]
   generalize hk : 1 - (bsN E : Int) - (F : Int) = k at *
   have i1 := bw (1 - (bsN E : Int)) (by omega) (by omega)
   have i2 := bw k (by omega) (by omega)
   have hk1 : -2000 ≤ k := by omega
   have hk2 : k ≤ 4000 := by omega
   have hP : ∀ W, Calls Tryz.prog 148 #[.int .i64 k] W (MkQ 23 (p2 k) W) := fun W => nbPower_any k W (by omega) (by omega)
   clear bw kA
   have k0 := F0.out VV.2
   have k1 := F1.out VV.2
   go_upto_region 5 with fail
   generalize bsN E = bs at *
   go_region_held3 (fun w' => w'.cell? ⟨w.heap.size, 0, none⟩ = some (.int .i64 (E : Int)) ∧ w'.cell? ⟨w.heap.size, 1, none⟩ = some (.int .i64 (F : Int)) ∧ (Below w.heap.size w w' ∧ Below W0.heap.size W0 w'))
    ((refine ⟨F0.out ?_, F1.out ?_, ?_⟩ <;> (first | exact VC.2 | exact VC | exact VB.2 | exact VB | exact VA.2 | exact VA | exact VV.2.drew | exact ⟨VV.1.drew, VV.2.drew⟩ | exact VV.2 | exact VV)))
    (first
      | (go_at_call 149; (with_reducible refine (cB _).mono ?_); rintro en wA ⟨rfl, hbA'⟩; have hbA : Below w4.heap.size w4 wA := (by first | exact hbA' | exact undrew hbA'); have VA : Below w.heap.size w wA ∧ Below W0.heap.size W0 wA := ⟨next VV.1 hbA, next VV.2 hbA⟩; have QA := Q4.stay hbA)
      | (go_at_call 148; (with_reducible refine (hP _).mono ?_); rintro en wB ⟨t, rfl, PB, hbB⟩; have VB : Below w.heap.size w wB ∧ Below W0.heap.size W0 wB := ⟨next VA.1 hbB, next VA.2 hbB⟩; have QB := QA.stay hbB)
      | (go_at_call 147; (with_reducible refine (kM _ _ _ _ _ hU0 hk1 hk2 (by omega) (by omega) QB PB VB.1).mono ?_); rintro en wC ⟨rfl, QC, hgC⟩; have VC : Below w.heap.size w wC ∧ Below W0.heap.size W0 wC := ⟨VB.1.grown hgC VB.1.size (fun k hk => by cases hk; omega), VB.2.grown hgC VB.2.size (fun k hk => by cases hk; omega)⟩))
   clear kM hP hkp HU
   have k0 := F0.out VC.2
   have k1 := F1.out VC.2
   go_wp2_with fail
   refine (cS wC).mono ?_
   rintro en w7 ⟨rfl, hb7⟩
   have Q7 := QC.stay hb7
   have V7 := next VC.1 hb7
   have hlt := QC.lt
   clear QC VC hb7 k0 k1 F0 F1
   by_cases hg : S ≤ b
   · have hg1 : (b : Int) ≥ (S : Int) := by omega
     have hN := nbRNeg_any (w.heap.size + 1) w.heap.size _ (w.heap.size + 1) U w7 Q7.res (by omega) Q7 (by omega) (by omega)
     go_wp2_with fail
     refine hN.mono ?_
     rintro en w8 ⟨rfl, Q8, hg8⟩
     have V8 : Below w.heap.size w w8 := V7.grown hg8 V7.size (fun k hk => by cases hk; omega)
     go_wp2
     go_ret
     exact ⟨_, rfl, (show -U = V from HG.out true (decide_eq_true hg)) ▸ Q8, V8⟩
   · have hg1 : ¬ (b : Int) ≥ (S : Int) := by omega
     go_wp2
     go_ret
     exact ⟨_, rfl, (show U = V from HG.out false (decide_eq_false hg)) ▸ Q7.mono (by omega), V7⟩
 · have hU0 : (((r : Int) : Rat) + p2 (F : Int)) * p2 ((x : Int) - (bsN E : Int) - F) = U := by rw [HU.out, if_neg h0]
   have x0 : ¬ (x : Int) = 0 := by omega
   generalize hk : (x : Int) - (bsN E : Int) - (F : Int) = k at *
   have i1 := bw ((x : Int) - (bsN E : Int)) (by omega) (by omega)
   have i2 := bw k (by omega) (by omega)
   have hk1 : -2000 ≤ k := by omega
   have hk2 : k ≤ 4000 := by omega
   have hP : ∀ W, Calls Tryz.prog 148 #[.int .i64 k] W (MkQ 23 (p2 k) W) := fun W => nbPower_any k W (by omega) (by omega)
   have hPF : ∀ W, Calls Tryz.prog 148 #[.int .i64 (F : Int)] W (MkQ 23 (p2 (F : Int)) W) := fun W => nbPower_any (F : Int) W (by omega) (by omega)
   clear bw
   have k0 := F0.out VV.2
   have k1 := F1.out VV.2
   go_wp2_with fail
   refine (hPF w4).mono ?_
   rintro en w5 ⟨t5, rfl, P5, hb5⟩
   have hAd := kA w5 _ t5 hb5 (Q4.stay hb5) P5 (next VV.1 hb5)
   have V5 : Below w.heap.size w w5 ∧ Below W0.heap.size W0 w5 := ⟨next VV.1 hb5, next VV.2 hb5⟩
   clear k0 k1 VV kA Q4 hd4 P5 hb5 hPF
   go_wp2_with fail
   refine hAd.mono ?_
   rintro en w6 ⟨rfl, Q6, hg6⟩
   have V6 : Below w.heap.size w w6 ∧ Below W0.heap.size W0 w6 := ⟨V5.1.grown hg6 V5.1.size (fun k hk => by cases hk; omega), V5.2.grown hg6 V5.2.size (fun k hk => by cases hk; omega)⟩
   have k0 := F0.out V6.2
   have k1 := F1.out V6.2
   clear V5 hg6 hAd
   go_upto_region 7 with fail
   generalize bsN E = bs at *
   go_region_held3 (fun w' => w'.cell? ⟨w.heap.size, 0, none⟩ = some (.int .i64 (E : Int)) ∧ w'.cell? ⟨w.heap.size, 1, none⟩ = some (.int .i64 (F : Int)) ∧ (Below w.heap.size w w' ∧ Below W0.heap.size W0 w'))
    ((refine ⟨F0.out ?_, F1.out ?_, ?_⟩ <;> (first | exact VC.2 | exact VC | exact VB.2 | exact VB | exact VA.2 | exact VA | exact V6.2.drew | exact ⟨V6.1.drew, V6.2.drew⟩ | exact V6.2 | exact V6)))
    (first
      | (go_at_call 149; (with_reducible refine (cB _).mono ?_); rintro en wA ⟨rfl, hbA'⟩; have hbA : Below w6.heap.size w6 wA := (by first | exact hbA' | exact undrew hbA'); have VA : Below w.heap.size w wA ∧ Below W0.heap.size W0 wA := ⟨next V6.1 hbA, next V6.2 hbA⟩; have QA := Q6.stay hbA)
      | (go_at_call 148; (with_reducible refine (hP _).mono ?_); rintro en wB ⟨t, rfl, PB, hbB⟩; have VB : Below w.heap.size w wB ∧ Below W0.heap.size W0 wB := ⟨next VA.1 hbB, next VA.2 hbB⟩; have QB := QA.stay hbB)
      | (go_at_call 147; (with_reducible refine (kM _ _ _ _ _ hU0 hk1 hk2 fs1 fs2 QB PB VB.1).mono ?_); rintro en wC ⟨rfl, QC, hgC⟩; have VC : Below w.heap.size w wC ∧ Below W0.heap.size W0 wC := ⟨VB.1.grown hgC VB.1.size (fun k hk => by cases hk; omega), VB.2.grown hgC VB.2.size (fun k hk => by cases hk; omega)⟩))
   clear kM hP hkp HU
   have k0 := F0.out VC.2
   have k1 := F1.out VC.2
   go_wp2_with fail
   refine (cS wC).mono ?_
   rintro en w7 ⟨rfl, hb7⟩
   have Q7 := QC.stay hb7
   have V7 := next VC.1 hb7
   have hlt := QC.lt
   clear QC VC hb7 k0 k1 F0 F1
   by_cases hg : S ≤ b
   · have hg1 : (b : Int) ≥ (S : Int) := by omega
     have hN := nbRNeg_any (w.heap.size + 1) w.heap.size _ (w.heap.size + 1) U w7 Q7.res (by omega) Q7 (by omega) (by omega)
     go_wp2_with fail
     refine hN.mono ?_
     rintro en w8 ⟨rfl, Q8, hg8⟩
     have V8 : Below w.heap.size w w8 := V7.grown hg8 V7.size (fun k hk => by cases hk; omega)
     go_wp2
     go_ret
     exact ⟨_, rfl, (show -U = V from HG.out true (decide_eq_true hg)) ▸ Q8, V8⟩
   · have hg1 : ¬ (b : Int) ≥ (S : Int) := by omega
     go_wp2
     go_ret
     exact ⟨_, rfl, (show U = V from HG.out false (decide_eq_false hg)) ▸ Q7.mono (by omega), V7⟩
end
section
attribute [local go_sem] Go.World.cell?_alloc_some
theorem neg_i64 {n : Nat} (h : n ≤ 9223372036854775808) : ∃ r, IntKind.i64.wrap (n : Int) = r ∧ IntKind.i64.wrap (-r) = -(n : Int) := by
 by_cases hn : n = 9223372036854775808
 · subst hn
   exact ⟨-9223372036854775808, by decide +kernel, by decide +kernel⟩
 · exact ⟨(n : Int), IntWalk.i64_in _ (by omega), IntWalk.i64_in _ (by omega)⟩
theorem nbInt64_any (base b : Nat) (z : Int) (w : World) (h : Iz 23 w base b z) (h1 : -9223372036854775808 ≤ z) (h2 : z ≤ 9223372036854775807) :
 Calls Tryz.prog 106 #[.pointer (some ⟨b, 0, none⟩)] w fun e w' => e = .returned (.int .i64 z) ∧ w = w' := by
 obtain ⟨ao, k, c, h⟩ := h
 have hs := h.fr.sl
 have hv := small_words (ok_limbs z.natAbs) (ln_small2 (by omega))
 rw [val_limbs'] at hv
 have hC := nbToUint_any ao k c (limbs z.natAbs) w hs
 rw [← hv] at hC
 obtain ⟨d0, d1, _, _, _, _, _⟩ := h
 clear hs hv
 by_cases hz : z < 0
 · rw [decide_eq_true hz] at d0
   obtain ⟨r, r1, r2⟩ := neg_i64 (n := z.natAbs) (by omega)
   have r3 : -(z.natAbs : Int) = z := by omega
   rw [r3] at r2
   generalize z.natAbs = n at *
   clear r3 hz h1 h2
   go_enter Tryz.func106, Tryz.ntmps106
   go_wp2_with (go_at_call 161; refine hC.mono ?_; rintro e w1 ⟨rfl, rfl⟩)
   go_ret
   exact ⟨rfl, rfl⟩
 · rw [decide_eq_false hz] at d0
   have r1 : IntKind.i64.wrap (z.natAbs : Int) = z := by rw [show (z.natAbs : Int) = z by omega]; exact IntWalk.i64_in _ (by omega)
   generalize z.natAbs = n at *
   clear hz h1 h2
   go_enter Tryz.func106, Tryz.ntmps106
   go_wp2_with (go_at_call 161; refine hC.mono ?_; rintro e w1 ⟨rfl, rfl⟩)
   go_ret
   exact ⟨rfl, rfl⟩
def cmpI (x y : Int) : Int := if x < y then -1 else if x = y then 0 else 1
theorem cmpI_same {x y : Int} (hx : 0 ≤ x) (hy : 0 ≤ y) : cmpN x.natAbs y.natAbs = cmpI x y := by
 unfold cmpN cmpI
 repeat' split
 all_goals omega
theorem cmpI_below {x y : Int} (hx : x < 0) (hy : y < 0) : -(cmpN x.natAbs y.natAbs) = cmpI x y := by
 unfold cmpN cmpI
 repeat' split
 all_goals omega
theorem nbCmpI_any (B1 B2 b1 b2 : Nat) (x y : Int) (w : World) (h1 : Iz 23 w B1 b1 x) (h2 : Iz 23 w B2 b2 y) :
 Calls Tryz.prog 104 #[.pointer (some ⟨b1, 0, none⟩), .pointer (some ⟨b2, 0, none⟩)] w fun e w' => e = .returned (.int .i64 (cmpI x y)) ∧ Below w.heap.size w w' := by
 by_cases hx : x < 0
 · by_cases hy : y < 0
   · have hE := cmpI_below hx hy
     have hr : cmpN x.natAbs y.natAbs = -1 ∨ cmpN x.natAbs y.natAbs = 0 ∨ cmpN x.natAbs y.natAbs = 1 := by unfold cmpN; (repeat' split) <;> omega
     obtain ⟨a1, n1, c1, h1⟩ := h1
     obtain ⟨a2, n2, c2, h2⟩ := h2
     have hC : ∀ W, Below w.heap.size w W → Calls Tryz.prog 160 #[.slice a1 n1 c1, .slice a2 n2 c2] W fun e w' => e = .returned (.int .i64 (cmpN x.natAbs y.natAbs)) ∧ Below W.heap.size W w' := fun W hW => by
      have := nbCmp_any a1 a2 n1 n2 c1 c2 (limbs x.natAbs) (limbs y.natAbs) W (h1.fr.sl.below hW) (h2.fr.sl.below hW) (fine_limbs _) (fine_limbs _)
      rwa [val_limbs', val_limbs'] at this
     obtain ⟨d0, d1, _, _, _, _, _⟩ := h1
     obtain ⟨e0, e1, _, _, _, _, _⟩ := h2
     rw [decide_eq_true hx] at d0
     rw [decide_eq_true hy] at e0
     have hw : IntKind.i64.wrap (-(cmpN x.natAbs y.natAbs)) = cmpI x y := by rw [← hE]; rcases hr with h | h | h <;> rw [h] <;> decide +kernel
     generalize cmpN x.natAbs y.natAbs = cc at *
     generalize cmpI x y = ci at *
     clear hE hr hx hy
     go_enter Tryz.func104, Tryz.ntmps104
     go_wp2
     go_quiet (fail)
     go_wp2
     go_region_with (go_at_call 160; refine (hC _ (by first | exact Below.refl _ _ | exact Below.drew (Below.refl _ _) | exact Below.drew (Below.drew (Below.refl _ _)) | exact drewn (Below.refl _ _) _ | exact (drewn (Below.refl _ _) _).drew)).mono ?_; rintro e w1 ⟨rfl, hb1⟩; replace hb1 : Below w.heap.size w w1 := (by first | exact hb1 | exact undrew hb1 | exact next (drewn (Below.refl _ _) _) hb1 | exact next (drewn (Below.refl _ _) _).drew hb1))
     all_goals go_wp2
     all_goals go_ret
     all_goals exact ⟨rfl, hb1⟩
   · have hE : cmpI x y = -1 := by unfold cmpI; rw [if_pos (by omega)]
     rw [hE]
     obtain ⟨a1, n1, c1, h1⟩ := h1
     obtain ⟨a2, n2, c2, h2⟩ := h2
     obtain ⟨d0, d1, _, _, _, _, _⟩ := h1
     obtain ⟨e0, e1, _, _, _, _, _⟩ := h2
     rw [decide_eq_true hx] at d0
     rw [decide_eq_false hy] at e0
     clear hE hx hy
     go_enter Tryz.func104, Tryz.ntmps104
     go_wp2
     go_quiet (fail)
     go_wp2
     go_ret
     exact ⟨rfl, drewn (Below.refl _ _) _⟩
 · by_cases hy : y < 0
   · have hE : cmpI x y = 1 := by unfold cmpI; rw [if_neg (by omega), if_neg (by omega)]
     rw [hE]
     obtain ⟨a1, n1, c1, h1⟩ := h1
     obtain ⟨a2, n2, c2, h2⟩ := h2
     obtain ⟨d0, d1, _, _, _, _, _⟩ := h1
     obtain ⟨e0, e1, _, _, _, _, _⟩ := h2
     rw [decide_eq_false hx] at d0
     rw [decide_eq_true hy] at e0
     clear hE hx hy
     go_enter Tryz.func104, Tryz.ntmps104
     go_wp2
     go_quiet (fail)
     go_wp2
     go_ret
     exact ⟨rfl, drewn (Below.refl _ _) _⟩
   · rw [← cmpI_same (by omega) (by omega)]
     have g1 : Iz 23 w B1 b1 ((x.natAbs : Nat) : Int) := by rw [show ((x.natAbs : Nat) : Int) = x by omega]; exact h1
     have g2 : Iz 23 w B2 b2 ((y.natAbs : Nat) : Int) := by rw [show ((y.natAbs : Nat) : Int) = y by omega]; exact h2
     exact nbCmpN_any B1 B2 b1 b2 _ _ w g1 g2
theorem tdiv_floor (x : Int) {y : Nat} (hy : y ≠ 0) : x / (y : Int) = if x.tmod y < 0 then x.tdiv y - 1 else x.tdiv y := by
 have e := Int.mul_tdiv_add_tmod x y
 have hp : (0 : Int) < y := by omega
 have hl := Int.tmod_lt_of_pos x hp
 by_cases h : x.tmod y < 0
 · rw [if_pos h]
   have hg : -(y : Int) < x.tmod y := by
    have := Int.tmod_lt_of_pos (-x) hp
    rw [Int.neg_tmod] at this
    omega
   refine ((Int.ediv_emod_unique (q := x.tdiv y - 1) (r := x.tmod y + y) hp).2 ⟨?_, by omega, by omega⟩).1
   rw [Int.mul_sub, Int.mul_one]
   omega
 · rw [if_neg h]
   exact ((Int.ediv_emod_unique (q := x.tdiv y) (r := x.tmod y) hp).2 ⟨by omega, by omega, hl⟩).1
theorem fr_setIn {e : TypeId} {w : World} {base b n c : Nat} {ao : Option Addr} {xs : List Nat} {s : Bool} {v : Value} (hf : Fr e w base ao n c xs) (hb : b < base) : Fr e (setIn w b s v) base ao n c xs := fr_grown hf (setIn_grown w b s v) hb
def DvZ (e : TypeId) (b base : Nat) (z : Int) (w w' : World) : Prop := Iz e w' base b z ∧ ∀ B, B ≤ w.heap.size → B ≤ b → Below B w w'
theorem qr_fin {w w1 w2 : World} {b bm base : Nat} {Q R : Int} {en : Ending} (hz : Zc w b) (hr : Zc w bm) (ne : bm ≠ b) (hb1 : base ≤ w.heap.size) (hb2 : base ≤ b) (hb3 : base ≤ bm) (hw1 : Below w.heap.size w w1) (hS : QrZ 23 b bm Q R w1 en w2) :
 en = .returned (.tuple #[.pointer (some ⟨b, 0, none⟩), .pointer (some ⟨bm, 0, none⟩)]) ∧ Iz 23 w2 base b Q ∧ (∀ B, B ≤ w.heap.size → B ≤ b → B ≤ bm → Below B w w2) ∧
  (∃ ar kr cr, In 23 w2 0 bm (decide (R < 0)) ar kr cr R.natAbs ∧ blkOf ar ≠ some b) ∧ ∀ {g : Option Addr} {n c : Nat} {xs : List Nat}, Fr 23 w1 w.heap.size g n c xs → Fr 23 w2 w.heap.size g n c xs := by
 have hs1 := hw1.size
 have hbl := hz.lt
 have hml := hr.lt
 obtain ⟨he, iq, _⟩ := hS.in_ (hz.stay hw1) (hr.stay hw1) ne (Nat.le_trans hb1 hs1) hb2 hb3
 have hB : ∀ B, B ≤ w.heap.size → B ≤ b → B ≤ bm → Below B w w2 := fun B h1 h2 h3 => hS.below (hw1.mono h1) (Nat.le_trans h1 hs1) h2 h3
 obtain ⟨aq, kq, cq, ar, kr, cr, wq, _, hbq, fq, fr, rfl⟩ := hS
 have Zm := (hr.stay hw1).stay hbq
 have ir := setIn_in Zm (decide (R < 0)) (fr.mono (Nat.zero_le _)) (fr_ne fr (by omega)) (Nat.zero_le _)
 exact ⟨he, iq, hB, ⟨ar, kr, cr, ir.other (setIn_grown _ b _ _) ne (fr_ne fr (by omega)), fr_ne fr (by omega)⟩, fun hf => fr_setIn (fr_setIn (hf.below hbq) hml) hbl⟩
theorem nbDivModI_any (b bm base B1 B2 b1 b2 : Nat) (x : Int) (y : Nat) (w : World) (hz : Zc w b) (hr : Zc w bm) (ne : bm ≠ b) (hb1 : base ≤ w.heap.size) (hb2 : base ≤ b) (hb3 : base ≤ bm) (h1 : Iz 23 w B1 b1 x) (h2 : Iz 23 w B2 b2 (y : Int)) (hy : y ≠ 0) (l1 : ln x.natAbs ≤ 4096) (l2 : ln y ≤ 4096) :
 Calls Tryz.prog 191 #[.pointer (some ⟨b, 0, none⟩), .pointer (some ⟨b1, 0, none⟩), .pointer (some ⟨b2, 0, none⟩), .pointer (some ⟨bm, 0, none⟩)] w fun en w' => en = .returned (.tuple #[.pointer (some ⟨b, 0, none⟩), .pointer (some ⟨bm, 0, none⟩)]) ∧ Iz 23 w' base b (x / (y : Int)) ∧ ∀ B, B ≤ w.heap.size → B ≤ b → B ≤ bm → Below B w w' := by
 have hQ : ∀ W, Below w.heap.size w W → Calls Tryz.prog 231 #[.pointer (some ⟨b, 0, none⟩), .pointer (some ⟨b1, 0, none⟩), .pointer (some ⟨b2, 0, none⟩), .pointer (some ⟨bm, 0, none⟩)] W (QrZ 23 b bm (x.tdiv y) (x.tmod y) W) := fun W hW =>
  nbQuoRem_any b bm B1 B2 b1 b2 x (y : Int) W (hz.stay hW) (hr.stay hW) ne (h1.stay hW) (h2.stay hW) (by omega) (by omega)
 have hF := tdiv_floor x hy
 have hq : (x.tdiv y).natAbs ≤ x.natAbs := by rw [Int.natAbs_tdiv]; exact Nat.div_le_self _ _
 have hrl : (x.tmod y).natAbs < y := by rw [Int.natAbs_tmod, Int.natAbs_natCast]; exact Nat.mod_lt _ (by omega)
 have lq : ln (x.tdiv y).natAbs ≤ 4096 := Nat.le_trans (ln_mono hq) l1
 have lr : ln (x.tmod y).natAbs ≤ ln y := ln_mono (by omega)
 rw [hF]
 obtain ⟨a2, n2, c2, h2⟩ := iz_nat h2
 have hn2 : n2 ≤ 4096 := by rw [h2.len]; exact l2
 have hn3 : ln (x.tmod y).natAbs ≤ n2 := by rw [h2.len]; exact lr
 clear l2 lr
 have hC : ∀ W, Below w.heap.size w W → Calls Tryz.prog 159 #[.slice a2 n2 c2] W (fun e w' => ∃ g, e = .returned (.slice (some ⟨g, 0, none⟩) n2 n2) ∧ Fr 23 w' W.heap.size (some ⟨g, 0, none⟩) n2 n2 (limbs y) ∧ Below W.heap.size W w') := fun W hW => by
  refine (nbCopied_any a2 n2 c2 (limbs y) W (h2.fr.sl.below hW) (by omega)).mono ?_
  rintro e w' ⟨g, rfl, ho, hb1⟩
  have := fr_copied ho h2.fr.sl (fine_limbs y)
  rw [val_limbs'] at this
  exact ⟨g, rfl, this, hb1⟩
 obtain ⟨e0, e1, _, _, _, _, _⟩ := h2
 have hbl := hz.lt
 have hml := hr.lt
 generalize x.tdiv y = Q at *
 generalize x.tmod y = R at *
 clear h1 hq hF l1
 by_cases hR : R < 0
 · rw [if_pos hR]
   go_enter Tryz.func191, Tryz.ntmps191
   go_wp2_with fail
   (with_reducible refine (hC w (Below.refl _ _)).mono ?_)
   rintro e w1 ⟨g, rfl, F1, hw1⟩
   go_wp2_with fail
   (with_reducible refine (hQ w1 hw1).mono ?_)
   rintro e w2 hS
   obtain ⟨rfl, I2, hB2, ⟨ar, kr, cr, M2, hnb⟩, hF2⟩ := qr_fin hz hr ne hb1 hb2 hb3 hw1 hS
   have F2 := hF2 F1
   have hs2 : w.heap.size ≤ w2.heap.size := (hB2 0 (Nat.zero_le _) (Nat.zero_le _) (Nat.zero_le _)).size
   have m0 := M2.c0
   rw [decide_eq_true hR] at m0
   have hN := nbNewZ_any 1 w2 (by decide)
   clear hS hF2 F1 hw1 hC hQ e0 e1
   go_wp2_with fail
   refine hN.mono ?_
   rintro e w3 ⟨t, rfl, I3, hb3'⟩
   have hs3 := hb3'.size
   have hSub := nbISub_any b w3.heap.size base w2.heap.size b t Q 1 w3 (I2.zc.stay hb3') (Nat.le_refl _) (I2.stay hb3') I3 (by omega) (by decide)
   go_wp2_with fail
   refine hSub.mono ?_
   rintro e w4 hS4
   have hB4 : ∀ B, B ≤ w.heap.size → B ≤ b → B ≤ bm → Below B w w4 := fun B q1 q2 q3 => hS4.below ((hB2 B q1 q2 q3).trans (hb3'.mono (by omega))) (by omega) q2
   obtain ⟨ao, k, c, wz, rfl, hbz, fz, hnz, rfl⟩ := hS4
   have Zb := (I2.zc.stay hb3').stay hbz
   have I4 := setIn_in Zb (decide (Q - 1 < 0)) (fz.mono (by omega : base ≤ w3.heap.size)) hnz hb2
   have M4 := ((M2.stay hb3').stay hbz).other (setIn_grown wz b (decide (Q - 1 < 0)) (.slice ao k c)) ne hnb
   have F4 := fr_setIn (s := decide (Q - 1 < 0)) (v := .slice ao k c) ((F2.below hb3').below hbz) hbl
   have hs4 : wz.heap.size ≤ (setIn wz b (decide (Q - 1 < 0)) (.slice ao k c)).heap.size := (setIn_grown wz b _ _).size
   have hsz := hbz.size
   have hne2 : blkOf ao ≠ some bm := fr_ne fz (by omega)
   clear hSub hN I3 hb3' hbz fz hnz Zb F2 M2 I2 hB2 m0
   generalize setIn wz b (decide (Q - 1 < 0)) (.slice ao k c) = w4 at *
   have m0 := M4.c0
   have m1 := M4.c1
   have hkr : kr ≤ n2 := by rw [M4.len]; exact hn3
   have hSw := nbSubW_any (some ⟨g, 0, none⟩) ar n2 kr n2 cr (limbs y) (limbs R.natAbs) w4 F4.sl M4.fr.sl (by omega) (by omega) (by rw [val_limbs', val_limbs']; omega)
   go_wp2_with fail
   refine hSw.mono ?_
   rintro e w5 ⟨au, ku, cu, rfl, f5, hb5⟩
   have hSt := nbSet_any bm false au ku cu _ _ w5 (M4.zc.stay hb5) f5
   go_wp2_with fail
   refine hSt.mono ?_
   rintro e w6 ⟨rfl, rfl⟩
   have I6 := (I4.stay hb5).other (setIn_grown w5 bm (nzB false (val (limbs y) - val (limbs R.natAbs))) (.slice au ku cu)) (Ne.symm ne) hne2
   have hB6 : ∀ B, B ≤ w.heap.size → B ≤ b → B ≤ bm → Below B w (setIn w5 bm (nzB false (val (limbs y) - val (limbs R.natAbs))) (.slice au ku cu)) := fun B q1 q2 q3 =>
    ((hB4 B q1 q2 q3).trans (hb5.mono (by omega))).grown (setIn_grown w5 bm _ _) (Nat.le_trans (Nat.le_trans q1 (by omega)) hb5.size) (fun j hj => by cases hj; exact q3)
   clear hSt hSw f5 I4 M4 F4 m0 m1
   go_wp2
   go_ret2
   exact ⟨rfl, ⟨_, _, _, I6⟩, hB6⟩
 · rw [if_neg hR]
   go_enter Tryz.func191, Tryz.ntmps191
   go_wp2_with fail
   (with_reducible refine (hC w (Below.refl _ _)).mono ?_)
   rintro e w1 ⟨g, rfl, F1, hw1⟩
   go_wp2_with fail
   (with_reducible refine (hQ w1 hw1).mono ?_)
   rintro e w2 hS
   obtain ⟨rfl, I2, hB2, ⟨ar, kr, cr, M2, hnb⟩, _⟩ := qr_fin hz hr ne hb1 hb2 hb3 hw1 hS
   have m0 := M2.c0
   rw [decide_eq_false (by omega)] at m0
   clear hS F1 hw1 hC hQ e0 e1
   go_wp2
   go_ret2
   exact ⟨rfl, I2, hB2⟩
theorem nbDivI_any (b base B1 B2 b1 b2 : Nat) (x : Int) (y : Nat) (w : World) (hz : Zc w b) (hb1 : base ≤ w.heap.size) (hb2 : base ≤ b) (h1 : Iz 23 w B1 b1 x) (h2 : Iz 23 w B2 b2 (y : Int)) (hy : y ≠ 0) (l1 : ln x.natAbs ≤ 4096) (l2 : ln y ≤ 4096) :
 Calls Tryz.prog 136 #[.pointer (some ⟨b, 0, none⟩), .pointer (some ⟨b1, 0, none⟩), .pointer (some ⟨b2, 0, none⟩)] w fun en w' => en = .returned (.pointer (some ⟨b, 0, none⟩)) ∧ DvZ 23 b base (x / (y : Int)) w w' := by
 have hbl := hz.lt
 have hW := more (Below.refl w.heap.size w) (.cells #[.bool false, .slice none 0 0] 154)
 have hQ := nbDivModI_any b w.heap.size base B1 B2 b1 b2 x y (w.alloc (.cells #[.bool false, .slice none 0 0] 154)) (hz.stay hW) (zc_new _ _ _ _) (by omega) (Nat.le_trans hb1 hW.size) hb2 hb1 (h1.stay hW) (h2.stay hW) hy l1 l2
 generalize x / (y : Int) = Q at *
 clear h1 h2 l1 l2 hy
 go_enter Tryz.func136, Tryz.ntmps136
 go_wp2_with fail
 refine hQ.mono ?_
 rintro e w2 ⟨rfl, I2, hB⟩
 go_wp2
 go_ret
 exact ⟨rfl, I2, fun B q1 q2 => (hW.mono q1).trans (hB B (Nat.le_trans q1 hW.size) q2 q1)⟩
end
end Go.Proofs.YtoiifhmepniniaaGreatDoor
