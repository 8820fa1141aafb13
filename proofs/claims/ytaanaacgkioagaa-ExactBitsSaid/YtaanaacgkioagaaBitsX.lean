/-
  The walk of exact.Bits, the ways on which there is a float.
-/
import Derived.Test.YtaanaacgkioagaaBitsW
namespace Go.Proofs.Ytaanaacgkioagaa
open Go.RowKit Go.Lb

set_option maxRecDepth 100000 in
set_option maxHeartbeats 2000000 in
theorem exBits_norm (e f : Nat) (he1 : 2 ≤ e) (he : e ≤ 11) (hf1 : 1 ≤ f) (hf : f ≤ 52) (neg : Bool) (ao : Option Addr) (n c : Nat) (x : Int) (xs : List Nat) (w : World) (h : Sl w ao n c xs) (h1 : dchk neg xs x = 0) (hn : noneB n = false) (s m : Nat) (hs : bitsN xs = (s : Int)) (hsl : s ≤ 524288) (hm : lowN xs = m) (hx1 : -1073741824 ≤ x) (hx2 : x ≤ 1073741824) (hA : s ≤ f + 1) (hB : 1 ≤ x + s - 1 + biasN e) (hC : ¬ 2 * (biasN e : Int) < x + s - 1 + biasN e) (hs1 : 1 ≤ s) (hlo : pw (s - 1) ≤ m) (hhi : m < pw s) :
    Calls Try.prog 6 #[.agg #[.int .i64 e, .int .i64 f], .agg #[.bool neg, .slice ao n c, .int .i64 x]] w fun en w' => en = .returned (.tuple #[.int .u64 (joinN e f neg (x + s - 1 + biasN e).toNat (m * pw (f + 1 - s) - pw f) : Int), .bool true, .int .i64 0]) ∧ Below w.heap.size w w' := by
  have hmb : 2 * (biasN e : Int) ≤ maskN e := by have := biasN_two he1; rw [maskN_eq]; omega
  have Hmb := Lib.hid hmb
  clear hmb
  obtain ⟨q1, q2⟩ := shift_top (k := f + 1 - s) (f := f) hs1 hlo hhi (by omega)
  have hk : (x - (x + (s : Int) - 1 - (f : Int))).toNat = f + 1 - s := by omega
  obtain ⟨fr, hfr0⟩ : ∃ fr, fr = m * pw (f + 1 - s) - pw f := ⟨_, rfl⟩
  have hT : bits BinOp.andNot IntKind.u64 (IntKind.u64.wrap ((m : Int) * 2 ^ (x - (x + (s : Int) - 1 - (f : Int))).toNat)) (IntKind.u64.wrap (2 ^ f)) = (fr : Int) := by
    rw [hk, shl_clear q2 (by omega), hfr0, Nat.mod_eq_sub_mod q1, Nat.mod_eq_of_lt (by rw [pw_succ] at q2; omega)]
  have hfr : fr ≤ maskN f := by rw [pw_succ] at q2; rw [maskN_eq]; omega
  have Hfr := Lib.hid hfr0
  have HT := Lib.hid hT
  have HF := Lib.hid hfr
  have HS := Lib.hid hs1
  clear hs1 hfr hT hk hfr0 q1 q2 hlo hhi
  have hok : formE (e : Int) (f : Int) = 0 := formE_yes (by omega)
  have hokb : (formE (e : Int) (f : Int) == 0) = true := by simp [hok]
  clear hok
  have h1c : (dchk neg xs x != 0) = false := by simp [h1]
  have hbias := bias_wrap he
  have hble := biasN_le he
  have hbpos := biasN_pos he1
  have hpwe := pw_wrap he
  have htwo := biasN_two he1
  have hple : pw e ≤ 2048 := by omega
  have h2b : pw e = 2 * biasN e + 2 := by omega
  have H2b := Lib.hid h2b
  clear h1 htwo h2b
  have hAd : decide ((f : Int) + 1 < s) = false := by simp; omega
  have hBd : decide (x < x + s - 1 - f) = false := by simp; omega
  have hCd : decide ((pw e : Int) - 2 < x + s - 1 + biasN e) = false := by have := H2b.out; simp; omega
  go_enter Try.func6, Try.ntmps6
  go_wp2_with (first
    | (go_at_call 16; refine (formCheck_any (e : Int) (f : Int) _).mono ?_; rintro en w1 ⟨rfl, hb1⟩; obtain ⟨hc1, hz01⟩ := bcell hb1; obtain ⟨hz1, hy1⟩ := bsz2 hb1; have S1 := ((h.alloc _).alloc _).below hb1)
    | (go_at_call 7; refine (dyCheck_any neg ao n c x xs _ S1).mono ?_; rintro en w2 ⟨rfl, hb2⟩; obtain ⟨hc2, hz02⟩ := bcell hb2; obtain ⟨hz2, hy2⟩ := bsz hb2 hz1 hy1; have S2 := S1.below hb2)
    | (go_at_call 17; refine (none_any ao n c _).mono ?_; rintro en w3 ⟨rfl, hb3⟩; obtain ⟨hc3, hz03⟩ := bcell hb3; obtain ⟨hz3, hy3⟩ := bsz hb3 hz2 hy2; have S3 := S2.below hb3)
    | (go_at_call 18; refine (natBits_any ao n c xs _ S3).mono ?_; rintro en w4 ⟨rfl, hb4⟩; obtain ⟨hc4, hz04⟩ := bcell hb4; obtain ⟨hz4, hy4⟩ := bsz hb4 hz3 hy3; have S4 := S3.below hb4)
    | (go_at_call 19; refine (natLow_any ao n c xs _ S4).mono ?_; rintro en w5 ⟨rfl, hb5⟩; obtain ⟨hc5, hz05⟩ := bcell hb5; obtain ⟨hz5, hy5⟩ := bsz hb5 hz4 hy4))
  go_quiet (fail)
  go_wp2
  go_region
  all_goals go_wp2_with (go_at_call 20; go_loud (rw [HT.out]); go_loud (with_reducible refine (Join_anyI e f neg _ fr _ he1 he hf1 hf (by omega) (Int.le_trans (by omega) Hmb.out) HF.out).mono ?_); rintro en w6 ⟨rfl, hb6⟩)
  all_goals go_ret3
  all_goals exact ⟨by rw [← Hfr.out]; rfl, (by repeat (first | exact Below.refl _ _ | assumption | refine drewn ?_ _ | refine Below.drew ?_ | refine next ?_ (by assumption) | refine more ?_ _ | refine Below.setCell ?_ (by simp; omega) _))⟩

set_option maxRecDepth 100000 in
set_option maxHeartbeats 2000000 in
theorem exBits_sub (e f : Nat) (he1 : 2 ≤ e) (he : e ≤ 11) (hf1 : 1 ≤ f) (hf : f ≤ 52) (neg : Bool) (ao : Option Addr) (n c : Nat) (x : Int) (xs : List Nat) (w : World) (h : Sl w ao n c xs) (h1 : dchk neg xs x = 0) (hn : noneB n = false) (s m : Nat) (hs : bitsN xs = (s : Int)) (hsl : s ≤ 524288) (hm : lowN xs = m) (hx1 : -1073741824 ≤ x) (hx2 : x ≤ 1073741824) (hA : s ≤ f + 1) (hB : x + s - 1 + biasN e < 1) (hC : ¬ x < 1 - (biasN e : Int) - f) (hhi : m < pw s) :
    Calls Try.prog 6 #[.agg #[.int .i64 e, .int .i64 f], .agg #[.bool neg, .slice ao n c, .int .i64 x]] w fun en w' => en = .returned (.tuple #[.int .u64 (joinN e f neg 0 (m * pw (x - (1 - (biasN e : Int) - f)).toNat) : Int), .bool true, .int .i64 0]) ∧ Below w.heap.size w w' := by
  have hble0 := biasN_le he
  have q2 := shift_low (k := (x - (1 - (biasN e : Int) - f)).toNat) (f := f) hhi (by omega)
  obtain ⟨fr, hfr0⟩ : ∃ fr, fr = m * pw (x - (1 - (biasN e : Int) - f)).toNat := ⟨_, rfl⟩
  have hT : bits BinOp.andNot IntKind.u64 (IntKind.u64.wrap ((m : Int) * 2 ^ (x - (1 - (biasN e : Int) - f)).toNat)) (IntKind.u64.wrap (2 ^ f)) = (fr : Int) := by
    rw [shl_clear (by rw [pw_succ]; omega) (by omega), hfr0, Nat.mod_eq_of_lt q2]
  have hfr : fr ≤ maskN f := by rw [maskN_eq]; omega
  have Hfr := Lib.hid hfr0
  have HT := Lib.hid hT
  have HF := Lib.hid hfr
  clear hfr hT hble0 hfr0 q2 hhi
  have hok : formE (e : Int) (f : Int) = 0 := formE_yes (by omega)
  have hokb : (formE (e : Int) (f : Int) == 0) = true := by simp [hok]
  clear hok
  have h1c : (dchk neg xs x != 0) = false := by simp [h1]
  have hbias := bias_wrap he
  have hble := biasN_le he
  have hbpos := biasN_pos he1
  have hpwe := pw_wrap he
  have htwo := biasN_two he1
  have hple : pw e ≤ 2048 := by omega
  have h2b : pw e = 2 * biasN e + 2 := by omega
  have H2b := Lib.hid h2b
  clear h1 htwo h2b
  have hAd : decide ((f : Int) + 1 < s) = false := by simp; omega
  have hBd : decide (x < 1 - (biasN e : Int) - f) = false := by simp; omega
  have hCd : decide ((pw e : Int) - 2 < 0) = false := by have := H2b.out; simp; omega
  go_enter Try.func6, Try.ntmps6
  go_wp2_with (first
    | (go_at_call 16; refine (formCheck_any (e : Int) (f : Int) _).mono ?_; rintro en w1 ⟨rfl, hb1⟩; obtain ⟨hc1, hz01⟩ := bcell hb1; obtain ⟨hz1, hy1⟩ := bsz2 hb1; have S1 := ((h.alloc _).alloc _).below hb1)
    | (go_at_call 7; refine (dyCheck_any neg ao n c x xs _ S1).mono ?_; rintro en w2 ⟨rfl, hb2⟩; obtain ⟨hc2, hz02⟩ := bcell hb2; obtain ⟨hz2, hy2⟩ := bsz hb2 hz1 hy1; have S2 := S1.below hb2)
    | (go_at_call 17; refine (none_any ao n c _).mono ?_; rintro en w3 ⟨rfl, hb3⟩; obtain ⟨hc3, hz03⟩ := bcell hb3; obtain ⟨hz3, hy3⟩ := bsz hb3 hz2 hy2; have S3 := S2.below hb3)
    | (go_at_call 18; refine (natBits_any ao n c xs _ S3).mono ?_; rintro en w4 ⟨rfl, hb4⟩; obtain ⟨hc4, hz04⟩ := bcell hb4; obtain ⟨hz4, hy4⟩ := bsz hb4 hz3 hy3; have S4 := S3.below hb4)
    | (go_at_call 19; refine (natLow_any ao n c xs _ S4).mono ?_; rintro en w5 ⟨rfl, hb5⟩; obtain ⟨hc5, hz05⟩ := bcell hb5; obtain ⟨hz5, hy5⟩ := bsz hb5 hz4 hy4))
  go_region
  all_goals go_wp2
  all_goals go_quiet (fail)
  all_goals go_wp2
  all_goals go_region
  all_goals go_wp2_with (go_at_call 20; go_loud (rw [HT.out]); go_loud (with_reducible refine (Join_anyI e f neg _ fr _ he1 he hf1 hf (by decide) (Int.natCast_nonneg _) HF.out).mono ?_); rintro en w6 ⟨rfl, hb6⟩)
  all_goals go_ret3
  all_goals exact ⟨by rw [← Hfr.out]; rfl, (by repeat (first | exact Below.refl _ _ | assumption | refine drewn ?_ _ | refine Below.drew ?_ | refine next ?_ (by assumption) | refine more ?_ _ | refine Below.setCell ?_ (by simp; omega) _))⟩

end Go.Proofs.Ytaanaacgkioagaa
