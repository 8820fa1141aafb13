/-
  Contracts of numeral/numeralref05: power, log. Contracts of numeral/numeralref05: whole (and NewRat of numeralbig).
-/
import Derived.Test.YtaddnoneoflimaaGreatDoorQbNNbU
import Derived.Test.YtaddnoneoflimaaGreatDoorQbNMN19
import Derived.Test.YtaddnoneoflimaaGreatDoorQbNRdA
import Derived.Deep.DrawnRows
namespace Go.Proofs.YtaddnoneoflimaaGreatDoor

open Go.RowKit Go.Lb

theorem p2_int (k : Nat) : (((1 : Int) * 2 ^ k : Int) : Rat) = p2 (k : Int) := by
  rw [p2_nat, Int.one_mul, show ((2 : Int) ^ k) = ((2 ^ k : Nat) : Int) by simp]
  rfl

set_option maxRecDepth 100000 in
set_option maxHeartbeats 2000000 in
theorem nbPower_any (n : Int) (w : World) (h1 : -8388608 ≤ n) (h2 : n ≤ 8388608) :
    Calls Tryz.prog 302 #[.int .i64 n] w (MkQ 23 (p2 n) w) := by
  obtain ⟨k, hk⟩ : ∃ k : Nat, (k : Int) = max n (-n) := ⟨n.natAbs, by omega⟩
  have hkb : k ≤ 8388608 := by omega
  have hwn : IntKind.i64.wrap (-n) = -n := IntWalk.i64_in _ (by omega)
  have hwk : IntKind.u64.wrap (k : Int) = (k : Int) := IntWalk.u64_in _ (by omega)
  obtain ⟨W1, hW1⟩ : ∃ W1 : World, W1 = w.alloc (.cells #[.bool false, .slice none 0 0, .slice none 0 0] 280) := ⟨_, rfl⟩
  obtain ⟨W2, hW2⟩ : ∃ W2 : World, W2 = W1.alloc (.cells #[.bool false, .slice none 0 0] 191) := ⟨_, rfl⟩
  have hs1 : W1.heap.size = w.heap.size + 1 := by rw [hW1]; simp
  have hz : Zc W2 (w.heap.size + 1) := by rw [← hs1, hW2]; exact zc_new _ _ _ _
  have hr : Res3 W1 w.heap.size := by rw [hW1]; exact res_new _ _ _ _ _
  have hb1 : Below w.heap.size w W1 := hW1 ▸ more (Below.refl _ _) _
  have hb2 : Below W1.heap.size W1 W2 := hW2 ▸ more (Below.refl _ _) _
  have HN := nbNewZ_any 1 W2 (by decide)
  have hq : p2 n = if n < 0 then (p2 (k : Int))⁻¹ else p2 (k : Int) := by
    split
    · rw [← p2_neg]; congr 1; omega
    · congr 1; omega
  have hp := p2_parts (k : Int)
  have l1 : ln (p2 (k : Int)).num.natAbs ≤ 4294967296 := by rw [hp.1, Int.natAbs_natCast, Int.toNat_natCast]; have := ln_p2 k; omega
  have l2 : ln (p2 (k : Int)).den ≤ 4294967296 := by
    rw [hp.2]
    have := ln_p2 (-(k : Int)).toNat
    omega
  have HL1 := Lib.hid l1
  have HL2 := Lib.hid l2
  have HQ := Lib.hid hq
  have HS1 := Lib.hid hs1
  have hl2 : ln ((1 : Int) * 2 ^ k).natAbs ≤ 4294967296 := by
    rw [Int.one_mul, show ((2 : Int) ^ k) = ((2 ^ k : Nat) : Int) by simp, Int.natAbs_natCast]
    have := ln_p2 k; omega
  have HL3 := Lib.hid hl2
  clear hp l1 l2 hq hs1 hl2
  generalize hmx : max n (-n) = mx at *
  subst hk
  by_cases hn : n < 0
  all_goals
    go_enter Tryz.func302, Tryz.ntmps302
    go_wp2_with fail
    rw [← hW1, ← hW2]
    clear hW1 hW2
    refine HN.mono ?_
    rintro en w3 ⟨bt, rfl, I1, hb3⟩
    have hL := nbLsh_any (w.heap.size + 1) W1.heap.size W2.heap.size bt k 1 w3 (hz.stay hb3) (by have := hb2.size; have := hb3.size; omega) I1 (by decide) (by omega)
    go_wp2_with fail
    refine hL.mono ?_
    rintro en w4 hS4
    have hb4 : Below W1.heap.size W1 w4 := hS4.below (next hb2 hb3) (by have := hb2.size; have := hb3.size; omega) (by rw [HS1.out]; exact Nat.le_refl _)
    obtain ⟨rfl, I4, _⟩ := hS4.in_ (hz.stay hb3) (by rw [HS1.out]; exact Nat.le_refl _)
    have hT := nbRSetInt_any w.heap.size w.heap.size W1.heap.size (w.heap.size + 1) _ w4 (hr.stay hb4) (Nat.le_refl _) I4 HL3.out
    rw [p2_int] at hT
    go_wp2_with fail
    refine hT.mono ?_
    rintro en w5 ⟨rfl, Q5, hg5⟩
    have hb5 : Below w.heap.size w w5 := (next hb1 hb4).grown hg5 (Nat.le_trans hb1.size hb4.size) (fun k hk => by cases hk; exact Nat.le_refl _)
  · have hI := nbRInv_any w.heap.size w.heap.size w.heap.size w.heap.size (p2 (k : Int)) w5 Q5.res (Nat.le_refl _) Q5 (p2_ne _) HL1.out HL2.out
    go_wp2_with fail
    refine hI.mono ?_
    rintro en w6 ⟨rfl, Q6, hg6⟩
    go_wp2
    go_ret
    refine ⟨_, rfl, ?_, hb5.grown hg6 hb5.size (fun k hk => by cases hk; exact Nat.le_refl _)⟩
    rw [HQ.out, if_pos hn]
    exact Q6
  · go_wp2
    go_ret
    refine ⟨_, rfl, ?_, hb5⟩
    rw [HQ.out, if_neg (by omega)]
    exact Q5

set_option maxRecDepth 100000 in
set_option maxHeartbeats 2000000 in
theorem nbLog_any (B b : Nat) (x : Rat) (w : World) (h : Rq 23 w B b x) (hx : 0 < x) (l1 : ln x.num.natAbs ≤ 65536) (l2 : ln x.den ≤ 65536) :
    Calls Tryz.prog 331 #[.pointer (some ⟨b, 0, none⟩)] w fun e w' => e = .returned (.int .i64 (lgE x.num.natAbs x.den)) ∧ Below w.heap.size w w' := by
  have m1 := bl_le x.num.natAbs
  have m2 := bl_le x.den
  obtain ⟨e, he⟩ : ∃ e, e = (blN x.num.natAbs : Int) - blN x.den := ⟨_, rfl⟩
  have HE : Hid (lgE x.num.natAbs x.den = if 0 < cmpQ (p2 e) x then e - 1 else e) := Lib.hid (by
    unfold lgE
    rw [← he]
    by_cases hc : scN x.num.natAbs (-e) < scD x.den (-e)
    · rw [if_pos hc, if_pos ((cmp_p2 hx e).2 hc)]
    · rw [if_neg hc, if_neg (fun hh => hc ((cmp_p2 hx e).1 hh))])
  have he1 : -2097152 ≤ e := by omega
  have he2 : e ≤ 2097152 := by omega
  have hwe : IntKind.i64.wrap e = e := IntWalk.i64_in _ (by omega)
  have hwd : IntKind.i64.wrap (e - 1) = e - 1 := IntWalk.i64_in _ (by omega)
  have hB1 : ∀ (W : World) (B' b' : Nat), Iz 23 W B' b' x.num → Calls Tryz.prog 403 #[.pointer (some ⟨b', 0, none⟩)] W fun e w' => e = .returned (.int .i64 (blN x.num.natAbs : Int)) ∧ W = w' := fun W B' b' hI => nbBitLenZ_any b' B' _ W hI (by omega)
  have hB2 : ∀ (W : World) (B' b' : Nat), Iz 23 W B' b' (x.den : Int) → Calls Tryz.prog 403 #[.pointer (some ⟨b', 0, none⟩)] W fun e w' => e = .returned (.int .i64 (blN x.den : Int)) ∧ W = w' := fun W B' b' hI => by
    have := nbBitLenZ_any b' B' _ W hI (by rw [Int.natAbs_natCast]; omega)
    rwa [Int.natAbs_natCast] at this
  have hN := nbRNumZ_any b B x w h (by omega)
  have hD : ∀ W, Below w.heap.size w W → Calls Tryz.prog 294 #[.pointer (some ⟨b, 0, none⟩)] W (MkZ 23 (x.den : Int) W) := fun W hW => nbRDenomZ_any b B x W (h.stay hW) (by omega)
  obtain ⟨q1, q2⟩ := p2_parts e
  have k1 : ln (p2 e).num.natAbs ≤ 67108864 := by rw [q1, Int.natAbs_natCast]; have := ln_p2 e.toNat; omega
  have k2 : ln (p2 e).den ≤ 67108864 := by rw [q2]; have := ln_p2 (-e).toNat; omega
  have hP : ∀ W, Calls Tryz.prog 302 #[.int .i64 e] W (MkQ 23 (p2 e) W) := fun W => nbPower_any e W (by omega) (by omega)
  have hC : ∀ (W : World) (B' b' : Nat), Rq 23 W B' b' (p2 e) → Below w.heap.size w W → Calls Tryz.prog 297 #[.pointer (some ⟨b', 0, none⟩), .pointer (some ⟨b, 0, none⟩)] W fun en w' => en = .returned (.int .i64 (cmpQ (p2 e) x)) ∧ Below W.heap.size W w' := fun W B' b' hQ hW => nbRCmp_any b' b B' B (p2 e) x W hQ (h.stay hW) k1 k2 (by omega) (by omega)
  have u1 : blN x.num.natAbs ≤ 2097152 := by omega
  have u2 : blN x.den ≤ 2097152 := by omega
  clear q1 q2 k1 k2 l1 l2 h hx
  have hsub : (blN x.num.natAbs : Int) - (blN x.den : Int) = e := he.symm
  clear he m1 m2
  generalize hcq : cmpQ (p2 e) x = cq at *
  generalize blN x.num.natAbs = nb at *
  generalize blN x.den = db at *
  generalize lgE x.num.natAbs x.den = R at *
  clear hcq
  by_cases hcc : 0 < cq
  all_goals
    go_enter Tryz.func331, Tryz.ntmps331
    go_wp2_with fail
    refine hN.mono ?_
    rintro en w1 ⟨t1, rfl, I1, hb1⟩
    go_wp2_with fail
    refine (hB1 _ _ _ I1).mono ?_
    rintro en w2 ⟨rfl, rfl⟩
    go_wp2_with fail
    refine (hD _ hb1).mono ?_
    rintro en w2 ⟨t2, rfl, I2, hb2⟩
    have V2 := next hb1 hb2
    go_wp2_with fail
    refine (hB2 _ _ _ I2).mono ?_
    rintro en w3 ⟨rfl, rfl⟩
    go_wp2_with fail
    refine (hP _).mono ?_
    rintro en w4 ⟨t4, rfl, Q4, hb4⟩
    have V4 := next V2 hb4
    go_wp2_with fail
    refine (hC _ _ _ Q4 V4).mono ?_
    rintro en w5 ⟨rfl, hb5⟩
    have V5 := next V4 hb5
    go_wp2
    go_ret
  · exact ⟨by rw [HE.out, if_pos hcc]; rfl, V5⟩
  · exact ⟨by rw [HE.out, if_neg (by omega)]; rfl, V5⟩

theorem nbBias_any (E : Nat) (f : Int) (w : World) (h1 : 2 ≤ E) (h2 : E ≤ 11) :
    Calls Tryz.prog 303 #[.agg #[.int .i64 (E : Int), .int .i64 f]] w fun en w' => en = .returned (.int .i64 (bsN E : Int)) ∧ Below w.heap.size w w' := by
  have hE : Hid ((bsN E : Int) = 2 ^ (E - 1) - 1) := Lib.hid (by
    unfold bsN
    have := Nat.two_pow_pos (E - 1)
    rw [Int.natCast_sub this]; simp)
  obtain ⟨k, hk⟩ : ∃ k : Nat, k = E - 1 := ⟨_, rfl⟩
  have hk1 : (E : Int) - 1 = (k : Int) := by omega
  have hk2 : k ≤ 10 := by omega
  rw [← hk] at hE
  have hp : (1 : Int) ≤ 2 ^ k ∧ (2 : Int) ^ k ≤ 1024 := by
    have a := Nat.two_pow_pos k
    have b : 2 ^ k ≤ 2 ^ 10 := Nat.pow_le_pow_right (by decide) hk2
    have c : (2 : Int) ^ k = ((2 ^ k : Nat) : Int) := by simp
    rw [c]
    have d : (2 : Nat) ^ 10 = 1024 := by decide
    omega
  have hw1 : IntKind.i64.wrap (2 ^ k) = 2 ^ k := IntWalk.i64_in _ (by omega)
  clear hk
  go_enter Tryz.func303, Tryz.ntmps303
  go_wp2
  go_ret
  exact ⟨by rw [hE.out]; rfl, more (Below.refl _ _) _⟩

end Go.Proofs.YtaddnoneoflimaaGreatDoor

namespace Go.Proofs.YtaddnoneoflimaaGreatDoor

open Go.RowKit Go.Lb

/-- What is over x's whole part. -/
theorem rest_eq {x : Rat} (hx : 0 ≤ x) : x - (((x.num.natAbs / x.den : Nat) : Int) : Rat) = mkRat ((x.num.natAbs % x.den : Nat) : Int) x.den := by
  have hn : x.num = ((x.num.natAbs : Nat) : Int) := by have := Rat.num_nonneg.2 hx; omega
  rw [Rat.sub_def', Rat.num_intCast, Rat.den_intCast]
  have h := Nat.div_add_mod x.num.natAbs x.den
  rw [Nat.mul_one]
  congr 1
  rw [show ((1 : Nat) : Int) = 1 from rfl, Int.mul_one]
  generalize hQ : x.num.natAbs / x.den = q at *
  generalize hR : x.num.natAbs % x.den = r at *
  rw [hn, ← h, Nat.mul_comm]
  simp
  omega

theorem rest_sign (M : Nat) {D : Nat} (hD : D ≠ 0) : (mkRat (M : Int) D).num.sign = 0 ↔ M = 0 := by
  rw [Int.sign_eq_zero_iff_zero, Rat.num_eq_zero, Rat.mkRat_eq_zero hD]
  omega

theorem rest_half (M : Nat) {D : Nat} (hD : D ≠ 0) : cmpQ (mkRat (M : Int) D) (mkRat 1 2) = cmpN (2 * M) D := by
  have h1 : (mkRat 1 2).num = 1 := by decide
  have h2 : (mkRat 1 2).den = 2 := by decide
  have hc := mk_cross (M : Int) hD
  have hs := (mk_parts (M : Int) hD).2.2
  rw [Int.natAbs_natCast] at hc
  have hp := (mkRat (M : Int) D).den_pos
  rw [cmpQ_cross, h1, h2]
  rw [decide_eq_false (by omega : ¬ (M : Int) < 0)] at hs
  have hs' := of_decide_eq_false hs
  rw [← cmp_mul (a := 2 * M) (b := D) hp, Nat.mul_assoc, ← hc, show 2 * ((mkRat (M : Int) D).num.natAbs * D) = (2 * (mkRat (M : Int) D).num.natAbs) * D by rw [Nat.mul_assoc], Nat.mul_comm D, cmp_mul (Nat.pos_of_ne_zero hD)]
  unfold cmpN
  generalize (mkRat (M : Int) D).num = a at *
  generalize (mkRat (M : Int) D).den = b at *
  (repeat' split) <;> omega

theorem nbHalf_any (w : World) (hT : Tab w) :
    Calls Tryz.prog 298 #[.int .i64 1, .int .i64 2] w (MkQ 23 (mkRat 1 2) w) := by
  obtain ⟨W1, hW1⟩ : ∃ W1 : World, W1 = w.alloc (.cells #[.bool false, .slice none 0 0, .slice none 0 0] 280) := ⟨_, rfl⟩
  have hr : Res3 W1 w.heap.size := by rw [hW1]; exact res_new _ _ _ _ _
  have hb1 : Below w.heap.size w W1 := hW1 ▸ more (Below.refl _ _) _
  have hs1 : w.heap.size < W1.heap.size := by rw [hW1]; simp
  have hF : Calls Tryz.prog 377 #[.pointer (some ⟨w.heap.size, 0, none⟩), .int .i64 1, .int .i64 2] W1 (MkQ 23 (mkRat 1 2) w) := by
    clear hW1
    have HN1 := nbNewZ_any 1 W1 (by decide)
    go_enter Tryz.func377, Tryz.ntmps377
    go_wp2_with fail
    refine HN1.mono ?_
    rintro en w2 ⟨t1, rfl, I1, hb2⟩
    have HN2 := nbNewZ_any 2 w2 (by decide)
    go_wp2_with fail
    refine HN2.mono ?_
    rintro en w3 ⟨t2, rfl, I2, hb3⟩
    have hl1 := I1.le
    have hl2 := I2.le
    have hz2 := hb2.size
    have hb23 := next hb2 hb3
    have hS := nbSetFracZ_any w.heap.size w.heap.size W1.heap.size w2.heap.size t1 t2 1 2 w3 (hr.stay hb23) (I1.stay hb3) I2 (by omega) (by omega) (by decide) (Nat.le_refl _) (by decide) (by decide) (hT.below (next hb1 hb23))
    go_wp2_with fail
    refine hS.mono ?_
    rintro en w4 ⟨rfl, Q4, hg4⟩
    go_wp2
    go_ret
    exact ⟨_, rfl, Q4, (next hb1 hb23).grown hg4 (next hb1 hb23).size (fun k hk => by cases hk; exact Nat.le_refl _)⟩
  go_enter Tryz.func298, Tryz.ntmps298
  go_wp2_with fail
  rw [← hW1]
  refine hF.mono ?_
  rintro en w4 ⟨b, rfl, Q4, hb4⟩
  go_wp2
  go_ret
  exact ⟨b, rfl, Q4, hb4⟩

set_option maxRecDepth 100000 in
set_option maxHeartbeats 4000000 in
theorem nbWholeR_any (B b m : Nat) (x : Rat) (neg : Bool) (w : World) (h : Rq 23 w B b x) (hx : 0 ≤ x) (hm : m < 5) (l1 : ln x.num.natAbs ≤ 1048576) (l2 : ln x.den ≤ 1048576) (hT : Tab w) :
    Calls Tryz.prog 404 #[.pointer (some ⟨b, 0, none⟩), .bool neg, .int .u8 (m : Int)] w (MkZ 23 ((rdN x.num.natAbs x.den neg m : Nat) : Int) w) := by
  have hbl := h.lt
  have hxn : x.num = ((x.num.natAbs : Nat) : Int) := by have := Rat.num_nonneg.2 hx; omega
  have hD0 : x.den ≠ 0 := x.den_nz
  obtain ⟨Q, hQ⟩ : ∃ Q, Q = x.num.natAbs / x.den := ⟨_, rfl⟩
  obtain ⟨M, hM⟩ : ∃ M, M = x.num.natAbs % x.den := ⟨_, rfl⟩
  have lQ : ln Q ≤ 1048576 := by rw [hQ]; exact Nat.le_trans (ln_div _ _) l1
  have hRst := rest_eq hx
  rw [← hQ, ← hM] at hRst
  have hRd : Hid (rdN x.num.natAbs x.den neg m = if M = 0 then Q else Q + (if mdB m neg (decide (Q % 2 = 1)) (cmpN (2 * M) x.den) = true then 1 else 0)) := Lib.hid (by unfold rdN; rw [← hM, ← hQ])
  have lM : ln M ≤ 1048576 := by rw [hM]; exact Nat.le_trans (ln_mod _ _) l1
  obtain ⟨lr1, lr2⟩ := mk_len (M : Int) hD0
  rw [Int.natAbs_natCast] at lr1
  obtain ⟨W1, hW1⟩ : ∃ W1 : World, W1 = w.alloc (.cells #[.bool false, .slice none 0 0] 191) := ⟨_, rfl⟩
  have hz1 : Zc W1 w.heap.size := hW1 ▸ zc_new _ _ _ _
  have hb1 : Below w.heap.size w W1 := hW1 ▸ more (Below.refl _ _) _
  have hs1 : w.heap.size < W1.heap.size := by rw [hW1]; simp
  have hN := nbRNumZ_any b B x W1 (h.stay hb1) (by omega)
  have hD : ∀ W, Below w.heap.size w W → Calls Tryz.prog 294 #[.pointer (some ⟨b, 0, none⟩)] W (MkZ 23 (x.den : Int) W) := fun W hW => nbRDenomZ_any b B x W (h.stay hW) (by omega)
  have HS1 := Lib.hid hs1
  have HXN := Lib.hid hxn
  have HQ := Lib.hid hQ
  have HRst := Lib.hid hRst
  have HX := Lib.hid hx
  clear hs1 hxn hQ hM hRst hx
  go_enter Tryz.func404, Tryz.ntmps404
  go_wp2_with fail
  rw [← hW1]
  clear hW1
  refine hN.mono ?_
  rintro en w2 ⟨t1, rfl, I1, hb2⟩
  have V2 := next hb1 hb2
  go_wp2_with fail
  refine (hD _ V2).mono ?_
  rintro en w3 ⟨t2, rfl, I2, hb3⟩
  have V3 := next V2 hb3
  have U3 : Below W1.heap.size W1 w3 := next hb2 hb3
  rw [HXN.out] at I1
  have hDv := nbDiv_nat w.heap.size w.heap.size W1.heap.size w2.heap.size t1 t2 x.num.natAbs x.den w3 (hz1.stay U3) V3.size (I1.stay hb3) I2 hD0 (by omega) (by omega)
  rw [← HQ.out] at hDv
  go_wp2_with fail
  refine hDv.mono ?_
  rintro en w4 hS4
  have V4 : Below w.heap.size w w4 := hS4.below V3 V3.size (Nat.le_refl _)
  obtain ⟨rfl, I4, _⟩ := hS4.in_ (hz1.stay U3) (Nat.le_refl _)
  clear hS4 hDv hN hD I1 I2 hb2 hb3 U3 V2 V3 hz1 hb1 HS1
  obtain ⟨W5, hW5⟩ : ∃ W5 : World, W5 = w4.alloc (.cells #[.bool false, .slice none 0 0, .slice none 0 0] 280) := ⟨_, rfl⟩
  obtain ⟨W6, hW6⟩ : ∃ W6 : World, W6 = W5.alloc (.cells #[.bool false, .slice none 0 0, .slice none 0 0] 280) := ⟨_, rfl⟩
  have hs5 : W5.heap.size = w4.heap.size + 1 := by rw [hW5]; simp
  have hs6 : W6.heap.size = w4.heap.size + 2 := by rw [hW6]; simp [hs5]
  have hrA : Res3 W5 w4.heap.size := by rw [hW5]; exact res_new _ _ _ _ _
  have hdA : Hd 23 W5 w4.heap.size := by rw [hW5]; exact hd_new _ _ (by decide)
  have hrB : Res3 W6 (w4.heap.size + 1) := by rw [← hs5, hW6]; exact res_new _ _ _ _ _
  have hb5 : Below w4.heap.size w4 W5 := hW5 ▸ more (Below.refl _ _) _
  have hb6 : Below W5.heap.size W5 W6 := hW6 ▸ more (Below.refl _ _) _
  have V6 := next V4 (next hb5 hb6)
  have hSI := nbRSetInt_any (w4.heap.size + 1) (w4.heap.size + 1) w.heap.size w.heap.size _ W6 hrB (Nat.le_refl _) (I4.stay (next hb5 hb6)) (by rw [Int.natAbs_natCast]; omega)
  have HS5 := Lib.hid hs5
  have HS6 := Lib.hid hs6
  clear hs5 hs6
  go_wp2_with fail
  rw [← hW5, ← hW6]
  clear hW5 hW6
  refine hSI.mono ?_
  rintro en w7 ⟨rfl, Q7, hg7⟩
  have hb7 : Below W5.heap.size W5 w7 := hb6.grown hg7 hb6.size (fun k hk => by cases hk; rw [HS5.out]; exact Nat.le_refl _)
  have V5 := next V4 hb5
  have V7 := next V5 hb7
  have hw4 := V4.size
  have hdA7 := hdA.stay (by rw [HS5.out]; exact Nat.lt_succ_self _) hb7
  have hSb := nbRSub_any w4.heap.size w4.heap.size B (w4.heap.size + 1) b (w4.heap.size + 1) x ((Q : Int) : Rat) w7 (hrA.stay hb7) hdA7 (Nat.le_refl _) (h.stay V7) Q7 (by omega) (by omega) (by rw [Rat.num_intCast, Int.natAbs_natCast]; omega) (by rw [Rat.den_intCast]; decide) (hT.below V7)
  rw [HRst.out] at hSb
  go_wp2_with fail
  refine hSb.mono ?_
  rintro en w8 ⟨rfl, Q8, hg8⟩
  have hb8 : Below w4.heap.size w4 w8 := (next hb5 hb7).grown hg8 (next hb5 hb7).size (fun k hk => by cases hk; exact Nat.le_refl _)
  have V8 := next V4 hb8
  have hSg := nbRSignZ_any w4.heap.size w4.heap.size _ w8 Q8
  have hsg0 := rest_sign M hD0
  have I8 := I4.stay hb8
  clear hSb hg8 hb7 hdA7 hrA hdA hrB hb5 hb6 V5 V6 V7 Q7 hg7 hSI HS5 HS6 I4
  by_cases hM0 : M = 0
  · have h0 := hsg0.2 hM0
    rw [h0] at hSg
    have HR : Hid (rdN x.num.natAbs x.den neg m = Q) := Lib.hid (by rw [hRd.out, if_pos hM0])
    clear hRd h0 hsg0
    go_wp2_with fail
    refine hSg.mono ?_
    rintro en w9 ⟨rfl, rfl⟩
    go_wp2
    go_ret
    exact ⟨_, rfl, by rw [HR.out]; exact I8, V8⟩
  · have h0 : (mkRat (M : Int) x.den).num.sign ≠ 0 := fun hh => hM0 (hsg0.1 hh)
    obtain ⟨mo, hmo⟩ : ∃ mo, mo = mdB m neg (decide (Q % 2 = 1)) (cmpN (2 * M) x.den) := ⟨_, rfl⟩
    have HR : Hid (rdN x.num.natAbs x.den neg m = Q + (if mo = true then 1 else 0)) := Lib.hid (by rw [hRd.out, if_neg hM0, hmo])
    have hHf := nbHalf_any w8 (hT.below V8)
    have hC : ∀ (W : World) (b' : Nat), Rq 23 W w8.heap.size b' (mkRat 1 2) → Below w8.heap.size w8 W → Calls Tryz.prog 297 #[.pointer (some ⟨w4.heap.size, 0, none⟩), .pointer (some ⟨b', 0, none⟩)] W fun en w' => en = .returned (.int .i64 (cmpN (2 * M) x.den)) ∧ Below W.heap.size W w' := fun W b' hQ hW => by
      have := nbRCmp_any w4.heap.size b' w4.heap.size w8.heap.size _ _ W (Q8.stay hW) hQ (by omega) (by omega) (by decide) (by decide)
      rwa [rest_half M hD0] at this
    have hBit : ∀ W, Below w8.heap.size w8 W → Calls Tryz.prog 299 #[.pointer (some ⟨w.heap.size, 0, none⟩), .int .i64 0] W fun e w' => e = .returned (.int .u64 ((Q % 2 : Nat) : Int)) ∧ W = w' := fun W hW => nbBit0_any w.heap.size w.heap.size Q (Q % 2) W (I8.stay hW) rfl
    have hpar : Q % 2 = 0 ∨ Q % 2 = 1 := by omega
    generalize cmpN (2 * M) x.den = cc at *
    generalize (mkRat (M : Int) x.den).num.sign = sg at *
    clear hRd hsg0
    go_wp2_with fail
    refine hSg.mono ?_
    rintro en w9 ⟨rfl, rfl⟩
    go_wp2_with fail
    refine hHf.mono ?_
    rintro en w10 ⟨t3, rfl, Q10, hb10⟩
    go_wp2_with fail
    refine (hC _ _ Q10 hb10).mono ?_
    rintro en w11 ⟨rfl, hb11⟩
    have V11 := next hb10 hb11
    have hmB : mdB m neg (decide (Q % 2 = 1)) cc = mo := hmo.symm
    have hBit' := hBit w11 V11
    have hmc : m = 0 ∨ m = 1 ∨ m = 2 ∨ m = 3 ∨ m = 4 := by omega
    clear hmo hBit hC hHf hSg
    have hN1 := nbNewZ_any 1 w11 (by decide)
    have I11 := I8.stay V11
    rcases hmc with rfl | rfl | rfl | rfl | rfl
    · rcases Int.lt_trichotomy cc 0 with hc | hc | hc
      · have hm0 : mo = false := by rw [← hmB]; unfold mdB; simp; omega
        have HR' : Hid (rdN x.num.natAbs x.den neg 0 = Q) := Lib.hid (by rw [HR.out, hm0]; rfl)
        clear hmB HR hm0
        go_wp2
        go_ret
        exact ⟨_, rfl, by rw [HR'.out]; exact I11, next V8 V11⟩
      · subst hc
        rcases hpar with hq | hq
        · have hm0 : mo = false := by rw [← hmB]; unfold mdB; simp [hq]
          rw [hq] at hBit'
          clear hq
          have HR' : Hid (rdN x.num.natAbs x.den neg 0 = Q) := Lib.hid (by rw [HR.out, hm0]; rfl)
          clear hmB HR hm0
          go_wp2_with fail
          refine hBit'.mono ?_
          rintro en w12 ⟨rfl, rfl⟩
          go_wp2
          go_ret
          exact ⟨_, rfl, by rw [HR'.out]; exact I11, next V8 V11⟩
        · have hm0 : mo = true := by rw [← hmB]; unfold mdB; simp [hq]
          rw [hq] at hBit'
          clear hq
          have HR' : Hid (rdN x.num.natAbs x.den neg 0 = Q + 1) := Lib.hid (by rw [HR.out, hm0]; rfl)
          clear hmB HR hm0
          go_wp2_with fail
          refine hBit'.mono ?_
          rintro en w12 ⟨rfl, rfl⟩
          go_wp2_with fail
          refine hN1.mono ?_
          rintro en w12 ⟨t5, rfl, I12, hb12⟩
          have hA := nbIAdd_any w.heap.size w.heap.size w.heap.size w11.heap.size w.heap.size t5 (Q : Int) 1 w12 (I11.stay hb12).zc (Nat.le_trans V8.size (Nat.le_trans V11.size hb12.size)) (I11.stay hb12) I12 (by rw [Int.natAbs_natCast]; omega) (by decide)
          go_wp2_with fail
          refine hA.mono ?_
          rintro en w13 hS13
          have W12 := next V8 (next V11 hb12)
          have V13 : Below w.heap.size w w13 := hS13.below W12 W12.size (Nat.le_refl _)
          obtain ⟨rfl, I13, _⟩ := hS13.in_ (I11.stay hb12).zc (Nat.le_refl _)
          go_wp2
          go_ret
          exact ⟨_, rfl, by rw [HR'.out]; exact I13, V13⟩
      · have hm0 : mo = true := by rw [← hmB]; unfold mdB; simp; omega
        have HR' : Hid (rdN x.num.natAbs x.den neg 0 = Q + 1) := Lib.hid (by rw [HR.out, hm0]; rfl)
        clear hmB HR hm0
        go_wp2_with fail
        refine hN1.mono ?_
        rintro en w12 ⟨t5, rfl, I12, hb12⟩
        have hA := nbIAdd_any w.heap.size w.heap.size w.heap.size w11.heap.size w.heap.size t5 (Q : Int) 1 w12 (I11.stay hb12).zc (Nat.le_trans V8.size (Nat.le_trans V11.size hb12.size)) (I11.stay hb12) I12 (by rw [Int.natAbs_natCast]; omega) (by decide)
        go_wp2_with fail
        refine hA.mono ?_
        rintro en w13 hS13
        have W12 := next V8 (next V11 hb12)
        have V13 : Below w.heap.size w w13 := hS13.below W12 W12.size (Nat.le_refl _)
        obtain ⟨rfl, I13, _⟩ := hS13.in_ (I11.stay hb12).zc (Nat.le_refl _)
        go_wp2
        go_ret
        exact ⟨_, rfl, by rw [HR'.out]; exact I13, V13⟩
    · by_cases hc : 0 ≤ cc
      · have hm0 : mo = true := by rw [← hmB]; unfold mdB; simp; omega
        have HR' : Hid (rdN x.num.natAbs x.den neg 1 = Q + 1) := Lib.hid (by rw [HR.out, hm0]; rfl)
        clear hmB HR hm0
        go_wp2_with fail
        refine hN1.mono ?_
        rintro en w12 ⟨t5, rfl, I12, hb12⟩
        have hA := nbIAdd_any w.heap.size w.heap.size w.heap.size w11.heap.size w.heap.size t5 (Q : Int) 1 w12 (I11.stay hb12).zc (Nat.le_trans V8.size (Nat.le_trans V11.size hb12.size)) (I11.stay hb12) I12 (by rw [Int.natAbs_natCast]; omega) (by decide)
        go_wp2_with fail
        refine hA.mono ?_
        rintro en w13 hS13
        have W12 := next V8 (next V11 hb12)
        have V13 : Below w.heap.size w w13 := hS13.below W12 W12.size (Nat.le_refl _)
        obtain ⟨rfl, I13, _⟩ := hS13.in_ (I11.stay hb12).zc (Nat.le_refl _)
        go_wp2
        go_ret
        exact ⟨_, rfl, by rw [HR'.out]; exact I13, V13⟩
      · have hm0 : mo = false := by rw [← hmB]; unfold mdB; simp; omega
        have HR' : Hid (rdN x.num.natAbs x.den neg 1 = Q) := Lib.hid (by rw [HR.out, hm0]; rfl)
        clear hmB HR hm0
        go_wp2
        go_ret
        exact ⟨_, rfl, by rw [HR'.out]; exact I11, next V8 V11⟩
    · have hm0 : mo = false := by rw [← hmB]; unfold mdB; simp
      have HR' : Hid (rdN x.num.natAbs x.den neg 2 = Q) := Lib.hid (by rw [HR.out, hm0]; rfl)
      clear hmB HR hm0
      go_wp2
      go_ret
      exact ⟨_, rfl, by rw [HR'.out]; exact I11, next V8 V11⟩
    · cases neg
      · have hm0 : mo = true := by rw [← hmB]; unfold mdB; simp
        have HR' : Hid (rdN x.num.natAbs x.den false 3 = Q + 1) := Lib.hid (by rw [HR.out, hm0]; rfl)
        clear hmB HR hm0
        go_wp2_with fail
        refine hN1.mono ?_
        rintro en w12 ⟨t5, rfl, I12, hb12⟩
        have hA := nbIAdd_any w.heap.size w.heap.size w.heap.size w11.heap.size w.heap.size t5 (Q : Int) 1 w12 (I11.stay hb12).zc (Nat.le_trans V8.size (Nat.le_trans V11.size hb12.size)) (I11.stay hb12) I12 (by rw [Int.natAbs_natCast]; omega) (by decide)
        go_wp2_with fail
        refine hA.mono ?_
        rintro en w13 hS13
        have W12 := next V8 (next V11 hb12)
        have V13 : Below w.heap.size w w13 := hS13.below W12 W12.size (Nat.le_refl _)
        obtain ⟨rfl, I13, _⟩ := hS13.in_ (I11.stay hb12).zc (Nat.le_refl _)
        go_wp2
        go_ret
        exact ⟨_, rfl, by rw [HR'.out]; exact I13, V13⟩
      · have hm0 : mo = false := by rw [← hmB]; unfold mdB; simp
        have HR' : Hid (rdN x.num.natAbs x.den true 3 = Q) := Lib.hid (by rw [HR.out, hm0]; rfl)
        clear hmB HR hm0
        go_wp2
        go_ret
        exact ⟨_, rfl, by rw [HR'.out]; exact I11, next V8 V11⟩
    · cases neg
      · have hm0 : mo = false := by rw [← hmB]; unfold mdB; simp
        have HR' : Hid (rdN x.num.natAbs x.den false 4 = Q) := Lib.hid (by rw [HR.out, hm0]; rfl)
        clear hmB HR hm0
        go_wp2
        go_ret
        exact ⟨_, rfl, by rw [HR'.out]; exact I11, next V8 V11⟩
      · have hm0 : mo = true := by rw [← hmB]; unfold mdB; simp
        have HR' : Hid (rdN x.num.natAbs x.den true 4 = Q + 1) := Lib.hid (by rw [HR.out, hm0]; rfl)
        clear hmB HR hm0
        go_wp2_with fail
        refine hN1.mono ?_
        rintro en w12 ⟨t5, rfl, I12, hb12⟩
        have hA := nbIAdd_any w.heap.size w.heap.size w.heap.size w11.heap.size w.heap.size t5 (Q : Int) 1 w12 (I11.stay hb12).zc (Nat.le_trans V8.size (Nat.le_trans V11.size hb12.size)) (I11.stay hb12) I12 (by rw [Int.natAbs_natCast]; omega) (by decide)
        go_wp2_with fail
        refine hA.mono ?_
        rintro en w13 hS13
        have W12 := next V8 (next V11 hb12)
        have V13 : Below w.heap.size w w13 := hS13.below W12 W12.size (Nat.le_refl _)
        obtain ⟨rfl, I13, _⟩ := hS13.in_ (I11.stay hb12).zc (Nat.le_refl _)
        go_wp2
        go_ret
        exact ⟨_, rfl, by rw [HR'.out]; exact I13, V13⟩

end Go.Proofs.YtaddnoneoflimaaGreatDoor

