/-
  Contracts of numeral/numeralref05: unit, Least, Greatest, Sign, beyond. Contracts of numeral/numeralref05: Pack.
-/
import Derived.Test.YtaddnoneoflimaaGreatDoorQbNRvB
namespace Go.Proofs.YtaddnoneoflimaaGreatDoor

open Go.RowKit Go.Lb

/-- x rounded to whole times of 2^q. -/
def unN (x : Rat) (q : Int) (neg : Bool) (m : Nat) : Nat := rdN (scN x.num.natAbs (-q)) (scD x.den (-q)) neg m

def unQ (x : Rat) (q : Int) (neg : Bool) (m : Nat) : Rat := ((unN x q neg m : Int) : Rat) * p2 q

theorem ln_rd (N D : Nat) (neg : Bool) (m : Nat) : ln (rdN N D neg m) ≤ ln N + 1 := by
  refine Nat.le_trans (ln_mono (rd_le N D neg m)) ?_
  by_cases h : N = 0
  · subst h
    rw [Nat.zero_div]
    exact Nat.le_trans (Nat.le_of_eq ln_one) (by omega)
  · have h0 : ln N ≠ 0 := fun hh => h (by have := ln_lt N; rw [hh] at this; omega)
    exact ln_add (ln_div _ _) (Nat.le_trans (Nat.le_of_eq ln_one) (by omega))

set_option maxRecDepth 100000 in
set_option maxHeartbeats 4000000 in
theorem nbUnit_any (B b m : Nat) (q : Int) (x : Rat) (neg : Bool) (w : World) (h : Rq 23 w B b x) (hx : 0 ≤ x) (hm : m < 5) (hq1 : -1048576 ≤ q) (hq2 : q ≤ 1048576) (l1 : ln x.num.natAbs ≤ 65536) (l2 : ln x.den ≤ 65536) (hT : Tab w) :
    Calls Tryz.prog 332 #[.pointer (some ⟨b, 0, none⟩), .int .i64 q, .bool neg, .int .u8 (m : Int)] w (MkQ 23 (unQ x q neg m) w) := by
  have hbl := h.lt
  have hwq : IntKind.i64.wrap (-q) = -q := IntWalk.i64_in _ (by omega)
  obtain ⟨p1, p3⟩ := p2_parts (-q)
  obtain ⟨p4, p5⟩ := p2_parts q
  have k1 : ln (p2 (-q)).num.natAbs ≤ 32769 := by rw [p1, Int.natAbs_natCast]; have := ln_p2 (-q).toNat; omega
  have k2 : ln (p2 (-q)).den ≤ 32769 := by rw [p3]; have := ln_p2 (- -q).toNat; omega
  have k3 : ln (p2 q).num.natAbs ≤ 32769 := by rw [p4, Int.natAbs_natCast]; have := ln_p2 q.toNat; omega
  have k4 : ln (p2 q).den ≤ 32769 := by rw [p5]; have := ln_p2 (-q).toNat; omega
  have HU : Hid (rdN (x * p2 (-q)).num.natAbs (x * p2 (-q)).den neg m = unN x q neg m) := Lib.hid (rd_mul x (-q) neg m)
  obtain ⟨g1, g2⟩ := mul_len x (-q)
  have HG1 : Hid (ln (x * p2 (-q)).num.natAbs ≤ 98305) := Lib.hid (by omega)
  have HG2 : Hid (ln (x * p2 (-q)).den ≤ 98305) := Lib.hid (by omega)
  have HG3 : Hid (ln (unN x q neg m) ≤ 98306) := Lib.hid (by rw [← HU.out]; exact Nat.le_trans (ln_rd _ _ _ _) (by have := HG1.out; omega))
  have HX : Hid (0 ≤ x * p2 (-q)) := Lib.hid (mul_sign hx _)
  have HR : Hid (unQ x q neg m = ((unN x q neg m : Int) : Rat) * p2 q) := Lib.hid rfl
  have HK := Lib.hid (And.intro k1 (And.intro k2 (And.intro k3 k4)))
  have HL := Lib.hid (And.intro l1 l2)
  have HQ := Lib.hid (And.intro hq1 hq2)
  obtain ⟨W1, hW1⟩ : ∃ W1 : World, W1 = w.alloc (.cells #[.bool false, .slice none 0 0, .slice none 0 0] 280) := ⟨_, rfl⟩
  have hr : Res3 W1 w.heap.size := by rw [hW1]; exact res_new _ _ _ _ _
  have hb1 : Below w.heap.size w W1 := hW1 ▸ more (Below.refl _ _) _
  have hs1 : w.heap.size < W1.heap.size := by rw [hW1]; simp
  have hP1 := nbPower_any (-q) W1 (by omega) (by omega)
  have hP2 : ∀ W, Calls Tryz.prog 302 #[.int .i64 q] W (MkQ 23 (p2 q) W) := fun W => nbPower_any q W (by omega) (by omega)
  clear p1 p3 p4 p5 k1 k2 k3 k4 g1 g2 hx l1 l2 hq1 hq2
  go_enter Tryz.func332, Tryz.ntmps332
  go_wp2_with fail
  rw [← hW1]
  clear hW1
  refine hP1.mono ?_
  rintro en w2 ⟨t1, rfl, Q2, hb2⟩
  have hl2 := Q2.le
  have V2 := next hb1 hb2
  have hM := nbRMul_any w.heap.size w.heap.size B W1.heap.size b t1 x (p2 (-q)) w2 (hr.stay hb2) (Nat.le_refl _) (h.stay V2) Q2 (by omega) (by omega) (by have := HL.out; omega) (by have := HL.out; omega) (by have := HK.out; omega) (by have := HK.out; omega) (hT.below V2)
  go_wp2_with fail
  refine hM.mono ?_
  rintro en w3 ⟨rfl, Q3, hg3⟩
  have V3 : Below w.heap.size w w3 := V2.grown hg3 V2.size (fun k hk => by cases hk; exact Nat.le_refl _)
  have hWh := nbWholeR_any w.heap.size w.heap.size m (x * p2 (-q)) neg w3 Q3 HX.out hm (by have := HG1.out; omega) (by have := HG2.out; omega) (hT.below V3)
  rw [HU.out] at hWh
  clear hM hP1 hr hb1 hs1 hb2 Q2 hl2 V2
  go_wp2_with fail
  refine hWh.mono ?_
  rintro en w4 ⟨t2, rfl, I4, hb4⟩
  have V4 := next V3 hb4
  obtain ⟨W5, hW5⟩ : ∃ W5 : World, W5 = w4.alloc (.cells #[.bool false, .slice none 0 0, .slice none 0 0] 280) := ⟨_, rfl⟩
  obtain ⟨W6, hW6⟩ : ∃ W6 : World, W6 = W5.alloc (.cells #[.bool false, .slice none 0 0, .slice none 0 0] 280) := ⟨_, rfl⟩
  have hs5 : W5.heap.size = w4.heap.size + 1 := by rw [hW5]; simp
  have hs6 : W6.heap.size = w4.heap.size + 2 := by rw [hW6]; simp [hs5]
  have hrA : Res3 W5 w4.heap.size := by rw [hW5]; exact res_new _ _ _ _ _
  have hrB : Res3 W6 (w4.heap.size + 1) := by rw [← hs5, hW6]; exact res_new _ _ _ _ _
  have hb5 : Below w4.heap.size w4 W5 := hW5 ▸ more (Below.refl _ _) _
  have hb6 : Below W5.heap.size W5 W6 := hW6 ▸ more (Below.refl _ _) _
  have hSI := nbRSetInt_any (w4.heap.size + 1) (w4.heap.size + 1) w3.heap.size t2 _ W6 hrB (Nat.le_refl _) (I4.stay (next hb5 hb6)) (by rw [Int.natAbs_natCast]; have := HG3.out; omega)
  have HS5 := Lib.hid hs5
  have HS6 := Lib.hid hs6
  clear hs5 hs6 hWh Q3 hg3 V3
  generalize unN x q neg m = n at *
  go_wp2_with fail
  rw [← hW5, ← hW6]
  clear hW5 hW6
  refine hSI.mono ?_
  rintro en w7 ⟨rfl, Q7, hg7⟩
  have hb7 : Below W5.heap.size W5 w7 := hb6.grown hg7 hb6.size (fun k hk => by cases hk; rw [HS5.out]; exact Nat.le_refl _)
  go_wp2_with fail
  refine (hP2 _).mono ?_
  rintro en w8 ⟨t3, rfl, Q8, hb8⟩
  have hb58 := next hb7 hb8
  have hl8 := Q8.le
  have h7 := hb7.size
  have V58 := next V4 (next hb5 hb58)
  have hM := nbRMul_any w4.heap.size w4.heap.size (w4.heap.size + 1) w7.heap.size (w4.heap.size + 1) t3 ((n : Int) : Rat) (p2 q) w8 (hrA.stay hb58) (Nat.le_refl _) (Q7.stay hb8) Q8 (by omega) (by have := HS5.out; omega) (by rw [Rat.num_intCast, Int.natAbs_natCast]; have := HG3.out; omega) (by rw [Rat.den_intCast]; decide) (by have := HK.out; omega) (by have := HK.out; omega) (hT.below V58)
  go_wp2_with fail
  refine hM.mono ?_
  rintro en w9 ⟨rfl, Q9, hg9⟩
  have hz4 := V4.size
  go_wp2
  go_ret
  refine ⟨_, rfl, ?_, V58.grown hg9 V58.size (fun k hk => by cases hk; exact hz4)⟩
  rw [HR.out]
  exact Q9.mono hz4

theorem nbLeast_any (E : Nat) (f : Int) (w : World) (h1 : 2 ≤ E) (h2 : E ≤ 11) :
    Calls Tryz.prog 333 #[.agg #[.int .i64 (E : Int), .int .i64 f]] w (MkQ 23 (p2 (1 - (bsN E : Int))) w) := by
  obtain ⟨W1, hW1⟩ : ∃ W1 : World, W1 = w.alloc (.cells #[.int .i64 (E : Int), .int .i64 f] 31) := ⟨_, rfl⟩
  have hb1 : Below w.heap.size w W1 := hW1 ▸ more (Below.refl _ _) _
  have c0 : W1.cell? ⟨w.heap.size, 0, none⟩ = some (.int .i64 (E : Int)) := by rw [hW1]; simp
  have c1 : W1.cell? ⟨w.heap.size, 1, none⟩ = some (.int .i64 f) := by rw [hW1]; simp
  have hbs : bsN E ≤ 1024 := by
    unfold bsN
    have b : 2 ^ (E - 1) ≤ 2 ^ 10 := Nat.pow_le_pow_right (by decide) (by omega)
    have d : (2 : Nat) ^ 10 = 1024 := by decide
    omega
  have hBi := nbBias_any E f W1 h1 h2
  have hP : ∀ W, Calls Tryz.prog 302 #[.int .i64 (1 - (bsN E : Int))] W (MkQ 23 (p2 (1 - (bsN E : Int))) W) := fun W => nbPower_any _ W (by omega) (by omega)
  generalize bsN E = bs at *
  go_enter Tryz.func333, Tryz.ntmps333
  go_wp2_with fail
  rw [← hW1]
  clear hW1
  refine hBi.mono ?_
  rintro en w2 ⟨rfl, hb2⟩
  go_wp2_with fail
  refine (hP _).mono ?_
  rintro en w3 ⟨t, rfl, Q3, hb3⟩
  have V2 := next hb1 hb2
  go_wp2
  go_ret
  exact ⟨t, rfl, Q3.mono V2.size, next V2 hb3⟩

theorem nbSign5_any (E F : Nat) (w : World) (hE : E ≤ 11) (hF : F ≤ 52) :
    Calls Tryz.prog 305 #[.agg #[.int .i64 (E : Int), .int .i64 (F : Int)]] w fun en w' => en = .returned (.int .u64 ((2 ^ (E + F) : Nat) : Int)) ∧ Below w.heap.size w w' := by
  obtain ⟨k, hk⟩ : ∃ k : Nat, (E : Int) + (F : Int) = (k : Int) := ⟨E + F, by omega⟩
  have hkk : k = E + F := by omega
  have hk2 : k ≤ 63 := by omega
  have hP : Hid (((2 ^ (E + F) : Nat) : Int) = 2 ^ k) := Lib.hid (by rw [← hkk]; simp)
  have hw : IntKind.u64.wrap (2 ^ k) = 2 ^ k := IntWalk.u64_in _ (by
    have a := Nat.two_pow_pos k
    have b : 2 ^ k ≤ 2 ^ 63 := Nat.pow_le_pow_right (by decide) hk2
    have c : (2 : Int) ^ k = ((2 ^ k : Nat) : Int) := by simp
    rw [c]
    have d : (2 : Nat) ^ 63 = 9223372036854775808 := by decide
    omega)
  clear hkk
  go_enter Tryz.func305, Tryz.ntmps305
  go_wp2
  go_ret
  exact ⟨by rw [hP.out]; rfl, more (Below.refl _ _) _⟩

theorem pow_bounds {E F : Nat} (hE : 2 ≤ E) (hE2 : E ≤ 11) (hF : F ≤ 52) : 2 ^ F ≤ 2 ^ 52 ∧ 4 * 2 ^ F ≤ 2 ^ (E + F) ∧ 2 ^ (E + F) ≤ 2 ^ 63 := by
  refine ⟨Nat.pow_le_pow_right (by decide) hF, ?_, Nat.pow_le_pow_right (by decide) (by omega)⟩
  rw [show (4 : Nat) = 2 ^ 2 from rfl, ← Nat.pow_add]
  exact Nat.pow_le_pow_right (by decide) (by omega)

/-- What stands for a number beyond the greatest float. -/
def byN (E F : Nat) (neg : Bool) (m : Nat) : Nat := if stayB neg m = true then infN E F - 1 else infN E F

theorem nbBeyond_any (E F m : Nat) (neg : Bool) (w : World) (hE : 2 ≤ E) (hE2 : E ≤ 11) (hF : F ≤ 52) (hm : m < 5) :
    Calls Tryz.prog 335 #[.agg #[.int .i64 (E : Int), .int .i64 (F : Int)], .bool neg, .int .u8 (m : Int)] w fun en w' => en = .returned (.int .u64 (byN E F neg m : Int)) ∧ Below w.heap.size w w' := by
  obtain ⟨k, hk⟩ : ∃ k : Nat, (E : Int) + (F : Int) = (k : Int) := ⟨E + F, by omega⟩
  have hkk : k = E + F := by omega
  have hk2 : k ≤ 63 := by omega
  obtain ⟨a, b, c⟩ := pow_bounds hE hE2 hF
  have d : (2 : Nat) ^ 63 = 9223372036854775808 := by decide
  have d2 : (2 : Nat) ^ 52 = 4503599627370496 := by decide
  obtain ⟨P, hP⟩ : ∃ P : Nat, P = 2 ^ (E + F) := ⟨_, rfl⟩
  obtain ⟨Q, hQ⟩ : ∃ Q : Nat, Q = 2 ^ F := ⟨_, rfl⟩
  have hP1 : (2 : Int) ^ k = (P : Int) := by rw [hP, ← hkk]; simp
  have hQ1 : (2 : Int) ^ F = (Q : Int) := by rw [hQ]; simp
  rw [← hP, ← hQ] at b
  rw [← hP] at c
  rw [← hQ] at a
  have q0 : 0 < Q := by rw [hQ]; exact Nat.two_pow_pos F
  have hI : infN E F = P - Q := by unfold infN; rw [hP, hQ]
  have hw1 : IntKind.u64.wrap (P : Int) = (P : Int) := IntWalk.u64_in _ (by omega)
  have hw2 : IntKind.u64.wrap (Q : Int) = (Q : Int) := IntWalk.u64_in _ (by omega)
  have hw3 : IntKind.u64.wrap ((P : Int) - (Q : Int)) = (P : Int) - (Q : Int) := IntWalk.u64_in _ (by omega)
  have hw4 : IntKind.u64.wrap ((P : Int) - (Q : Int) - 1) = (P : Int) - (Q : Int) - 1 := IntWalk.u64_in _ (by omega)
  have HT : Hid ((byN E F neg m : Int) = if stayB neg m = true then (P : Int) - (Q : Int) - 1 else (P : Int) - (Q : Int)) := Lib.hid (by
    unfold byN
    rw [hI]
    split <;> omega)
  have hmc : m = 0 ∨ m = 1 ∨ m = 2 ∨ m = 3 ∨ m = 4 := by omega
  clear hkk hP hQ hI a b c d d2 q0
  rcases hmc with rfl | rfl | rfl | rfl | rfl <;> cases neg
  all_goals
    go_enter Tryz.func335, Tryz.ntmps335
    go_wp2
    go_ret
    exact ⟨by rw [HT.out]; rfl, more (Below.refl _ _) _⟩

end Go.Proofs.YtaddnoneoflimaaGreatDoor

namespace Go.Proofs.YtaddnoneoflimaaGreatDoor

open Go.RowKit Go.Lb

attribute [local go_sem] Go.World.cell?_alloc_some

theorem bs_le {E : Nat} (h2 : E ≤ 11) : bsN E ≤ 1023 := by
  unfold bsN
  have b : 2 ^ (E - 1) ≤ 2 ^ 10 := Nat.pow_le_pow_right (by decide) (by omega)
  have d : (2 : Nat) ^ 10 = 1024 := by decide
  omega

set_option maxRecDepth 100000 in
set_option maxHeartbeats 4000000 in
theorem nbPack_low (B b E F M : Nat) (x : Rat) (w : World) (h : Rq 23 w B b x) (h1 : 2 ≤ E) (h2 : E ≤ 11) (h3 : 1 ≤ F) (h4 : F ≤ 52) (l1 : ln x.num.natAbs ≤ 65536) (l2 : ln x.den ≤ 65536) (hc : cmpQ x (p2 (1 - (bsN E : Int))) < 0) (hn : x * p2 ((bsN E : Int) - 1 + F) = ((M : Int) : Rat)) (hM : M < 18446744073709551616) (hT : Tab w) :
    Calls Tryz.prog 336 #[.agg #[.int .i64 (E : Int), .int .i64 (F : Int)], .pointer (some ⟨b, 0, none⟩)] w fun en w' => en = .returned (.int .u64 (M : Int)) ∧ Below w.heap.size w w' := by
  have hbl := h.lt
  have hbs := bs_le h2
  obtain ⟨W1, hW1⟩ : ∃ W1 : World, W1 = w.alloc (.cells #[.int .i64 (E : Int), .int .i64 (F : Int)] 31) := ⟨_, rfl⟩
  have hb1 : Below w.heap.size w W1 := hW1 ▸ more (Below.refl _ _) _
  have c0 : W1.cell? ⟨w.heap.size, 0, none⟩ = some (.int .i64 (E : Int)) := by rw [hW1]; simp
  have c1 : W1.cell? ⟨w.heap.size, 1, none⟩ = some (.int .i64 (F : Int)) := by rw [hW1]; simp
  have hLs := nbLeast_any E (F : Int) W1 h1 h2
  have hBi : ∀ W, Calls Tryz.prog 303 #[.agg #[.int .i64 (E : Int), .int .i64 (F : Int)]] W fun en w' => en = .returned (.int .i64 (bsN E : Int)) ∧ Below W.heap.size W w' := fun W => nbBias_any E _ W h1 h2
  obtain ⟨p1, p3⟩ := p2_parts (1 - (bsN E : Int))
  have hC : ∀ (W : World) (B' t : Nat), Rq 23 W B' t (p2 (1 - (bsN E : Int))) → Below w.heap.size w W → Calls Tryz.prog 297 #[.pointer (some ⟨b, 0, none⟩), .pointer (some ⟨t, 0, none⟩)] W fun en w' => en = .returned (.int .i64 (cmpQ x (p2 (1 - (bsN E : Int))))) ∧ Below W.heap.size W w' := fun W B' t hQ hW =>
    nbRCmp_any b t B B' _ _ W (h.stay hW) hQ (by omega) (by omega) (by rw [p1, Int.natAbs_natCast]; have := ln_p2 (1 - (bsN E : Int)).toNat; omega) (by rw [p3]; have := ln_p2 (-(1 - (bsN E : Int))).toNat; omega)
  obtain ⟨k, hk⟩ : ∃ k : Int, k = (bsN E : Int) - 1 + F := ⟨_, rfl⟩
  rw [← hk] at hn
  obtain ⟨p4, p5⟩ := p2_parts k
  have k1 : ln (p2 k).num.natAbs ≤ 67108864 := by rw [p4, Int.natAbs_natCast]; have := ln_p2 k.toNat; omega
  have k2 : ln (p2 k).den ≤ 67108864 := by rw [p5]; have := ln_p2 (-k).toNat; omega
  have hP : ∀ W, Calls Tryz.prog 302 #[.int .i64 k] W (MkQ 23 (p2 k) W) := fun W => nbPower_any k W (by omega) (by omega)
  have hMu : ∀ (W : World) (z B' t : Nat), Res3 W z → w.heap.size ≤ z → Rq 23 W B' t (p2 k) → t ≠ z → Below w.heap.size w W → Calls Tryz.prog 301 #[.pointer (some ⟨z, 0, none⟩), .pointer (some ⟨b, 0, none⟩), .pointer (some ⟨t, 0, none⟩)] W (StQ 23 z w.heap.size (((M : Int)) : Rat) W) := fun W z B' t hr hz hQ hne hW => by
    have := nbRMul_any z w.heap.size B B' b t x (p2 k) W hr hz (h.stay hW) hQ (by omega) hne (by omega) (by omega) k1 k2 (hT.below hW)
    rwa [hn] at this
  have e1 : (bsN E : Int) - 1 + (F : Int) = k := hk.symm
  have w1 : IntKind.i64.wrap ((bsN E : Int) - 1) = (bsN E : Int) - 1 := IntWalk.i64_in _ (by omega)
  have w2 : IntKind.i64.wrap k = k := IntWalk.i64_in _ (by omega)
  have lM : ln M ≤ 2 := ln_small2 hM
  generalize cmpQ x (p2 (1 - (bsN E : Int))) = cc at *
  clear hk p1 p3 p4 p5 k1 k2 l1 l2 hn h hT h1 h2 h3 h4 hbs
  generalize bsN E = bs at *
  go_enter Tryz.func336, Tryz.ntmps336
  go_wp2_with fail
  rw [← hW1]
  clear hW1
  refine hLs.mono ?_
  rintro en w2 ⟨t1, rfl, Q2, hb2⟩
  have V2 := next hb1 hb2
  have f0 := cellStay c0 hb2
  have f1 := cellStay c1 hb2
  go_wp2_with fail
  refine (hC _ _ _ Q2 V2).mono ?_
  rintro en w3 ⟨rfl, hb3⟩
  have V3 := next V2 hb3
  have g0 := cellStay f0 hb3
  have g1 := cellStay f1 hb3
  clear hC Q2 hb2 hb3 V2 c0 c1 f0 f1 hLs
  have hws := V3.size
  go_upto_region 2 with fail
  go_cut [5] from 13 to 22 (fun v wx => ∃ z, v = .pointer (some ⟨z, 0, none⟩) ∧ Rq 23 wx w.heap.size z (((M : Int)) : Rat) ∧ Below w.heap.size w wx)
  case first =>
    have kS : ∀ w' : World, Below w3.heap.size w3 w' → (w'.cell? ⟨w.heap.size, 0, none⟩ = some (.int .i64 (E : Int)) ∧ w'.cell? ⟨w.heap.size, 1, none⟩ = some (.int .i64 (F : Int)) ∧ Below w3.heap.size w3 w') := fun w' hb => ⟨cellStay g0 hb, cellStay g1 hb, hb⟩
    go_region_held3 (fun w' => w'.cell? ⟨w.heap.size, 0, none⟩ = some (.int .i64 (E : Int)) ∧ w'.cell? ⟨w.heap.size, 1, none⟩ = some (.int .i64 (F : Int)) ∧ Below w3.heap.size w3 w')
      ((refine kS _ ?_; (repeat (with_reducible (first | exact VC | exact VB | exact VA | exact Below.refl _ _ | refine Below.drew ?_ | refine more ?_ _))); done))
      (first
        | (go_at_call 303; (with_reducible refine (hBi _).mono ?_); rintro en wA ⟨rfl, hbA⟩; have VA : Below w3.heap.size w3 wA := (by first | exact hbA | exact undrew hbA | exact next (more (Below.refl _ _) _) hbA | exact next (more (Below.refl _ _) _).drew hbA); (try have Z := (res_new w3 280 (.bool false) (.slice none 0 0) (.slice none 0 0)).stay (by first | exact hbA | exact undrew hbA)); have hsA := VA.size)
        | (go_at_call 302; (with_reducible refine (hP _).mono ?_); rintro en wB ⟨t, rfl, QB, hbB⟩; have hAB : Below wA.heap.size wA wB := (by first | exact hbB | exact next (more (Below.refl _ _) _) hbB); have VB := next VA hAB; have hsB := hAB.size; (try have ZZ := Z.stay hAB); (try have YY := (res_new wA 280 (.bool false) (.slice none 0 0) (.slice none 0 0)).stay hbB); have hlB := QB.le; have hltB := QB.lt)
        | (go_at_call 301; (first
            | ((with_reducible refine (hMu _ _ _ _ YY (Nat.le_trans hws hsA) QB (by simp at hlB; omega) (next V3 VB)).mono ?_); rintro en wC ⟨rfl, QC, hgC⟩; have VC : Below w3.heap.size w3 wC := VB.grown hgC VB.size (fun k hk => by cases hk; exact hsA))
            | ((with_reducible refine (hMu _ _ _ _ (res_new wB _ _ _ _) (Nat.le_trans hws VB.size) (QB.stay (more (Below.refl _ _) _)) (Nat.ne_of_lt hltB) (more (next V3 VB) _)).mono ?_); rintro en wC ⟨rfl, QC, hgC⟩; have VC : Below w3.heap.size w3 wC := (more VB _).grown hgC (more VB _).size (fun k hk => by cases hk; exact VB.size))
            | ((with_reducible refine (hMu _ _ _ _ ZZ hws QB (by have := hbA.size; simp at this; omega) (next V3 VB)).mono ?_); rintro en wC ⟨rfl, QC, hgC⟩; have VC : Below w3.heap.size w3 wC := VB.grown hgC VB.size (fun _ hj => Nat.le_of_eq (Option.some.inj hj))))))
    all_goals go_wp2
    all_goals go_meet
    all_goals exact ⟨_, rfl, QC, next V3 VC⟩
  case rest =>
    obtain ⟨z, rfl, QC, VC⟩ := hcut
    have hNm := nbRNumZ_any z w.heap.size _ wc QC (by rw [Rat.num_intCast, Int.natAbs_natCast]; omega)
    rw [Rat.num_intCast] at hNm
    go_wp2_with fail
    refine hNm.mono ?_
    rintro en w5 ⟨t5, rfl, I5, hb5⟩
    have hU := nbUint64_any wc.heap.size t5 M w5 I5 hM
    go_wp2_with fail
    refine hU.mono ?_
    rintro en w6 ⟨rfl, rfl⟩
    go_wp2
    go_ret
    exact ⟨rfl, next VC hb5⟩

set_option maxRecDepth 100000 in
set_option maxHeartbeats 4000000 in
theorem nbPack_high (B b E F K a : Nat) (x : Rat) (w : World) (h : Rq 23 w B b x) (hx : 0 < x) (h1 : 2 ≤ E) (h2 : E ≤ 11) (h3 : 1 ≤ F) (h4 : F ≤ 52) (l1 : ln x.num.natAbs ≤ 65536) (l2 : ln x.den ≤ 65536) (hc : ¬ cmpQ x (p2 (1 - (bsN E : Int))) < 0) (ha : lgE x.num.natAbs x.den + (bsN E : Int) = (a : Int)) (ha2 : a ≤ 2048) (hn : x * p2 ((F : Int) - lgE x.num.natAbs x.den) = ((K : Int) : Rat)) (hK1 : 2 ^ F ≤ K) (hK2 : K ≤ 2 ^ 53) (hT : Tab w) :
    Calls Tryz.prog 336 #[.agg #[.int .i64 (E : Int), .int .i64 (F : Int)], .pointer (some ⟨b, 0, none⟩)] w fun en w' => en = .returned (.int .u64 ((a * 2 ^ F + K - 2 ^ F : Nat) : Int)) ∧ Below w.heap.size w w' := by
  have hbl := h.lt
  have hbs := bs_le h2
  obtain ⟨W1, hW1⟩ : ∃ W1 : World, W1 = w.alloc (.cells #[.int .i64 (E : Int), .int .i64 (F : Int)] 31) := ⟨_, rfl⟩
  have hb1 : Below w.heap.size w W1 := hW1 ▸ more (Below.refl _ _) _
  have c0 : W1.cell? ⟨w.heap.size, 0, none⟩ = some (.int .i64 (E : Int)) := by rw [hW1]; simp
  have c1 : W1.cell? ⟨w.heap.size, 1, none⟩ = some (.int .i64 (F : Int)) := by rw [hW1]; simp
  have hLs := nbLeast_any E (F : Int) W1 h1 h2
  have hBi : ∀ W, Calls Tryz.prog 303 #[.agg #[.int .i64 (E : Int), .int .i64 (F : Int)]] W fun en w' => en = .returned (.int .i64 (bsN E : Int)) ∧ Below W.heap.size W w' := fun W => nbBias_any E _ W h1 h2
  obtain ⟨p1, p3⟩ := p2_parts (1 - (bsN E : Int))
  have hC : ∀ (W : World) (B' t : Nat), Rq 23 W B' t (p2 (1 - (bsN E : Int))) → Below w.heap.size w W → Calls Tryz.prog 297 #[.pointer (some ⟨b, 0, none⟩), .pointer (some ⟨t, 0, none⟩)] W fun en w' => en = .returned (.int .i64 (cmpQ x (p2 (1 - (bsN E : Int))))) ∧ Below W.heap.size W w' := fun W B' t hQ hW =>
    nbRCmp_any b t B B' _ _ W (h.stay hW) hQ (by omega) (by omega) (by rw [p1, Int.natAbs_natCast]; have := ln_p2 (1 - (bsN E : Int)).toNat; omega) (by rw [p3]; have := ln_p2 (-(1 - (bsN E : Int))).toNat; omega)
  have hLg : ∀ W, Below w.heap.size w W → Calls Tryz.prog 331 #[.pointer (some ⟨b, 0, none⟩)] W fun en w' => en = .returned (.int .i64 (lgE x.num.natAbs x.den)) ∧ Below W.heap.size W w' := fun W hW => nbLog_any B b x W (h.stay hW) hx l1 l2
  obtain ⟨e, he⟩ : ∃ e, e = lgE x.num.natAbs x.den := ⟨_, rfl⟩
  rw [← he] at hn hLg ha
  obtain ⟨k, hk⟩ : ∃ k : Int, k = (F : Int) - e := ⟨_, rfl⟩
  rw [← hk] at hn
  obtain ⟨p4, p5⟩ := p2_parts k
  have k1 : ln (p2 k).num.natAbs ≤ 67108864 := by rw [p4, Int.natAbs_natCast]; have := ln_p2 k.toNat; omega
  have k2 : ln (p2 k).den ≤ 67108864 := by rw [p5]; have := ln_p2 (-k).toNat; omega
  have hP : ∀ W, Calls Tryz.prog 302 #[.int .i64 k] W (MkQ 23 (p2 k) W) := fun W => nbPower_any k W (by omega) (by omega)
  have hMu : ∀ (W : World) (z B' t : Nat), Res3 W z → w.heap.size ≤ z → Rq 23 W B' t (p2 k) → t ≠ z → Below w.heap.size w W → Calls Tryz.prog 301 #[.pointer (some ⟨z, 0, none⟩), .pointer (some ⟨b, 0, none⟩), .pointer (some ⟨t, 0, none⟩)] W (StQ 23 z w.heap.size (((K : Int)) : Rat) W) := fun W z B' t hr hz hQ hne hW => by
    have := nbRMul_any z w.heap.size B B' b t x (p2 k) W hr hz (h.stay hW) hQ (by omega) hne (by omega) (by omega) k1 k2 (hT.below hW)
    rwa [hn] at this
  have e1 : (F : Int) - e = k := hk.symm
  have w2 : IntKind.i64.wrap k = k := IntWalk.i64_in _ (by omega)
  have w3 : IntKind.i64.wrap (a : Int) = (a : Int) := IntWalk.i64_in _ (by omega)
  have w4 : IntKind.u64.wrap (a : Int) = (a : Int) := IntWalk.u64_in _ (by omega)
  have w5 : IntKind.u64.wrap (F : Int) = (F : Int) := IntWalk.u64_in _ (by omega)
  obtain ⟨Q, hQ⟩ : ∃ Q : Nat, Q = 2 ^ F := ⟨_, rfl⟩
  have hQ1 : (2 : Int) ^ F = (Q : Int) := by rw [hQ]; simp
  have hQ2 : Q ≤ 4503599627370496 := by
    rw [hQ]
    exact Nat.le_trans (Nat.pow_le_pow_right (by decide) h4) (by decide)
  have hQ0 : 1 ≤ Q := by rw [hQ]; exact Nat.two_pow_pos F
  have hK3 : K ≤ 9007199254740992 := Nat.le_trans hK2 (by decide)
  obtain ⟨P, hP1⟩ : ∃ P : Nat, P = a * Q := ⟨_, rfl⟩
  have hP2 : P ≤ 9223372036854775808 := by rw [hP1]; exact Nat.le_trans (Nat.mul_le_mul ha2 hQ2) (by decide)
  have hPI : (a : Int) * (Q : Int) = (P : Int) := by rw [hP1]; simp
  have w6 : IntKind.u64.wrap (P : Int) = (P : Int) := IntWalk.u64_in _ (by omega)
  have w7 : IntKind.u64.wrap ((P : Int) + (K : Int)) = (P : Int) + (K : Int) := IntWalk.u64_in _ (by omega)
  have w8 : IntKind.u64.wrap ((P : Int) + (K : Int) - (Q : Int)) = (P : Int) + (K : Int) - (Q : Int) := IntWalk.u64_in _ (by rw [← hQ] at hK1; omega)
  have w9 : IntKind.u64.wrap (Q : Int) = (Q : Int) := IntWalk.u64_in _ (by omega)
  have hmin : min F 64 = F := by omega
  have HR : Hid (((a * 2 ^ F + K - 2 ^ F : Nat) : Int) = (P : Int) + (K : Int) - (Q : Int)) := Lib.hid (by rw [← hQ, ← hP1]; rw [← hQ] at hK1; omega)
  have lK : ln K ≤ 2 := ln_small2 (by omega)
  have hKu : K < 18446744073709551616 := by omega
  generalize cmpQ x (p2 (1 - (bsN E : Int))) = cc at *
  clear he hk p1 p3 p4 p5 k1 k2 l1 l2 hn h hT h1 h2 h3 hbs hK1 hK2 hx hQ hP1 hP2 hQ2 hQ0 hK3 ha2
  generalize bsN E = bs at *
  go_enter Tryz.func336, Tryz.ntmps336
  go_wp2_with fail
  rw [← hW1]
  clear hW1
  refine hLs.mono ?_
  rintro en w2' ⟨t1, rfl, Q2, hb2⟩
  have V2 := next hb1 hb2
  have f0 := cellStay c0 hb2
  have f1 := cellStay c1 hb2
  go_wp2_with fail
  refine (hC _ _ _ Q2 V2).mono ?_
  rintro en w3' ⟨rfl, hb3⟩
  have V3 := next V2 hb3
  have g0 := cellStay f0 hb3
  have g1 := cellStay f1 hb3
  clear hC Q2 hb2 hb3 V2 c0 c1 f0 f1 hLs
  go_wp2_with fail
  refine (hLg _ V3).mono ?_
  rintro en w4' ⟨rfl, hb4⟩
  have V4 := next V3 hb4
  have f0 := cellStay g0 hb4
  have f1 := cellStay g1 hb4
  clear hb4 g0 g1 hLg V3
  have hb5 : Below w4'.heap.size w4' (w4'.alloc (.cells #[.bool false, .slice none 0 0, .slice none 0 0] 280)) := more (Below.refl _ _) _
  have hrA : Res3 (w4'.alloc (.cells #[.bool false, .slice none 0 0, .slice none 0 0] 280)) w4'.heap.size := res_new _ _ _ _ _
  have HS5 : Hid (w4'.heap.size < (w4'.alloc (.cells #[.bool false, .slice none 0 0, .slice none 0 0] 280)).heap.size) := Lib.hid (by simp)
  have g0 := cellStay f0 hb5
  have g1 := cellStay f1 hb5
  go_wp2_with fail
  generalize w4'.alloc (.cells #[.bool false, .slice none 0 0, .slice none 0 0] 280) = W5 at *
  refine (hP _).mono ?_
  rintro en w6' ⟨t2, rfl, Q6, hb6⟩
  have hl6 := Q6.le
  have V6 := next V4 (next hb5 hb6)
  have f0' := cellStay g0 hb6
  have f1' := cellStay g1 hb6
  go_wp2_with fail
  refine (hMu _ _ _ _ (hrA.stay hb6) V4.size Q6 (by have := HS5.out; omega) V6).mono ?_
  rintro en w7' ⟨rfl, Q7, hg7⟩
  have hw4 := V4.size
  have hb7 : Below w4'.heap.size w4' w7' := (next hb5 hb6).grown hg7 (next hb5 hb6).size (fun _ hj => Nat.le_of_eq (Option.some.inj hj))
  have V7 := next V4 hb7
  have k0 := cellStay f0 hb7
  have k1 := cellStay f1 hb7
  have hNm : ∀ W, Below w7'.heap.size w7' W → Calls Tryz.prog 293 #[.pointer (some ⟨w4'.heap.size, 0, none⟩)] W (MkZ 23 (K : Int) W) := fun W hW => by
    have := nbRNumZ_any w4'.heap.size w.heap.size _ W (Q7.stay hW) (by rw [Rat.num_intCast, Int.natAbs_natCast]; omega)
    rwa [Rat.num_intCast] at this
  clear f0 f1 f0' f1' g0 g1 hb5 hb6 Q6 hl6 hrA V6 hg7 V4 hP hMu
  have kS : ∀ w' : World, Below w7'.heap.size w7' w' → (w'.cell? ⟨w.heap.size, 0, none⟩ = some (.int .i64 (E : Int)) ∧ w'.cell? ⟨w.heap.size, 1, none⟩ = some (.int .i64 (F : Int)) ∧ Below w7'.heap.size w7' w') := fun w' hb => ⟨cellStay k0 hb, cellStay k1 hb, hb⟩
  go_upto_region 6 with fail
  go_cut [4] from 36 (fun v wx => v = .int .u64 ((P : Int) + (K : Int) - (Q : Int)) ∧ Below w.heap.size w wx)
  case first =>
    go_region_held3 (fun w' => w'.cell? ⟨w.heap.size, 0, none⟩ = some (.int .i64 (E : Int)) ∧ w'.cell? ⟨w.heap.size, 1, none⟩ = some (.int .i64 (F : Int)) ∧ Below w7'.heap.size w7' w')
      ((refine kS _ ?_; (repeat (with_reducible (first | exact VC | exact VB | exact VA | exact Below.refl _ _ | refine Below.drew ?_))); done))
      (first
        | (go_at_call 303; (with_reducible refine (hBi _).mono ?_); rintro en wA ⟨rfl, hbA⟩; have VA : Below w7'.heap.size w7' wA := (by first | exact hbA | exact undrew hbA))
        | (go_at_call 293; (with_reducible refine (hNm _ VA).mono ?_); rintro en wB ⟨t5, rfl, IB, hbB⟩; have VB := next VA hbB)
        | (go_at_call 209; (with_reducible refine (nbUint64_any _ t5 K wB IB hKu).mono ?_); rintro en wC ⟨rfl, rfl⟩))
    all_goals go_wp2
    all_goals go_meet
    all_goals exact ⟨rfl, next V7 VB⟩
  case rest =>
    obtain ⟨rfl, VC⟩ := hcut
    go_wp2
    go_ret
    exact ⟨by rw [HR.out]; rfl, VC⟩

end Go.Proofs.YtaddnoneoflimaaGreatDoor

