/-
  The reference's rounding of layer 7, whole: Inf, Round, worth.
-/
import Derived.Test.YtkifhlgmbckekaaGreatDoorQRef7B
import Derived.Test.YtkifhlgmbckekaaGreatDoorQRd7M
import Derived.Test.YtkifhlgmbckekaaGreatDoorSoftC
import Derived.Test.YtkifhlgmbckekaaGreatDoorQRefBits
namespace Go.Proofs.YtkifhlgmbckekaaGreatDoor

open Go.RowKit Go.Lb

attribute [local go_sem] Go.World.cell?_alloc_some

set_option maxRecDepth 100000 in
set_option maxHeartbeats 2000000 in
theorem inf7_any (E F : Nat) (neg : Bool) (w : World) (hf : formE (E : Int) (F : Int) = 0) :
    Calls Tryz.prog 147 #[.agg #[.int .i64 (E : Int), .int .i64 (F : Int)], .bool neg] w fun en w' => en = .returned (.int .u64 ((infN E F + (if neg = true then 2 ^ (E + F) else 0) : Nat) : Int)) ∧ Below w.heap.size w w' := by
  obtain ⟨q1, q2, q3, q4⟩ := formE_ok hf
  have hw1 := pw_top (k := E) (by omega)
  have hx1 : IntKind.u64.wrap (E : Int) = (E : Int) := by rw [IntKind.wrap_u64]; omega
  have hx2 : IntKind.u64.wrap (F : Int) = (F : Int) := by rw [IntKind.wrap_u64]; omega
  have hm1 : min E 64 = E := by omega
  have hm2 : min F 64 = F := by omega
  have hpe := pw_pos E
  have hple := pw_le (show E ≤ 11 by omega)
  rw [show pw 11 = 2048 by unfold pw; rfl] at hple
  have hplf := pw_le (show F ≤ 52 by omega)
  rw [show pw 52 = 4503599627370496 by unfold pw; rfl] at hplf
  have hmk := maskN_eq E
  have hprod : maskN E * pw F ≤ 2047 * 4503599627370496 := Nat.mul_le_mul (by omega) hplf
  have hw3 : IntKind.u64.wrap (((pw E : Nat) : Int) - 1) = ((maskN E : Nat) : Int) := by rw [IntKind.wrap_u64, hmk]; omega
  have hw4 : IntKind.u64.wrap ((maskN E : Int) * 2 ^ F) = ((maskN E * pw F : Nat) : Int) := by
    rw [show (maskN E : Int) * 2 ^ F = ((maskN E * pw F : Nat) : Int) by rw [Int.natCast_mul]; unfold pw; rw [Int.natCast_pow]; rfl, IntKind.wrap_u64]
    omega
  have hS := fun W => refSign7_any (E : Int) (F : Int) neg W hf
  have hinf : infN E F = maskN E * pw F := by
    rw [inf_eq (by omega) F]
    unfold maskN bsN pw
    have h1 : 2 ^ E = 2 * 2 ^ (E - 1) := by
      rw [show 2 * 2 ^ (E - 1) = 2 ^ (E - 1) * 2 by omega, ← Nat.pow_succ]
      congr 1
      omega
    have := Nat.two_pow_pos (E - 1)
    rw [h1]
    congr 1
    omega
  obtain ⟨sg, hsg⟩ : ∃ sg : Nat, sg = if neg = true then 2 ^ (E + F) else 0 := ⟨_, rfl⟩
  have hsg2 : (if neg = true then pw ((E : Int).toNat + (F : Int).toNat) else 0) = sg := by rw [hsg, Int.toNat_natCast, Int.toNat_natCast]; unfold pw; rfl
  have hsgl : sg ≤ 9223372036854775808 := by
    rw [hsg]
    split
    · have e2 : 2 ^ (E + F) ≤ 2 ^ 63 := Nat.pow_le_pow_right (by decide) (by omega)
      have e3 : (2 : Nat) ^ 63 = 9223372036854775808 := by decide
      omega
    · omega
  rw [hinf, ← hsg]
  simp only [hsg2] at hS
  clear hsg hsg2 hinf
  generalize hQ : maskN E * pw F = Q at hw4 hprod ⊢
  have hQw : IntKind.u64.wrap ((sg : Int) + (Q : Int)) = ((Q + sg : Nat) : Int) := by rw [IntKind.wrap_u64]; omega
  generalize Q + sg = V at *
  generalize maskN E = M at hw3 hw4
  generalize pw E = P at hw1 hw3
  clear hQ hmk hple hplf hprod hpe hsgl
  go_enter Tryz.func147, Tryz.ntmps147
  go_wp2
  have A := box2_new w (.int .i64 (E : Int)) (.int .i64 (F : Int)) 23
  have ⟨a0, a1⟩ := A
  have hW0 := more (Below.refl w.heap.size w) (.cells #[.int .i64 (E : Int), .int .i64 (F : Int)] 23)
  go_region_held3 (fun w' => w'.cell? ⟨w.heap.size, 0, none⟩ = some (.int .i64 (E : Int)) ∧ w'.cell? ⟨w.heap.size, 1, none⟩ = some (.int .i64 (F : Int)) ∧ Below w.heap.size w w')
    ((go_split_ands; refine ⟨?_, ?_, ?_⟩ <;> (first | assumption | exact Below.drew (by assumption) | exact cellStay (by assumption) hbB | exact next (by assumption) hbB | (go_keep; done))))
    (first | (go_at_call 71; (with_reducible refine (hS _).mono ?_); rintro en wB ⟨rfl, hbB⟩))
  go_split_ands
  go_wp2
  refine bodyPost_ret (v := .int .u64 (V : Int)) (by simp [results, Tryz.results147, go_sem]) rfl ⟨rfl, by assumption⟩

/-- Nothing left of a number below the least one. -/
theorem fl_none {E F N D m : Nat} {neg : Bool} (hN : N ≠ 0) (hD : D ≠ 0) (ho : ovB E F N D neg m = false) (hq : sgM E F N D neg m = 0) : flB E F N D neg m = 0 := by
  unfold flB
  rw [if_neg (by rw [ho]; decide)]
  have hB : Lb.sgB E F N D neg m = sgM E F N D neg m + (lwE E N D + bsN E - 1).toNat * 2 ^ F := rfl
  rw [hB, hq, Nat.zero_add]
  rcases lw_cases E N D with h | ⟨_, h⟩
  · have := sg_ge (F := F) hN hD neg m h
    have h2 := Nat.two_pow_pos F
    omega
  · rw [show (lwE E N D + bsN E - 1).toNat = 0 by omega, Nat.zero_mul]

set_option maxRecDepth 100000 in
set_option maxHeartbeats 4000000 in
theorem round7_any (E F : Nat) (neg : Bool) (ao : Option Addr) (k c N m : Nat) (X : Int) (w : World) (hf : formE (E : Int) (F : Int) = 0) (hN : N ≠ 0) (hm : m < 5) (h : Sl w ao k c (limbs N)) (hx1 : -5000 ≤ X) (hx2 : X ≤ 5000) (l1 : (limbs N).length ≤ 200) :
    Calls Tryz.prog 153 #[.agg #[.int .i64 (E : Int), .int .i64 (F : Int)], .agg #[.bool neg, .slice ao k c, .int .i64 X, .bool false], .int .u8 (m : Int)] w fun en w' => en = .returned (.tuple #[.int .u64 ((if neg = true then flB E F (upN N X) (upD X) neg m + 2 ^ (E + F) else flB E F (upN N X) (upD X) neg m : Nat) : Int), .int .u8 (flG E F (upN N X) (upD X) neg m : Int)]) ∧ Below w.heap.size w w' := by
  obtain ⟨q1, q2, q3, q4⟩ := formE_ok hf
  have hE : 2 ≤ E := by omega
  obtain ⟨f1, f2, f3, f4, f5, f6, f7⟩ := round7_facts (F := F) X neg hE hN hm
  have hU := upN_ne hN X
  have hD := upD_pos X
  have hbN := bl_len7 l1
  have hbN1 : 1 ≤ blN N := (bl_spec hN).1
  have hlg := lg_of_up hN X
  have hbs : bsN E ≤ 1023 := by
    unfold bsN
    have : 2 ^ (E - 1) ≤ 2 ^ 10 := Nat.pow_le_pow_right (by decide) (by omega)
    omega
  have hqle := sg_le (E := E) (F := F) hU hD neg m
  have hKle := (sgK_bounds (F := F) hU hD neg m).2
  have hsm : ∀ {q : Nat}, q ≤ 2 ^ (F + 1) → (limbs q).length ≤ 50 := fun {q} hq => len_small (by omega) (by decide) hq
  have hql := hsm hqle
  have hKl := hsm hKle
  have hnone := fl_none (E := E) (F := F) (m := m) (neg := neg) hU hD
  have hbits := fun ho hq h1 h2 => bits7 (E := E) (F := F) (m := m) (neg := neg) hf hU hD ho hq h1 h2
  have hfl : flB E F (upN N X) (upD X) neg m = if ovB E F (upN N X) (upD X) neg m = true then (if stayB neg m = true then infN E F - 1 else infN E F) else flB E F (upN N X) (upD X) neg m := by
    split
    · rename_i ho
      unfold flB
      rw [if_pos ho]
    · rfl
  have hfg : flG E F (upN N X) (upD X) neg m = if ovB E F (upN N X) (upD X) neg m = true then 3 else if Lb.sgX E F (upN N X) (upD X) = true then 0 else if tiny E F (upN N X) (upD X) neg m = true then 5 else 1 := rfl
  have hlw : lwE E (upN N X) (upD X) = max (lgE (upN N X) (upD X)) (1 - (bsN E : Int)) := rfl
  generalize lwE E (upN N X) (upD X) = lw at *
  generalize lgE (upN N X) (upD X) = lg at *
  generalize sgM E F (upN N X) (upD X) neg m = Q at *
  generalize sgK F (upN N X) (upD X) neg m = P at *
  generalize ovB E F (upN N X) (upD X) neg m = ov at *
  generalize Lb.sgX E F (upN N X) (upD X) = ex at *
  generalize tiny E F (upN N X) (upD X) neg m = ti at *
  generalize flB E F (upN N X) (upD X) neg m = fb at *
  generalize flG E F (upN N X) (upD X) neg m = fg at *
  obtain ⟨rb, hrb⟩ : ∃ rb : Nat, rb = if neg = true then fb + 2 ^ (E + F) else fb := ⟨_, rfl⟩
  rw [← hrb]
  have HRB := Lib.hid hrb
  clear hrb
  obtain ⟨W2, hW2⟩ : ∃ W2 : World, W2 = (w.alloc (.cells #[.int .i64 (E : Int), .int .i64 (F : Int)] 23)).alloc (.cells #[.bool neg, .slice ao k c, .int .i64 X, .bool false] 189) := ⟨_, rfl⟩
  have hb2 : Below w.heap.size w W2 := hW2 ▸ more (more (Below.refl _ _) _) _
  have a0 : W2.cell? ⟨w.heap.size, 0, none⟩ = some (.int .i64 (E : Int)) := by rw [hW2]; simp [World.cell?_alloc_some]
  have a1 : W2.cell? ⟨w.heap.size, 1, none⟩ = some (.int .i64 (F : Int)) := by rw [hW2]; simp [World.cell?_alloc_some]
  obtain ⟨x0, x1, x2, x3⟩ : W2.cell? ⟨w.heap.size + 1, 0, none⟩ = some (.bool neg) ∧ W2.cell? ⟨w.heap.size + 1, 1, none⟩ = some (.slice ao k c) ∧ W2.cell? ⟨w.heap.size + 1, 2, none⟩ = some (.int .i64 X) ∧ W2.cell? ⟨w.heap.size + 1, 3, none⟩ = some (.bool false) := by
    have hz : (w.alloc (.cells #[.int .i64 (E : Int), .int .i64 (F : Int)] 23)).heap.size = w.heap.size + 1 := World.size_alloc _ _
    rw [hW2, ← hz]
    exact ⟨by simp, by simp, by simp, by simp⟩
  have kB : ∀ W, Below w.heap.size w W → Calls Tryz.prog 257 #[.agg #[.slice ao k c]] W fun e w' => e = .returned (.tuple #[.int .i64 (blN N : Int), .int .i64 0]) ∧ Below W.heap.size W w' := fun W hW => by
    have hc := chk_lm7 (N := N) (by omega)
    have := refBits_any ao k c _ W (h.below hW)
    have hb : bitsN (limbs N) = (blN N : Int) := by unfold bitsN blN; rw [if_pos hc]
    rw [hb, hc] at this
    exact this
  have kBi := fun W => bias_any E F W hE (by omega)
  have kR : ∀ W (z : Int), z = lw - F → Below w.heap.size w W → Calls Tryz.prog 156 #[.agg #[.bool neg, .slice ao k c, .int .i64 X, .bool false], .int .i64 z, .int .u8 (m : Int)] W fun en w' => ∃ a' k' c', en = .returned (.tuple #[.agg #[.slice a' k' c'], .bool (!ex)]) ∧ Fr 150 w' W.heap.size a' k' c' (limbs Q) ∧ Below W.heap.size W w' := fun W z hz hW => by
    subst hz
    rw [← f3, ← f4]
    refine rounded7_any neg ao k c N m hm X (lw - F) W (h.below hW) (by omega) (by omega) (by omega) (by omega) (by omega) ?_
    have g1 := ln_mul N (2 ^ (-(lw - F - X)).toNat)
    have g2 := ln_two (-(lw - F - X)).toNat
    unfold ln at g1 g2
    omega
  have kP : ∀ W (z : Int), z = lg - F → Below w.heap.size w W → Calls Tryz.prog 156 #[.agg #[.bool neg, .slice ao k c, .int .i64 X, .bool false], .int .i64 z, .int .u8 (m : Int)] W fun en w' => ∃ a' k' c' l', en = .returned (.tuple #[.agg #[.slice a' k' c'], .bool l']) ∧ Fr 150 w' W.heap.size a' k' c' (limbs P) ∧ Below W.heap.size W w' := fun W z hz hW => by
    subst hz
    rw [← f5]
    refine (rounded7_any neg ao k c N m hm X (lg - F) W (h.below hW) (by omega) (by omega) (by omega) (by omega) (by omega) ?_).mono ?_
    · have g1 := ln_mul N (2 ^ (-(lg - F - X)).toNat)
      have g2 := ln_two (-(lg - F - X)).toNat
      unfold ln at g1 g2
      omega
    · rintro en w' ⟨a', k', c', rfl, g, hb⟩
      exact ⟨a', k', c', _, rfl, g, hb⟩
  have kY : ∀ W a' k' c' (z : Int), z = lw - F → Sl W a' k' c' (limbs Q) → Calls Tryz.prog 259 #[.agg #[.int .i64 (E : Int), .int .i64 (F : Int)], .agg #[.slice a' k' c'], .int .i64 z] W fun en w' => en = .returned (.bool ov) ∧ Below W.heap.size W w' := fun W a' k' c' z hz j => by
    subst hz
    rw [f6]
    exact beyond7_any E F a' k' c' Q (lw - F) W hE (by omega) j (by omega) (by omega) (by omega)
  have kPb : ∀ W a' k' c', Sl W a' k' c' (limbs P) → Calls Tryz.prog 257 #[.agg #[.slice a' k' c']] W fun e w' => e = .returned (.tuple #[.int .i64 (blN P : Int), .int .i64 0]) ∧ Below W.heap.size W w' := fun W a' k' c' j => by
    have hc := chk_lm7 (N := P) (by omega)
    have := refBits_any a' k' c' _ W j
    have hb : bitsN (limbs P) = (blN P : Int) := by unfold bitsN blN; rw [if_pos hc]
    rw [hb, hc] at this
    exact this
  have kI := fun W => inf7_any E F neg W hf
  have kS := fun W => refSign7_any (E : Int) (F : Int) neg W hf
  simp only [bias_is] at kBi
  have hbx : 1 ≤ bsN E := by
    unfold bsN
    have : 2 ^ 1 ≤ 2 ^ (E - 1) := Nat.pow_le_pow_right (by decide) (by omega)
    omega
  have hfree : X + (blN N : Int) - 1 - F = lg - F := f1
  have hmax : max (lg - (F : Int)) (1 - (bsN E : Int) - F) = lw - F := f2
  have hnl : -5000 ≤ lg ∧ lg ≤ 12000 := by omega
  have hnw : -5000 ≤ lw ∧ lw ≤ 12000 := by omega
  have hln7 := hql
  have HTI := Lib.hid f7
  have HFL := Lib.hid hfl
  have HFG := Lib.hid hfg
  have HNO := Lib.hid hnone
  have HBI := Lib.hid hbits
  have HQP := Lib.hid (And.intro hqle (And.intro hql hKl))
  have hbP := bl_len7 hKl
  have HFR := Lib.hid hfree
  have HMX := Lib.hid hmax
  clear f1 f2 f3 f4 f5 f6 f7 hfl hfg hnone hbits hql hKl hqle hKle hlg hlw hbN1 hU hD hsm hln7 hfree hmax l1 hN h
  generalize blN N = nN at *
  generalize bsN E = bi at *
  generalize blN P = nP at *
  go_enter Tryz.func153, Tryz.ntmps153
  go_upto_region 1 with fail
  rw [← hW2]
  clear hW2
  go_wp2_with fail
  refine (kB W2 hb2).mono ?_
  rintro en w3 ⟨rfl, hb3⟩
  have V3 := next hb2 hb3
  replace a0 := cellStay a0 hb3
  replace a1 := cellStay a1 hb3
  replace x0 := cellStay x0 hb3
  replace x1 := cellStay x1 hb3
  replace x2 := cellStay x2 hb3
  replace x3 := cellStay x3 hb3
  clear hb2 hb3 kB
  go_upto_region 3 with fail
  have hw1 : IntKind.i64.wrap (1 - (bi : Int)) = 1 - (bi : Int) := IntWalk.i64_in _ (by constructor <;> omega)
  have hw2 : IntKind.i64.wrap (1 - (bi : Int) - (F : Int)) = 1 - (bi : Int) - (F : Int) := IntWalk.i64_in _ (by constructor <;> omega)
  have hb0 := Below.refl w3.heap.size w3
  have kSa : ∀ w' : World, Below w3.heap.size w3 w' → (w'.cell? ⟨w.heap.size, 0, none⟩ = some (.int .i64 (E : Int)) ∧ w'.cell? ⟨w.heap.size, 1, none⟩ = some (.int .i64 (F : Int)) ∧ Below w3.heap.size w3 w') := fun w' hb => ⟨cellStay a0 hb, cellStay a1 hb, hb⟩
  go_region_held3 (fun w' => w'.cell? ⟨w.heap.size, 0, none⟩ = some (.int .i64 (E : Int)) ∧ w'.cell? ⟨w.heap.size, 1, none⟩ = some (.int .i64 (F : Int)) ∧ Below w3.heap.size w3 w')
    ((refine kSa _ ?_; (repeat (with_reducible (first | assumption | exact Below.refl _ _ | refine Below.drew ?_))); done))
    (first | (go_at_call 258; (with_reducible refine (kBi _).mono ?_); rintro en wB ⟨rfl, hbB⟩; have hWB : Below w3.heap.size w3 wB := (by go_split_ands; exact next (by assumption) hbB)))
  go_split_ands
  have V4 := next V3 hWB
  replace a0 := cellStay a0 hWB
  replace a1 := cellStay a1 hWB
  replace x0 := cellStay x0 hWB
  replace x1 := cellStay x1 hWB
  replace x2 := cellStay x2 hWB
  replace x3 := cellStay x3 hWB
  clear hw1 hw2 hb0 kSa hbB hWB V3
  go_upto_region 4 with fail
  rw [HFR.out]
  go_wp2_with fail
  (with_reducible refine (kR wB _ ?_ V4).mono ?_)
  · exact HMX.out
  rintro en wC ⟨qa, qk, qc, rfl, qF, hbC⟩
  have hs := more hbC (.cells #[.slice qa qk qc] 69)
  have V5 := next V4 hs
  replace a0 := cellStay a0 hs
  replace a1 := cellStay a1 hs
  replace x0 := cellStay x0 hs
  replace x1 := cellStay x1 hs
  replace x2 := cellStay x2 hs
  replace x3 := cellStay x3 hs
  have qN := box1_new wC (.slice qa qk qc) 69
  have qG := (qF.alloc (.cells #[.slice qa qk qc] 69)).sl
  clear V4 hs hbC qF kR
  go_upto_region 6 with fail
  obtain ⟨qZ, hZ⟩ : ∃ q, q = wC.heap.size := ⟨_, rfl⟩
  rw [← hZ] at qN ⊢
  clear hZ
  generalize wC.alloc (.cells #[.slice qa qk qc] 69) = w5 at *
  rw [HMX.out]
  clear HMX HFR
  have kD : ∀ W a' k' c' (z : Int), z = lw - F → Sl W a' k' c' (limbs Q) → Calls Tryz.prog 261 #[.bool neg, .agg #[.slice a' k' c'], .int .i64 z] W (fun en w' => ∃ a' k' c', en = .returned (.agg #[.bool (mkS neg (limbs Q) (lw - F)), .slice a' k' c', .int .i64 (mkX (limbs Q) (lw - F))]) ∧ Fr 150 w' W.heap.size a' k' c' (limbs (mkN (limbs Q) (lw - F))) ∧ Below W.heap.size W w') := fun W a' k' c' z hz j => by
    subst hz
    exact dyadic7_any neg a' k' c' (lw - F) _ W j
  have kV : ov = false → Q ≠ 0 → ∀ W a' k' c', Sl W a' k' c' (limbs (mkN (limbs Q) (lw - F))) → Calls Tryz.prog 260 #[.agg #[.int .i64 (E : Int), .int .i64 (F : Int)], .agg #[.bool (mkS neg (limbs Q) (lw - F)), .slice a' k' c', .int .i64 (mkX (limbs Q) (lw - F))]] W (fun en w' => ∃ b' e', en = .returned (.tuple #[.int .u64 (rb : Int), .bool b', .int .i64 e']) ∧ Below W.heap.size W w') := fun ho hq W a' k' c' j => by
    rw [HRB.out, ← HBI.out ho hq (by omega) (by omega)]
    refine (rfBits_any (E : Int) (F : Int) _ a' k' c' _ _ W j).mono ?_
    rintro en w' ⟨rfl, hb⟩
    exact ⟨_, _, rfl, hb⟩
  generalize mkS neg (limbs Q) (lw - F) = dS at *
  generalize mkX (limbs Q) (lw - F) = dX at *
  generalize mkN (limbs Q) (lw - F) = dN at *
  generalize hla : lw - (F : Int) = la at *
  generalize hfr : lg - (F : Int) = fr at *
  have hfr2 : -12000 ≤ fr ∧ fr ≤ 12000 := by omega
  obtain ⟨fz, hfz⟩ : ∃ fz : Int, fz = if ex = true then 0 else 1 := ⟨_, rfl⟩
  have HFZ := Lib.hid hfz
  clear hfz hla hfr HBI
  go_upto_if 53 with fail
  go_cut [15] from 53 to 53 (fun v15 wx => wx = w5 ∧ v15 = .int .u8 fz)
  case first => as_aux_lemma =>
    cases ex
    · go_wp2
      go_meet
      exact ⟨rfl, by rw [HFZ.out]; rfl⟩
    · go_wp2
      go_meet
      exact ⟨rfl, by rw [HFZ.out]; rfl⟩
  case rest => as_aux_lemma =>
    obtain ⟨rfl, rfl⟩ := hcut
    generalize wc = w5 at *
    have ⟨q0, _⟩ := qN
    go_wp2_with fail
    (with_reducible refine (kY w5 _ _ _ _ rfl qG).mono ?_)
    rintro en w6 ⟨rfl, hb6⟩
    have V6 := next V5 hb6
    replace a0 := cellStay a0 hb6
    replace a1 := cellStay a1 hb6
    replace x0 := cellStay x0 hb6
    replace x1 := cellStay x1 hb6
    replace x2 := cellStay x2 hb6
    replace x3 := cellStay x3 hb6
    replace qN := qN.stay hb6
    replace qG := qG.below hb6
    clear q0 V5 hb6 kY
    cases ov
    case' true =>
      as_aux_lemma =>
      have hinf1 : 1 ≤ infN E F := by
        rw [inf_eq hE]
        exact Nat.mul_pos (by omega) (Nat.two_pow_pos _)
      have hsl : infN E F + 2 ^ (E + F) ≤ 18446744073709551615 := by
        have e1 : infN E F < 2 ^ (E + F) := by
          unfold infN
          have : 2 ^ F ≤ 2 ^ (E + F) := Nat.pow_le_pow_right (by decide) (by omega)
          have := Nat.two_pow_pos F
          omega
        have e2 : 2 ^ (E + F) ≤ 2 ^ 63 := Nat.pow_le_pow_right (by decide) (by omega)
        have e3 : (2 : Nat) ^ 63 = 9223372036854775808 := by decide
        omega
      have hfg3 : fg = 3 := by rw [HFG.out, if_pos rfl]
      have hfb := HFL.out
      rw [if_pos rfl] at hfb
      have hrb := HRB.out
      clear HRB HFL HFG HNO HTI kV kD kP kPb kS
      generalize infN E F = I0 at *
      generalize 2 ^ (E + F) = Z0 at *
      obtain ⟨iv, hiv⟩ : ∃ iv : Nat, iv = I0 + (if neg = true then Z0 else 0) := ⟨_, rfl⟩
      have hrb2 : rb = if stayB neg m = true then iv - 1 else iv := by
        by_cases hst : stayB neg m = true
        · rw [if_pos hst] at hfb ⊢
          rw [hrb, hfb, hiv]
          split <;> omega
        · rw [if_neg hst] at hfb ⊢
          rw [hrb, hfb, hiv]
          split <;> omega
      have hiv1 : 1 ≤ iv ∧ iv ≤ 18446744073709551615 := by rw [hiv]; split <;> omega
      simp only [← hiv] at kI
      have hw9 : ((iv - 1 : Nat) : Int) = (iv : Int) - 1 := by omega
      have HR2 := Lib.hid hrb2
      have HW9 := Lib.hid hw9
      have HF3 := Lib.hid hfg3
      clear hfb hrb hrb2 hiv hw9 hfg3 hinf1 hsl
      have hmm : m = 0 ∨ m = 1 ∨ m = 2 ∨ m = 3 ∨ m = 4 := by omega
      rcases hmm with rfl | rfl | rfl | rfl | rfl
      all_goals
        cases neg
      all_goals
        go_wp2_with fail
        with_reducible refine (kI w6).mono ?_
        rintro en w7 ⟨rfl, hb7⟩
        go_wp2
      all_goals first
        | (have e1 : (rb : Int) = (iv : Int) := by rw [HR2.out, if_neg (by decide)]
           refine bodyPost_ret (v := .tuple #[.int .u64 (iv : Int), .int .u8 3]) (by simp [results, Tryz.results153, go_sem]) rfl ⟨by rw [e1, HF3.out]; rfl, next V6 hb7⟩)
        | (have e1 : (rb : Int) = (iv : Int) - 1 := by rw [HR2.out, if_pos (by decide)]; exact HW9.out
           refine bodyPost_ret (v := .tuple #[.int .u64 ((iv : Int) - 1), .int .u8 3]) (by simp [results, Tryz.results153, go_sem]) rfl ⟨by rw [e1, HF3.out]; rfl, next V6 hb7⟩)
    case' false =>
      as_aux_lemma =>
      have HFG2 : Hid (fg = if ex = true then 0 else if ti = true then 5 else 1) := Lib.hid (by have := HFG.out; simpa using this)
      clear HFG HFL kI
      go_upto_if 92 with fail
      go_cut [15, 16, 17, 18, 19] from 92 to 111 (fun v15 _ _ _ _ wx => v15 = .int .u8 (fg : Int) ∧ Below w6.heap.size w6 wx)
      case first => as_aux_lemma =>
        cases ex
        case' true =>
          go_wp2
          go_meet
          exact ⟨by rw [HFZ.out, HFG2.out]; rfl, Below.refl _ _⟩
        case' false =>
          go_wp2_with fail
          (with_reducible refine (kP w6 _ ?_ V6).mono ?_)
          · rfl
          rintro en wA ⟨pa, pk, pc, pl, rfl, pF, hbA⟩
          have hs := more hbA (.cells #[.slice pa pk pc] 69)
          replace a0 := cellStay a0 hs
          replace a1 := cellStay a1 hs
          have pN := box1_new wA (.slice pa pk pc) 69
          have pG := (pF.alloc (.cells #[.slice pa pk pc] 69)).sl
          clear x0 x1 x2 x3 qN qG hbA pF kP
          go_upto_region 16 with fail
          obtain ⟨pZ, hZ⟩ : ∃ q, q = wA.heap.size := ⟨_, rfl⟩
          rw [← hZ] at pN ⊢
          clear hZ
          generalize wA.alloc (.cells #[.slice pa pk pc] 69) = w7 at *
          have ⟨p0, _⟩ := pN
          go_wp2_with fail
          with_reducible refine (kPb w7 _ _ _ pG).mono ?_
          rintro en w8 ⟨rfl, hb8⟩
          have V8 := next hs hb8
          replace a0 := cellStay a0 hb8
          replace a1 := cellStay a1 hb8
          clear p0 pN pG hs hb8 kPb
          have hti : ti = true ↔ (nP : Int) + fr ≤ 1 - (bi : Int) := by rw [HTI.out]; exact decide_eq_true_iff
          cases ti
          case' false =>
            have hti2 : ¬ ((nP : Int) + fr ≤ 1 - (bi : Int)) := fun h => by simpa using hti.2 h
          case' true =>
            have hti2 : (nP : Int) + fr ≤ 1 - (bi : Int) := hti.1 rfl
          all_goals
            clear hti
            go_wp2_with fail
            with_reducible refine (kBi w8).mono ?_
            rintro en wB ⟨rfl, hbB⟩
            go_wp2
            go_meet
            exact ⟨by first | (rw [HFZ.out, HFG2.out]; rfl) | (rw [HFG2.out]; rfl), next V8 hbB⟩
      case rest => as_aux_lemma =>
        obtain ⟨rfl, hb7⟩ := hcut
        have V7 := next V6 hb7
        replace a0 := cellStay a0 hb7
        replace a1 := cellStay a1 hb7
        replace x0 := cellStay x0 hb7
        replace qN := qN.stay hb7
        replace qG := qG.below hb7
        clear x1 x2 x3 V6 hb7 kP kPb kBi HFZ HFG2 HTI
        generalize wc = w7 at *
        have ⟨q0, _⟩ := qN
        by_cases hQ : Q = 0
        case' pos =>
          have hrb0 : (if neg = true then pw ((E : Int).toNat + (F : Int).toNat) else 0) = rb := by
            rw [HRB.out, HNO.out (by trivial) hQ, Int.toNat_natCast, Int.toNat_natCast]
            unfold pw
            cases neg <;> simp
          simp only [hrb0] at kS
          obtain rfl : qk = 0 := by rw [← qG.len, hQ, limbs_zero]; rfl
          clear HRB HNO hrb0 kV kD
          go_wp2_with fail
          with_reducible refine (kS w7).mono ?_
          rintro en w8 ⟨rfl, hb8⟩
          go_wp2
          refine bodyPost_ret (v := .tuple #[.int .u64 (rb : Int), .int .u8 (fg : Int)]) (by simp [results, Tryz.results153, go_sem]) rfl ⟨rfl, next V7 hb8⟩
        case' neg =>
          have hqk : ¬ ((qk : Int) = 0) := by
            have := qG.len
            rw [limbs_pos hQ] at this
            simp at this
            omega
          have kV' := kV (by trivial) hQ
          clear HRB HNO kV kS
          go_upto_region 21 with fail
          have hb0 := Below.refl w7.heap.size w7
          have kSa : ∀ w' : World, Below w7.heap.size w7 w' → (w'.cell? ⟨w.heap.size, 0, none⟩ = some (.int .i64 (E : Int)) ∧ w'.cell? ⟨w.heap.size, 1, none⟩ = some (.int .i64 (F : Int)) ∧ w'.cell? ⟨w.heap.size + 1, 0, none⟩ = some (.bool neg) ∧ w'.cell? ⟨qZ, 0, none⟩ = some (.slice qa qk qc) ∧ Below w7.heap.size w7 w') := fun w' hb => ⟨cellStay a0 hb, cellStay a1 hb, cellStay x0 hb, cellStay q0 hb, hb⟩
          go_region_held3 (fun w' => w'.cell? ⟨w.heap.size, 0, none⟩ = some (.int .i64 (E : Int)) ∧ w'.cell? ⟨w.heap.size, 1, none⟩ = some (.int .i64 (F : Int)) ∧ w'.cell? ⟨w.heap.size + 1, 0, none⟩ = some (.bool neg) ∧ w'.cell? ⟨qZ, 0, none⟩ = some (.slice qa qk qc) ∧ Below w7.heap.size w7 w')
            ((refine kSa _ ?_; (repeat (with_reducible (first | assumption | exact Below.refl _ _ | refine Below.drew ?_))); done))
            (first
              | (go_at_call 261; (with_reducible refine (kD _ _ _ _ _ rfl ?_).mono ?_); (focus (go_split_ands; exact qG.below (by assumption))); rintro en wX ⟨da, dk, dc, rfl, dF, hbX⟩; have hWX : Below w7.heap.size w7 wX := (by go_split_ands; exact next (by assumption) hbX))
              | (go_at_call 260; (with_reducible refine (kV' _ _ _ _ ?_).mono ?_); (focus (first | exact dF.sl | exact dF.drew.sl)); rintro en wY ⟨bb, be, rfl, hbY⟩; have hWY : Below w7.heap.size w7 wY := (by go_split_ands; exact next (by assumption) hbY)))
          go_split_ands
          go_wp2
          refine bodyPost_ret (v := .tuple #[.int .u64 (rb : Int), .int .u8 (fg : Int)]) (by simp [results, Tryz.results153, go_sem]) rfl ⟨rfl, next V7 hWY⟩

end Go.Proofs.YtkifhlgmbckekaaGreatDoor

