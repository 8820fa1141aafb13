/-
  Contracts of numeral/numeralref05: Greatest. Contracts of numeral/numeralref05: Pack of what is rounded.
-/
import Derived.Test.YtaddnoneoflimaaGreatDoorQbNRvD
import Derived.Test.YtaddnoneoflimaaGreatDoorQbNMN19
namespace Go.Proofs.YtaddnoneoflimaaGreatDoor

open Go.RowKit Go.Lb

attribute [local go_sem] Go.World.cell?_alloc_some

theorem res_other {w w' : World} {b p : Nat} (h : Res3 w b) (hg : w.grownBy w' (some p)) (h1 : b ≠ p) : Res3 w' b := by
  have hb : w'.heap[b]? = w.heap[b]? := hg.block b h.lt (fun e => h1 (by cases e; rfl))
  obtain ⟨c0, c1, c2, z0, z1, z2⟩ := h
  exact Res3.ofs ((World.cell?_of_block hb).trans c0) ((World.cell?_of_block hb).trans c1) ((World.cell?_of_block hb).trans c2) ((World.frozen?_of_block hb).trans z0) ((World.frozen?_of_block hb).trans z1) ((World.frozen?_of_block hb).trans z2)

/-- The greatest finite float's worth. -/
def grQ (E F : Nat) : Rat := (((2 ^ (F + 1) - 1 : Nat) : Int) : Rat) * p2 ((bsN E : Int) - F)

set_option maxRecDepth 100000 in
set_option maxHeartbeats 8000000 in
theorem nbGreatest_any (E F : Nat) (w : World) (h1 : 2 ≤ E) (h2 : E ≤ 11) (h4 : F ≤ 52) (hT : Tab w) :
    Calls Tryz.prog 334 #[.agg #[.int .i64 (E : Int), .int .i64 (F : Int)]] w (MkQ 23 (grQ E F) w) := by
  have hbs := bs_le h2
  obtain ⟨W1, hW1⟩ : ∃ W1 : World, W1 = w.alloc (.cells #[.int .i64 (E : Int), .int .i64 (F : Int)] 31) := ⟨_, rfl⟩
  have hb1 : Below w.heap.size w W1 := hW1 ▸ more (Below.refl _ _) _
  have c0 : W1.cell? ⟨w.heap.size, 0, none⟩ = some (.int .i64 (E : Int)) := by rw [hW1]; simp
  have c1 : W1.cell? ⟨w.heap.size, 1, none⟩ = some (.int .i64 (F : Int)) := by rw [hW1]; simp
  have hBi : ∀ W, Calls Tryz.prog 303 #[.agg #[.int .i64 (E : Int), .int .i64 (F : Int)]] W fun en w' => en = .returned (.int .i64 (bsN E : Int)) ∧ Below W.heap.size W w' := fun W => nbBias_any E _ W h1 h2
  obtain ⟨k, hk⟩ : ∃ k : Int, k = (bsN E : Int) - F := ⟨_, rfl⟩
  obtain ⟨n, hn⟩ : ∃ n : Nat, n = 2 ^ (F + 1) - 1 := ⟨_, rfl⟩
  have HR : Hid (grQ E F = ((n : Int) : Rat) * p2 k) := Lib.hid (by unfold grQ; rw [← hn, ← hk])
  have hp53 : 2 ^ (F + 1) ≤ 9007199254740992 := Nat.le_trans (Nat.pow_le_pow_right (by decide) (by omega : F + 1 ≤ 53)) (by decide)
  have hp0 := Nat.two_pow_pos (F + 1)
  have hn1 : n ≤ 9007199254740992 := by omega
  have lN : ln n ≤ 2 := ln_small2 (by omega)
  obtain ⟨p4, p5⟩ := p2_parts k
  have k1 : ln (p2 k).num.natAbs ≤ 67108864 := by rw [p4, Int.natAbs_natCast]; have := ln_p2 k.toNat; omega
  have k2 : ln (p2 k).den ≤ 67108864 := by rw [p5]; have := ln_p2 (-k).toNat; omega
  have hP : ∀ W, Calls Tryz.prog 302 #[.int .i64 k] W (MkQ 23 (p2 k) W) := fun W => nbPower_any k W (by omega) (by omega)
  have hSI : ∀ (W : World) (z : Nat), Res3 W z → W1.heap.size ≤ z → Calls Tryz.prog 405 #[.pointer (some ⟨z, 0, none⟩), .int .i64 (n : Int)] W (StQ 23 z W1.heap.size ((n : Int) : Rat) W) := fun W z hr hz => nbRSetInt64_any z W1.heap.size n W hr hz (by omega)
  have hMu : ∀ (W : World) (z r B' t : Nat), Res3 W z → W1.heap.size ≤ z → Rq 23 W W1.heap.size r ((n : Int) : Rat) → r ≠ z → Rq 23 W B' t (p2 k) → t ≠ z → Below W1.heap.size W1 W → Calls Tryz.prog 301 #[.pointer (some ⟨z, 0, none⟩), .pointer (some ⟨r, 0, none⟩), .pointer (some ⟨t, 0, none⟩)] W (StQ 23 z W1.heap.size (((n : Int) : Rat) * p2 k) W) := fun W z r B' t hr hz hR hrz hQ hne hW =>
    nbRMul_any z W1.heap.size W1.heap.size B' r t _ (p2 k) W hr hz hR hQ hrz hne (by rw [Rat.num_intCast, Int.natAbs_natCast]; omega) (by rw [Rat.den_intCast]; decide) k1 k2 (hT.below (next hb1 hW))
  have e1 : (bsN E : Int) - (F : Int) = k := hk.symm
  have w2 : IntKind.i64.wrap k = k := IntWalk.i64_in _ (by omega)
  obtain ⟨G, hG⟩ : ∃ G : Nat, (G : Int) = (F : Int) + 1 := ⟨F + 1, by omega⟩
  have hG1 : (F : Int) + 1 = (G : Int) := hG.symm
  have hG2 : G ≤ 53 := by omega
  have hGn : (2 : Int) ^ G = (n : Int) + 1 := by
    have : G = F + 1 := by omega
    rw [this, show (2 : Int) ^ (F + 1) = ((2 ^ (F + 1) : Nat) : Int) by simp]
    omega
  have w3 : IntKind.i64.wrap ((n : Int) + 1) = (n : Int) + 1 := IntWalk.i64_in _ (by omega)
  have w4 : (n : Int) + 1 - 1 = (n : Int) := by omega
  clear hk p4 p5 k1 k2 hn hT h1 h2 hbs hp53 hp0 hG
  generalize bsN E = bs at *
  go_enter Tryz.func334, Tryz.ntmps334
  go_wp2_with fail
  rw [← hW1]
  clear hW1
  have kS : ∀ w' : World, Below W1.heap.size W1 w' → (w'.cell? ⟨w.heap.size, 0, none⟩ = some (.int .i64 (E : Int)) ∧ w'.cell? ⟨w.heap.size, 1, none⟩ = some (.int .i64 (F : Int)) ∧ Below W1.heap.size W1 w') := fun w' hb => ⟨cellStay c0 hb, cellStay c1 hb, hb⟩
  go_cut [2] from 10 (fun v wx => ∃ z, v = .pointer (some ⟨z, 0, none⟩) ∧ Rq 23 wx W1.heap.size z (((n : Int) : Rat) * p2 k) ∧ Below W1.heap.size W1 wx)
  case first =>
    go_region_held3 (fun w' => w'.cell? ⟨w.heap.size, 0, none⟩ = some (.int .i64 (E : Int)) ∧ w'.cell? ⟨w.heap.size, 1, none⟩ = some (.int .i64 (F : Int)) ∧ Below W1.heap.size W1 w')
      ((refine kS _ ?_; (repeat (with_reducible (first | exact VD | exact VC | exact VB | exact VA | exact Below.refl _ _ | refine Below.drew ?_ | refine more ?_ _))); done))
      (first
        | (go_at_call 405; (first | ((with_reducible refine (hSI _ _ (res_new _ _ _ _ _).drew (Nat.le_refl _)).mono ?_); rintro en wA ⟨rfl, QA, hgA⟩; have VA : Below W1.heap.size W1 wA := ((more (Below.refl _ _) _).drew).grown hgA (by simp) (fun _ hj => Nat.le_of_eq (Option.some.inj hj))) | ((with_reducible refine (hSI _ _ ((res_new W1 _ _ _ _).stay (more (Below.refl _ _) _)).drew (Nat.le_refl _)).mono ?_); rintro en wA ⟨rfl, QA, hgA⟩; have VA : Below W1.heap.size W1 wA := ((more (more (Below.refl _ _) _) _).drew).grown hgA (by simp; omega) (fun _ hj => Nat.le_of_eq (Option.some.inj hj)); have X1 := res_other (by have := (res_new (W1.alloc (.cells #[.bool false, .slice none 0 0, .slice none 0 0] 280)) 280 (.bool false) (.slice none 0 0) (.slice none 0 0)).drew; simpa using this) hgA (by simp)) | ((with_reducible refine (hSI _ (W1.heap.size + 1) (by have := (res_new (W1.alloc (.cells #[.bool false, .slice none 0 0, .slice none 0 0] 280)) 280 (.bool false) (.slice none 0 0) (.slice none 0 0)).drew; simpa using this) (Nat.le_succ _)).mono ?_); rintro en wA ⟨rfl, QA, hgA⟩; have VA : Below W1.heap.size W1 wA := ((more (more (Below.refl _ _) _) _).drew).grown hgA (by simp; omega) (fun _ hj => by have := Option.some.inj hj; omega); have X1 := res_other (((res_new W1 280 (.bool false) (.slice none 0 0) (.slice none 0 0)).stay (more (Below.refl _ _) _)).drew) hgA (by simp))); have hlA := QA.lt; have hsA := VA.size)
        | (go_at_call 303; (with_reducible refine (hBi _).mono ?_); rintro en wB ⟨rfl, hbB⟩; have hAB : Below wA.heap.size wA wB := (by first | exact hbB | exact next (more (Below.refl _ _) _) hbB | exact next (more (more (Below.refl _ _) _) _) hbB); have VB := next VA hAB; have QB := QA.stay hAB; have hsB := hAB.size; (try have Y1 := X1.stay hAB); (try have Y2 := (res_new wA 280 (.bool false) (.slice none 0 0) (.slice none 0 0)).stay hbB))
        | (go_at_call 302; (with_reducible refine (hP _).mono ?_); rintro en wC ⟨t, rfl, QT, hbC⟩; have hBC : Below wB.heap.size wB wC := (by first | exact hbC | exact next (more (Below.refl _ _) _) hbC | exact next (more (more (Below.refl _ _) _) _) hbC); have VC := next VB hBC; have QC := QB.stay hBC; have hsC := hBC.size; have hlT := QT.le; have hltT := QT.lt; (try have Z1 := Y1.stay hBC; have lZ1 := Y1.lt); (try have Z2 := Y2.stay hBC; have lZ2 := Y2.lt); (try have Z3 := (res_new wB 280 (.bool false) (.slice none 0 0) (.slice none 0 0)).stay hbC))
        | (go_at_call 301; (first | ((with_reducible refine (hMu _ _ _ _ _ Z1 (by omega) QC (by omega) QT (by omega) VC).mono ?_); rintro en wD ⟨rfl, QD, hgD⟩; have VD : Below W1.heap.size W1 wD := VC.grown hgD VC.size (fun _ hj => by have := Option.some.inj hj; omega)) | ((with_reducible refine (hMu _ _ _ _ _ Z2 (by omega) QC (by omega) QT (by omega) VC).mono ?_); rintro en wD ⟨rfl, QD, hgD⟩; have VD : Below W1.heap.size W1 wD := VC.grown hgD VC.size (fun _ hj => by have := Option.some.inj hj; omega)) | ((with_reducible refine (hMu _ _ _ _ _ Z3 (by omega) QC (by omega) QT (by simp at hlT; omega) VC).mono ?_); rintro en wD ⟨rfl, QD, hgD⟩; have VD : Below W1.heap.size W1 wD := VC.grown hgD VC.size (fun _ hj => by have := Option.some.inj hj; omega)) | ((with_reducible refine (hMu _ _ _ _ _ (res_new wC _ _ _ _) (by omega) (QC.stay (more (Below.refl _ _) _)) (by omega) (QT.stay (more (Below.refl _ _) _)) (by omega) (more VC _)).mono ?_); rintro en wD ⟨rfl, QD, hgD⟩; have VD : Below W1.heap.size W1 wD := (more VC _).grown hgD (more VC _).size (fun _ hj => by have := Option.some.inj hj; omega)))))
    all_goals go_wp2
    all_goals go_meet
    all_goals exact ⟨_, rfl, QD, VD⟩
  case rest =>
    obtain ⟨z, rfl, QD, VD⟩ := hcut
    go_wp2
    go_ret
    refine ⟨_, rfl, ?_, next hb1 VD⟩
    rw [HR.out]
    exact QD.mono hb1.size

end Go.Proofs.YtaddnoneoflimaaGreatDoor

namespace Go.Proofs.YtaddnoneoflimaaGreatDoor

open Go.RowKit Go.Lb

/-- The rounded number. -/
def sgQ (E F N D : Nat) (neg : Bool) (m : Nat) : Rat := ((sgM E F N D neg m : Int) : Rat) * p2 (lwE E N D - F)

theorem sgQ_len {E F N D : Nat} (hN : N ≠ 0) (hD : D ≠ 0) (neg : Bool) (m : Nat) (hF : F ≤ 52) (h1 : -1048576 ≤ lwE E N D) (h2 : lwE E N D ≤ 1048576) : ln (sgQ E F N D neg m).num.natAbs ≤ 65536 ∧ ln (sgQ E F N D neg m).den ≤ 65536 := by
  have hle := sg_le (E := E) (F := F) hN hD neg m
  have hp : 2 ^ (F + 1) ≤ 9007199254740992 := Nat.le_trans (Nat.pow_le_pow_right (by decide) (by omega : F + 1 ≤ 53)) (by decide)
  have hl : ln (sgM E F N D neg m) ≤ 2 := ln_small2 (by omega)
  obtain ⟨a, b⟩ := mul_len ((sgM E F N D neg m : Int) : Rat) (lwE E N D - F)
  rw [Rat.num_intCast, Int.natAbs_natCast] at a
  rw [Rat.den_intCast, ln_one] at b
  unfold sgQ
  exact ⟨by omega, by omega⟩

theorem nbPackS_any (B b E F N D m : Nat) (neg : Bool) (w : World) (h : Rq 23 w B b (sgQ E F N D neg m)) (hN : N ≠ 0) (hD : D ≠ 0) (h1 : 2 ≤ E) (h2 : E ≤ 11) (h3 : 1 ≤ F) (h4 : F ≤ 52) (ho : ovB E F N D neg m = false) (hT : Tab w) :
    Calls Tryz.prog 336 #[.agg #[.int .i64 (E : Int), .int .i64 (F : Int)], .pointer (some ⟨b, 0, none⟩)] w fun en w' => en = .returned (.int .u64 (Go.Lb.sgB E F N D neg m : Int)) ∧ Below w.heap.size w w' := by
  have hbs := bs_le h2
  have hlw := lw_ge E N D
  have hlo : lwE E N D ≤ bsN E := by
    unfold ovB at ho
    have := of_decide_eq_false ho
    omega
  obtain ⟨l1, l2⟩ := sgQ_len (E := E) hN hD neg m h4 (by omega) (by omega)
  have hle := sg_le (E := E) (F := F) hN hD neg m
  have hge : lwE E N D = lgE N D → 2 ^ F ≤ sgM E F N D neg m := fun h => sg_ge hN hD neg m h
  have hlc := lw_cases E N D
  have hp53 : 2 ^ (F + 1) ≤ 2 ^ 53 := Nat.pow_le_pow_right (by decide) (by omega)
  have hp53' : (2 : Nat) ^ 53 = 9007199254740992 := by decide
  have hF0 := Nat.two_pow_pos F
  have hSB : Go.Lb.sgB E F N D neg m = sgM E F N D neg m + (lwE E N D + bsN E - 1).toNat * 2 ^ F := rfl
  have hQ : sgQ E F N D neg m = ((sgM E F N D neg m : Int) : Rat) * p2 (lwE E N D - F) := rfl
  rw [hQ] at h l1 l2
  rw [hSB]
  by_cases hM : sgM E F N D neg m < 2 ^ F
  · have hlo1 : lwE E N D = 1 - (bsN E : Int) := by
      rcases hlc with hh | hh
      · have := hge hh; omega
      · exact hh.2
    have := nbPack_low B b E F (sgM E F N D neg m) _ w h h1 h2 h3 h4 l1 l2 (by
      rw [cmp_one, cmpN_neg, hlo1, show (1 - (bsN E : Int) - F - (1 - (bsN E : Int))).toNat = 0 by omega, show (1 - (bsN E : Int) - (1 - (bsN E : Int) - F)).toNat = F by omega, Nat.pow_zero, Nat.mul_one]
      exact hM) (by
      rw [hlo1, Rat.mul_assoc, ← p2_add, show (1 - (bsN E : Int) - F + ((bsN E : Int) - 1 + F)) = 0 by omega, p2_zero, Rat.mul_one]) (by omega) hT
    rw [hlo1, show (1 - (bsN E : Int) + bsN E - 1).toNat = 0 by omega, Nat.zero_mul, Nat.add_zero]
    exact this
  · have hx : 0 < ((sgM E F N D neg m : Int) : Rat) * p2 (lwE E N D - F) := Rat.mul_pos (Rat.intCast_pos.2 (by omega)) (p2_pos _)
    have hcc : ¬ cmpQ (((sgM E F N D neg m : Int) : Rat) * p2 (lwE E N D - F)) (p2 (1 - (bsN E : Int))) < 0 := by
      rw [cmp_one, cmpN_neg]
      intro hk
      have k1 : (1 - (bsN E : Int) - (lwE E N D - F)).toNat ≤ F := by omega
      have k2 := Nat.pow_le_pow_right (n := 2) (by decide) k1
      have k3 := Nat.le_mul_of_pos_right (sgM E F N D neg m) (Nat.two_pow_pos (lwE E N D - F - (1 - (bsN E : Int))).toNat)
      omega
    by_cases hM2 : sgM E F N D neg m = 2 ^ (F + 1)
    · have hlg := lg_scaled (M := sgM E F N D neg m) (F := F) (c := 1) (lwE E N D) (by omega) (by rw [hM2]; exact Nat.pow_lt_pow_right (by decide) (by omega))
      obtain ⟨a, ha⟩ : ∃ a : Nat, (a : Int) = lwE E N D + 1 + bsN E := ⟨(lwE E N D + 1 + bsN E).toNat, by omega⟩
      have := nbPack_high B b E F (2 ^ F) a _ w h hx h1 h2 h3 h4 l1 l2 hcc (by rw [hlg]; omega) (by omega) (by
        rw [hlg, hM2, Rat.mul_assoc, ← p2_add, ← p2_cast, ← p2_cast, ← p2_add]
        congr 1
        omega) (Nat.le_refl _) (Nat.le_trans (Nat.pow_le_pow_right (by decide) (by omega)) (Nat.le_refl _)) hT
      rw [show (lwE E N D + bsN E - 1).toNat = a - 2 by omega, hM2]
      have e : a * 2 ^ F + 2 ^ F - 2 ^ F = 2 ^ (F + 1) + (a - 2) * 2 ^ F := by
        rw [Nat.add_sub_cancel, Nat.pow_succ, Nat.mul_comm (2 ^ F) 2, ← Nat.add_mul]
        congr 1
        omega
      rw [e] at this
      exact this
    · have hlg := lg_scaled (M := sgM E F N D neg m) (F := F) (c := 0) (lwE E N D) (by rw [Nat.add_zero]; omega) (by rw [Nat.add_zero]; omega)
      obtain ⟨a, ha⟩ : ∃ a : Nat, (a : Int) = lwE E N D + bsN E := ⟨(lwE E N D + bsN E).toNat, by omega⟩
      have := nbPack_high B b E F (sgM E F N D neg m) a _ w h hx h1 h2 h3 h4 l1 l2 hcc (by rw [hlg]; omega) (by omega) (by
        rw [hlg, Rat.mul_assoc, ← p2_add, show (lwE E N D - F + ((F : Int) - (lwE E N D + ((0 : Nat) : Int)))) = 0 by omega, p2_zero, Rat.mul_one]) (by omega) (by omega) hT
      rw [show (lwE E N D + bsN E - 1).toNat = a - 1 by omega]
      have e : a * 2 ^ F + sgM E F N D neg m - 2 ^ F = sgM E F N D neg m + (a - 1) * 2 ^ F := by
        have : (a - 1) * 2 ^ F + 2 ^ F = a * 2 ^ F := by
          rw [← Nat.succ_mul]
          congr 1
          omega
        omega
      rw [e] at this
      exact this

end Go.Proofs.YtaddnoneoflimaaGreatDoor

