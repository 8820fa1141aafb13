/-
  Contracts of numeral/numeralref05: Rat.
-/
import Derived.Test.YtaddnoneoflimaaGreatDoorQbNRvF
import Derived.Test.YtaddnoneoflimaaGreatDoorQbNRdD
namespace Go.Proofs.YtaddnoneoflimaaGreatDoor

open Go.RowKit Go.Lb

attribute [local go_sem] Go.World.cell?_alloc_some

theorem un_sg (E F m : Nat) (a : Rat) (neg : Bool) : unQ a (lwE E a.num.natAbs a.den - F) neg m = sgQ E F a.num.natAbs a.den neg m := by
  unfold unQ unN sgQ sgM
  rw [show -(lwE E a.num.natAbs a.den - (F : Int)) = (F : Int) - lwE E a.num.natAbs a.den by omega]

theorem un_k (F m : Nat) (a : Rat) (neg : Bool) : unQ a (lgE a.num.natAbs a.den - F) neg m = ((sgK F a.num.natAbs a.den neg m : Int) : Rat) * p2 (lgE a.num.natAbs a.den - F) := by
  unfold unQ unN sgK
  rw [show -(lgE a.num.natAbs a.den - (F : Int)) = (F : Int) - lgE a.num.natAbs a.den by omega]

theorem sg_same (E F m : Nat) {a : Rat} (ha : 0 ≤ a) (neg : Bool) : cmpQ (sgQ E F a.num.natAbs a.den neg m) a = 0 ↔ sgX E F a.num.natAbs a.den = true := by
  rw [cmpQ_zero]
  have h := rd_exact ha ((F : Int) - lwE E a.num.natAbs a.den) neg m
  rw [show -((F : Int) - lwE E a.num.natAbs a.den) = lwE E a.num.natAbs a.den - (F : Int) by omega] at h
  exact h

theorem nbRat_zero (B b E F m : Nat) (x : Rat) (neg : Bool) (w : World) (h : Rq 23 w B b x) (h0 : x.num = 0) (h2 : E ≤ 11) (h4 : F ≤ 52) :
    Calls Tryz.prog 228 #[.agg #[.int .i64 (E : Int), .int .i64 (F : Int)], .pointer (some ⟨b, 0, none⟩), .bool neg, .int .u8 (m : Int)] w fun en w' => en = .returned (.tuple #[.int .u64 (sgBits E F 0 x.den false neg m : Int), .int .u8 0]) ∧ Below w.heap.size w w' := by
  obtain ⟨W1, hW1⟩ : ∃ W1 : World, W1 = w.alloc (.cells #[.int .i64 (E : Int), .int .i64 (F : Int)] 31) := ⟨_, rfl⟩
  have hb1 : Below w.heap.size w W1 := hW1 ▸ more (Below.refl _ _) _
  have c0 : W1.cell? ⟨w.heap.size, 0, none⟩ = some (.int .i64 (E : Int)) := by rw [hW1]; simp
  have c1 : W1.cell? ⟨w.heap.size, 1, none⟩ = some (.int .i64 (F : Int)) := by rw [hW1]; simp
  have hSg : ∀ W, Below w.heap.size w W → Calls Tryz.prog 300 #[.pointer (some ⟨b, 0, none⟩)] W fun e w' => e = .returned (.int .i64 0) ∧ W = w' := fun W hW => by
    have := nbRSignZ_any b B x W (h.stay hW)
    rwa [h0] at this
  have hS5 := fun W => nbSign5_any E F W h2 h4
  have HR : Hid (sgBits E F 0 x.den false neg m = if neg = true then 2 ^ (E + F) else 0) := Lib.hid rfl
  obtain ⟨P, hP⟩ : ∃ P, P = 2 ^ (E + F) := ⟨_, rfl⟩
  rw [← hP] at HR hS5
  have hP2 : P ≤ 9223372036854775808 := by rw [hP]; exact Nat.le_trans (Nat.pow_le_pow_right (by decide) (by omega : E + F ≤ 63)) (by decide)
  have w1 : IntKind.u64.wrap (P : Int) = (P : Int) := IntWalk.u64_in _ (by omega)
  clear hP h0 h h2 h4
  cases neg
  · go_enter Tryz.func228, Tryz.ntmps228
    go_wp2_with fail
    rw [← hW1]
    clear hW1
    refine (hSg _ hb1).mono ?_
    rintro en w2 ⟨rfl, rfl⟩
    go_wp2_with (go_at_call 300; refine (hSg _ hb1).mono ?_; rintro en w2 ⟨rfl, rfl⟩)
    go_ret2
    exact ⟨by rw [HR.out]; rfl, hb1⟩
  · go_enter Tryz.func228, Tryz.ntmps228
    go_wp2_with fail
    rw [← hW1]
    clear hW1
    refine (hSg _ hb1).mono ?_
    rintro en w2 ⟨rfl, rfl⟩
    go_wp2_with (go_at_call 300; refine (hSg _ hb1).mono ?_; rintro en w2 ⟨rfl, rfl⟩)
    refine (hS5 _).mono ?_
    rintro en w3 ⟨rfl, hb3⟩
    have V3 := next hb1 hb3
    go_wp2_with (go_at_call 300; refine (hSg _ V3).mono ?_; rintro en w2 ⟨rfl, rfl⟩)
    go_ret2
    exact ⟨by rw [HR.out]; rfl, V3⟩

set_option maxRecDepth 100000 in
set_option maxHeartbeats 16000000 in
theorem nbRat_other (B b E F m : Nat) (x : Rat) (neg : Bool) (w : World) (h : Rq 23 w B b x) (h0 : x.num ≠ 0) (h1 : 2 ≤ E) (h2 : E ≤ 11) (h3 : 1 ≤ F) (h4 : F ≤ 52) (hm : m < 5) (l1 : ln x.num.natAbs ≤ 16384) (l2 : ln x.den ≤ 16384) (hT : Tab w) :
    Calls Tryz.prog 228 #[.agg #[.int .i64 (E : Int), .int .i64 (F : Int)], .pointer (some ⟨b, 0, none⟩), .bool neg, .int .u8 (m : Int)] w fun en w' => en = .returned (.tuple #[.int .u64 (sgBits E F x.num.natAbs x.den (decide (x.num < 0)) neg m : Int), .int .u8 (sgFlags E F x.num.natAbs x.den (decide (x.num < 0)) m : Int)]) ∧ Below w.heap.size w w' := by
  have hbl := h.lt
  have hbs := bs_le h2
  have hN : x.num.natAbs ≠ 0 := by omega
  have hD : x.den ≠ 0 := x.den_nz
  obtain ⟨a1, a2, a3⟩ := absR_parts x
  obtain ⟨below, hbelow⟩ : ∃ below, below = decide (x.num < 0) := ⟨_, rfl⟩
  rw [← hbelow]
  obtain ⟨a, ha⟩ : ∃ a, a = absR x := ⟨_, rfl⟩
  rw [← ha] at a1 a2 a3
  have ha0 : 0 ≤ a := Rat.num_nonneg.1 (by have := of_decide_eq_false a3; omega)
  have hap : 0 < a := Rat.lt_of_le_of_ne ha0 (fun hh => hN (by rw [← a1, ← hh]; rfl))
  rw [← a1] at hN l1
  rw [← a2] at hD l2
  rw [← a1, ← a2]
  have hlg : -1000000 ≤ lgE a.num.natAbs a.den ∧ lgE a.num.natAbs a.den ≤ 1000000 := by
    have m1 := bl_le a.num.natAbs
    have m2 := bl_le a.den
    unfold lgE
    split <;> omega
  have hlw := lw_ge E a.num.natAbs a.den
  have hlw2 : lwE E a.num.natAbs a.den ≤ 1048576 := by unfold lwE; omega
  obtain ⟨y1, y2⟩ := sgQ_len (E := E) hN hD below m h4 (by omega) hlw2
  obtain ⟨W1, hW1⟩ : ∃ W1 : World, W1 = w.alloc (.cells #[.int .i64 (E : Int), .int .i64 (F : Int)] 31) := ⟨_, rfl⟩
  have hb1 : Below w.heap.size w W1 := hW1 ▸ more (Below.refl _ _) _
  have c0 : W1.cell? ⟨w.heap.size, 0, none⟩ = some (.int .i64 (E : Int)) := by rw [hW1]; simp
  have c1 : W1.cell? ⟨w.heap.size, 1, none⟩ = some (.int .i64 (F : Int)) := by rw [hW1]; simp
  have hSg : ∀ W, Below w.heap.size w W → Calls Tryz.prog 300 #[.pointer (some ⟨b, 0, none⟩)] W fun e w' => e = .returned (.int .i64 (if below = true then -1 else 1)) ∧ W = w' := fun W hW => by
    have := nbRSignZ_any b B x W (h.stay hW)
    have hs : x.num.sign = if below = true then -1 else 1 := by
      rw [hbelow]
      rcases Int.lt_or_le x.num 0 with hh | hh
      · rw [Int.sign_eq_neg_one_of_neg hh, if_pos (decide_eq_true hh)]
      · rw [Int.sign_eq_one_of_pos (by omega), if_neg (by rw [decide_eq_true_iff]; omega)]
    rwa [hs] at this
  have hS5 := fun W => nbSign5_any E F W h2 h4
  have hAb : ∀ (W : World) (z : Nat), Res3 W z → w.heap.size ≤ z → Below w.heap.size w W → Calls Tryz.prog 330 #[.pointer (some ⟨z, 0, none⟩), .pointer (some ⟨b, 0, none⟩)] W (StQ 23 z w.heap.size a W) := fun W z hr hz hW => by
    rw [ha]
    exact nbRAbs_any z w.heap.size B b x W hr hz (h.stay hW) (by rw [a1] at l1; omega) (by rw [a2] at l2; omega)
  have hLg : ∀ (W : World) (z : Nat), Rq 23 W w.heap.size z a → Calls Tryz.prog 331 #[.pointer (some ⟨z, 0, none⟩)] W fun en w' => en = .returned (.int .i64 (lgE a.num.natAbs a.den)) ∧ Below W.heap.size W w' := fun W z hz => nbLog_any w.heap.size z a W hz hap (by omega) (by omega)
  have hBi : ∀ W, Calls Tryz.prog 303 #[.agg #[.int .i64 (E : Int), .int .i64 (F : Int)]] W fun en w' => en = .returned (.int .i64 (bsN E : Int)) ∧ Below W.heap.size W w' := fun W => nbBias_any E _ W h1 h2
  have hU1 : ∀ (W : World) (z : Nat), Rq 23 W w.heap.size z a → Below w.heap.size w W → Calls Tryz.prog 332 #[.pointer (some ⟨z, 0, none⟩), .int .i64 (lwE E a.num.natAbs a.den - F), .bool below, .int .u8 (m : Int)] W (MkQ 23 (sgQ E F a.num.natAbs a.den below m) W) := fun W z hz hW => by
    rw [← un_sg]
    exact nbUnit_any w.heap.size z m _ a below W hz ha0 hm (by omega) (by omega) (by omega) (by omega) (hT.below hW)
  have hmax : max (lgE a.num.natAbs a.den) (1 - (bsN E : Int)) = lwE E a.num.natAbs a.den := rfl
  have e0 : IntKind.i64.wrap (1 - (bsN E : Int)) = 1 - (bsN E : Int) := IntWalk.i64_in _ (by omega)
  have e1 : IntKind.i64.wrap (lwE E a.num.natAbs a.den - F) = lwE E a.num.natAbs a.den - F := IntWalk.i64_in _ (by omega)
  have e2 : IntKind.i64.wrap (lgE a.num.natAbs a.den - F) = lgE a.num.natAbs a.den - F := IntWalk.i64_in _ (by omega)
  obtain ⟨S, hS⟩ : ∃ S, S = 2 ^ (E + F) := ⟨_, rfl⟩
  rw [← hS] at hS5
  have HN := Lib.hid hN
  have HD := Lib.hid hD
  have HT := Lib.hid hT
  have HS := Lib.hid hS
  have HW := Lib.hid (And.intro h1 (And.intro h2 (And.intro h3 (And.intro h4 hbs))))
  have HA := Lib.hid (And.intro ha0 hap)
  have HY := Lib.hid (And.intro y1 y2)
  have HH := Lib.hid h
  have HL := Lib.hid (And.intro l1 l2)
  have HE := Lib.hid hlg
  clear h h1 h2 h3 h4 hbs ha0 hap y1 y2 hS ha hbelow hT hN hD hlg hlw hlw2 a1 a2 a3 l1 l2 h0 hbl
  cases below
  · have hSg' : ∀ W, Below w.heap.size w W → Calls Tryz.prog 300 #[.pointer (some ⟨b, 0, none⟩)] W fun e w' => e = .returned (.int .i64 1) ∧ W = w' := fun W hW => by
      have := hSg W hW
      rwa [if_neg (by decide)] at this
    clear hSg
    go_enter Tryz.func228, Tryz.ntmps228
    go_wp2_with fail
    rw [← hW1]
    clear hW1
    refine (hSg' _ hb1).mono ?_
    rintro en w2 ⟨rfl, rfl⟩
    go_wp2_with (go_at_call 300; refine (hSg' _ hb1).mono ?_; rintro en w2 ⟨rfl, rfl⟩)
    refine (hAb _ _ (res_new _ _ _ _ _) hb1.size (more hb1 _)).mono ?_
    rintro en w4 ⟨rfl, QA, hg4⟩
    have B4 : Below W1.heap.size W1 w4 := (more (Below.refl _ _) _).grown hg4 (by simp) (fun _ hj => Nat.le_of_eq (Option.some.inj hj))
    have V4 := next hb1 B4
    go_wp2_with fail
    refine (hLg _ _ QA).mono ?_
    rintro en w5 ⟨rfl, hb5⟩
    have V5 := next V4 hb5
    have B5 := next B4 hb5
    have Q5 := QA.stay hb5
    have f0 := cellStay c0 B5
    have f1 := cellStay c1 B5
    generalize W1.heap.size = z at *
    clear c0 c1 B4 B5 hg4 QA hb5 V4 hSg' hAb hLg
    have kS : ∀ w' : World, Below w5.heap.size w5 w' → (w'.cell? ⟨w.heap.size, 0, none⟩ = some (.int .i64 (E : Int)) ∧ w'.cell? ⟨w.heap.size, 1, none⟩ = some (.int .i64 (F : Int)) ∧ Below w5.heap.size w5 w') := fun w' hb => ⟨cellStay f0 hb, cellStay f1 hb, hb⟩
    go_upto_region 9 with fail
    go_cut [14] from 41 to 52 (fun v wx => ∃ t, v = .pointer (some ⟨t, 0, none⟩) ∧ Rq 23 wx w5.heap.size t (sgQ E F a.num.natAbs a.den false m) ∧ Below w5.heap.size w5 wx)
    case first =>
      go_region_held3 (fun w' => w'.cell? ⟨w.heap.size, 0, none⟩ = some (.int .i64 (E : Int)) ∧ w'.cell? ⟨w.heap.size, 1, none⟩ = some (.int .i64 (F : Int)) ∧ Below w5.heap.size w5 w')
        ((refine kS _ ?_; (repeat (with_reducible (first | exact VB | exact VA | exact Below.refl _ _ | refine Below.drew ?_))); done))
        (first
          | (go_at_call 303; (with_reducible refine (hBi _).mono ?_); rintro en wA ⟨rfl, hbA⟩; have VA : Below w5.heap.size w5 wA := (by first | exact hbA | exact undrew hbA))
          | (go_at_call 332; (with_reducible refine (hU1 _ _ (Q5.stay VA) (next V5 VA)).mono ?_); rintro en wB ⟨t, rfl, QB, hbB⟩; have VB := next VA hbB))
      all_goals go_wp2
      all_goals go_meet
      all_goals exact ⟨_, rfl, QB.mono VA.size, VB⟩
    case rest =>
      obtain ⟨t, rfl, QY, VY⟩ := hcut
      have VC := next V5 VY
      have g0 := cellStay f0 VY
      have g1 := cellStay f1 VY
      have QA := Q5.stay VY
      obtain ⟨hE1, hE2, hF1, hF2, hbs⟩ := HW.out
      have hgl : ln (grQ E F).num.natAbs ≤ 67108864 ∧ ln (grQ E F).den ≤ 67108864 := by
        obtain ⟨u, v⟩ := mul_len (((2 ^ (F + 1) - 1 : Nat) : Int) : Rat) ((bsN E : Int) - F)
        rw [Rat.num_intCast, Int.natAbs_natCast] at u
        rw [Rat.den_intCast, ln_one] at v
        have hp : 2 ^ (F + 1) ≤ 9007199254740992 := Nat.le_trans (Nat.pow_le_pow_right (by decide) (by omega : F + 1 ≤ 53)) (by decide)
        have hl : ln (2 ^ (F + 1) - 1) ≤ 2 := ln_small2 (by omega)
        unfold grQ
        exact ⟨by omega, by omega⟩
      have hGr : ∀ W, Below w.heap.size w W → Calls Tryz.prog 334 #[.agg #[.int .i64 (E : Int), .int .i64 (F : Int)]] W (MkQ 23 (grQ E F) W) := fun W hW => nbGreatest_any E F W hE1 hE2 hF2 (HT.out.below hW)
      obtain ⟨c3, hc3⟩ : ∃ c3, c3 = cmpQ (sgQ E F a.num.natAbs a.den false m) (grQ E F) := ⟨_, rfl⟩
      have HOV : Hid (0 < c3 ↔ ovB E F a.num.natAbs a.den false m = true) := Lib.hid (by rw [hc3]; exact over_iff hE1 HN.out HD.out false m)
      have hC3 : ∀ (W : World) (B1 B2 t1 t2 : Nat), Rq 23 W B1 t1 (sgQ E F a.num.natAbs a.den false m) → Rq 23 W B2 t2 (grQ E F) → Calls Tryz.prog 297 #[.pointer (some ⟨t1, 0, none⟩), .pointer (some ⟨t2, 0, none⟩)] W fun en w' => en = .returned (.int .i64 c3) ∧ Below W.heap.size W w' := fun W B1 B2 t1 t2 q1 q2 => by
        rw [hc3]
        exact nbRCmp_any t1 t2 B1 B2 _ _ W q1 q2 (by have := HY.out; omega) (by have := HY.out; omega) hgl.1 hgl.2
      have hBy : ∀ W, Calls Tryz.prog 335 #[.agg #[.int .i64 (E : Int), .int .i64 (F : Int)], .bool false, .int .u8 (m : Int)] W fun en w' => en = .returned (.int .u64 (byN E F false m : Int)) ∧ Below W.heap.size W w' := fun W => nbBeyond_any E F m false W hE1 hE2 hF2 hm
      have hPack : ∀ (W : World) (B1 t1 : Nat), Rq 23 W B1 t1 (sgQ E F a.num.natAbs a.den false m) → Below w.heap.size w W → ovB E F a.num.natAbs a.den false m = false → Calls Tryz.prog 336 #[.agg #[.int .i64 (E : Int), .int .i64 (F : Int)], .pointer (some ⟨t1, 0, none⟩)] W fun en w' => en = .returned (.int .u64 (Go.Lb.sgB E F a.num.natAbs a.den false m : Int)) ∧ Below W.heap.size W w' := fun W B1 t1 q hW ho => nbPackS_any B1 t1 E F _ _ m false W q HN.out HD.out hE1 hE2 hF1 hF2 ho (HT.out.below hW)
      have HB1 : Hid (ovB E F a.num.natAbs a.den false m = true → sgBits E F a.num.natAbs a.den false neg m = byN E F false m) := Lib.hid (fun hh => by unfold sgBits flB; rw [if_neg HN.out, if_neg (by decide), if_pos hh]; rfl)
      have HB2 : Hid (ovB E F a.num.natAbs a.den false m = false → sgBits E F a.num.natAbs a.den false neg m = Go.Lb.sgB E F a.num.natAbs a.den false m) := Lib.hid (fun hh => by unfold sgBits flB; rw [if_neg HN.out, if_neg (by decide), if_neg (by rw [hh]; decide)])
      have HG1 : Hid (ovB E F a.num.natAbs a.den false m = true → sgFlags E F a.num.natAbs a.den false m = 3) := Lib.hid (fun hh => by unfold sgFlags flG; rw [if_neg HN.out, if_pos hh])
      obtain ⟨cc, hcc⟩ : ∃ cc, cc = cmpQ (sgQ E F a.num.natAbs a.den false m) a := ⟨_, rfl⟩
      have hC1 := nbRCmp_any t z w5.heap.size w.heap.size (sgQ E F a.num.natAbs a.den false m) a wc QY QA (by have := HY.out; omega) (by have := HY.out; omega) (by have := HL.out; omega) (by have := HL.out; omega)
      have HSX : Hid (cc = 0 ↔ sgX E F a.num.natAbs a.den = true) := Lib.hid (by rw [hcc]; exact sg_same E F m HA.out.1 false)
      have hinf : infN E F ≤ 9223372036854775808 := Nat.le_trans (Nat.sub_le _ _) (Nat.le_trans (Nat.pow_le_pow_right (by decide) (by omega : E + F ≤ 63)) (by decide))
      have hwy : IntKind.u64.wrap (byN E F false m : Int) = (byN E F false m : Int) := IntWalk.u64_in _ (by unfold byN; split <;> omega)
      have HWS : Hid (ovB E F a.num.natAbs a.den false m = false → IntKind.u64.wrap (Go.Lb.sgB E F a.num.natAbs a.den false m : Int) = (Go.Lb.sgB E F a.num.natAbs a.den false m : Int)) := Lib.hid (fun hh => IntWalk.u64_in _ (by unfold ovB at hh; have := of_decide_eq_false hh; omega))
      rw [← hcc] at hC1
      clear hcc hc3 hgl hE1 hE2 hF1 hF2 hbs
      go_wp2_with fail
      refine hC1.mono ?_
      rintro en w7 ⟨rfl, hb7⟩
      by_cases hcc : cc = 0
      · subst hcc
        have HG2 : Hid (ovB E F a.num.natAbs a.den false m = false → sgFlags E F a.num.natAbs a.den false m = 0) := Lib.hid (fun hh => by unfold sgFlags flG; rw [if_neg HN.out, if_neg (by rw [hh]; decide), if_pos (HSX.out.1 rfl)])
        have j0 := cellStay g0 hb7
        have j1 := cellStay g1 hb7
        have VE := next VC hb7
        have QYE := QY.stay hb7
        go_wp2_with fail
        refine (hGr _ VE).mono ?_
        rintro en wG ⟨tg, rfl, QG, hbG⟩
        have i0 := cellStay j0 hbG
        have i1 := cellStay j1 hbG
        have VG := next VE hbG
        go_wp2_with fail
        refine (hC3 _ _ _ _ _ (QYE.stay hbG) QG).mono ?_
        rintro en wH ⟨rfl, hbH⟩
        have r0 := cellStay i0 hbH
        have r1 := cellStay i1 hbH
        have VH := next VG hbH
        by_cases hov : 0 < c3
        · have hb1' := HOV.out.1 hov
          go_wp2_with fail
          refine (hBy _).mono ?_
          rintro en wI ⟨rfl, hbI⟩
          go_wp2
          go_ret2
          exact ⟨by rw [HB1.out hb1', HG1.out hb1']; rfl, next VH hbI⟩
        · have hb1' : ovB E F a.num.natAbs a.den false m = false := by
            cases hh : ovB E F a.num.natAbs a.den false m
            · rfl
            · exact absurd (HOV.out.2 hh) hov
          have hws := HWS.out hb1'
          have hPk := hPack _ _ _ ((QYE.stay hbG).stay hbH) VH hb1'
          go_wp2_with fail
          refine hPk.mono ?_
          rintro en wI ⟨rfl, hbI⟩
          go_wp2
          go_ret2
          exact ⟨by rw [HB2.out hb1', HG2.out hb1']; rfl, next VH hbI⟩
      · obtain ⟨hE1, hE2, hF1, hF2, hbs⟩ := HW.out
        have hSXn : ¬ sgX E F a.num.natAbs a.den = true := fun hh => hcc (HSX.out.2 hh)
        obtain ⟨k1, k2⟩ := sgK_bounds (F := F) HN.out HD.out false m
        have hkq : ln (((sgK F a.num.natAbs a.den false m : Int) : Rat) * p2 (lgE a.num.natAbs a.den - F)).num.natAbs ≤ 67108864 ∧ ln (((sgK F a.num.natAbs a.den false m : Int) : Rat) * p2 (lgE a.num.natAbs a.den - F)).den ≤ 67108864 := by
          obtain ⟨u, v⟩ := mul_len ((sgK F a.num.natAbs a.den false m : Int) : Rat) (lgE a.num.natAbs a.den - F)
          rw [Rat.num_intCast, Int.natAbs_natCast] at u
          rw [Rat.den_intCast, ln_one] at v
          have hp : 2 ^ (F + 1) ≤ 9007199254740992 := Nat.le_trans (Nat.pow_le_pow_right (by decide) (by omega : F + 1 ≤ 53)) (by decide)
          have hl : ln (sgK F a.num.natAbs a.den false m) ≤ 2 := ln_small2 (by omega)
          have := HE.out
          exact ⟨by omega, by omega⟩
        have hU2 : ∀ W, Below wc.heap.size wc W → Calls Tryz.prog 332 #[.pointer (some ⟨z, 0, none⟩), .int .i64 (lgE a.num.natAbs a.den - F), .bool false, .int .u8 (m : Int)] W (MkQ 23 (((sgK F a.num.natAbs a.den false m : Int) : Rat) * p2 (lgE a.num.natAbs a.den - F)) W) := fun W hW => by
          rw [← un_k]
          have := HE.out
          exact nbUnit_any w.heap.size z m _ a false W (QA.stay hW) HA.out.1 hm (by omega) (by omega) (by have := HL.out; omega) (by have := HL.out; omega) (HT.out.below (next VC hW))
        have hLs : ∀ W, Calls Tryz.prog 333 #[.agg #[.int .i64 (E : Int), .int .i64 (F : Int)]] W (MkQ 23 (p2 (1 - (bsN E : Int))) W) := fun W => nbLeast_any E F W hE1 hE2
        obtain ⟨c2, hc2⟩ : ∃ c2, c2 = cmpQ (((sgK F a.num.natAbs a.den false m : Int) : Rat) * p2 (lgE a.num.natAbs a.den - F)) (p2 (1 - (bsN E : Int))) := ⟨_, rfl⟩
        have HTI : Hid (c2 < 0 ↔ tiny E F a.num.natAbs a.den false m = true) := Lib.hid (by rw [hc2]; exact tiny_iff HN.out HD.out false m)
        have hC2 : ∀ (W : World) (B1 B2 t1 t2 : Nat), Rq 23 W B1 t1 (((sgK F a.num.natAbs a.den false m : Int) : Rat) * p2 (lgE a.num.natAbs a.den - F)) → Rq 23 W B2 t2 (p2 (1 - (bsN E : Int))) → Calls Tryz.prog 297 #[.pointer (some ⟨t1, 0, none⟩), .pointer (some ⟨t2, 0, none⟩)] W fun en w' => en = .returned (.int .i64 c2) ∧ Below W.heap.size W w' := fun W B1 B2 t1 t2 q1 q2 => by
          obtain ⟨p1, p3⟩ := p2_parts (1 - (bsN E : Int))
          rw [hc2]
          exact nbRCmp_any t1 t2 B1 B2 _ _ W q1 q2 hkq.1 hkq.2 (by rw [p1, Int.natAbs_natCast]; have := ln_p2 (1 - (bsN E : Int)).toNat; omega) (by rw [p3]; have := ln_p2 (-(1 - (bsN E : Int))).toNat; omega)
        have HG2 : Hid (ovB E F a.num.natAbs a.den false m = false → sgFlags E F a.num.natAbs a.den false m = if tiny E F a.num.natAbs a.den false m = true then 5 else 1) := Lib.hid (fun hh => by unfold sgFlags flG; rw [if_neg HN.out, if_neg (by rw [hh]; decide), if_neg hSXn])
        have n0 := cellStay g0 hb7
        have n1 := cellStay g1 hb7
        have kS7 : ∀ w' : World, Below w7.heap.size w7 w' → (w'.cell? ⟨w.heap.size, 0, none⟩ = some (.int .i64 (E : Int)) ∧ w'.cell? ⟨w.heap.size, 1, none⟩ = some (.int .i64 (F : Int)) ∧ Below w7.heap.size w7 w') := fun w' hb => ⟨cellStay n0 hb, cellStay n1 hb, hb⟩
        clear hkq k1 k2 hSXn hE1 hE2 hF1 hF2 hbs hc2
        obtain ⟨wc7, hwc7⟩ : ∃ wc7, wc7 = wc := ⟨_, rfl⟩
        subst hwc7
        go_upto_region 13 with fail
        go_cut [68] from 56 to 67 (fun v wx => v = .bool (decide (c2 < 0)) ∧ Below w7.heap.size w7 wx)
        case first =>
          go_region_held3 (fun w' => w'.cell? ⟨w.heap.size, 0, none⟩ = some (.int .i64 (E : Int)) ∧ w'.cell? ⟨w.heap.size, 1, none⟩ = some (.int .i64 (F : Int)) ∧ Below w7.heap.size w7 w')
            ((refine kS7 _ ?_; (repeat (with_reducible (first | exact VCc | exact VB | exact VA | exact Below.refl _ _ | refine Below.drew ?_))); done))
            (first
              | (go_at_call 332; (with_reducible refine (hU2 _ hb7.drew).mono ?_); rintro en wA ⟨t3, rfl, QK, hbA⟩; have VA : Below w7.heap.size w7 wA := (by first | exact hbA | exact undrew hbA))
              | (go_at_call 333; (with_reducible refine (hLs _).mono ?_); rintro en wB ⟨t4, rfl, QB, hbB⟩; have VB := next VA hbB)
              | (go_at_call 297; (with_reducible refine (hC2 _ _ _ _ _ (QK.stay hbB) QB).mono ?_); rintro en wC ⟨rfl, hbC⟩; have VCc := next VB hbC))
          all_goals go_wp2
          all_goals go_meet
          all_goals exact ⟨rfl, VCc⟩
        case rest =>
          obtain ⟨rfl, hbx⟩ := hcut
          have hb8 := next hb7 hbx
          by_cases hti : c2 < 0
          · have hti' := HTI.out.1 hti
            have j0 := cellStay g0 hb8
            have j1 := cellStay g1 hb8
            have VE := next VC hb8
            have QYE := QY.stay hb8
            go_wp2_with fail
            refine (hGr _ VE).mono ?_
            rintro en wG ⟨tg, rfl, QG, hbG⟩
            have i0 := cellStay j0 hbG
            have i1 := cellStay j1 hbG
            have VG := next VE hbG
            go_wp2_with fail
            refine (hC3 _ _ _ _ _ (QYE.stay hbG) QG).mono ?_
            rintro en wH ⟨rfl, hbH⟩
            have r0 := cellStay i0 hbH
            have r1 := cellStay i1 hbH
            have VH := next VG hbH
            by_cases hov : 0 < c3
            · have hb1' := HOV.out.1 hov
              go_wp2_with fail
              refine (hBy _).mono ?_
              rintro en wI ⟨rfl, hbI⟩
              go_wp2
              go_ret2
              exact ⟨by rw [HB1.out hb1', HG1.out hb1']; rfl, next VH hbI⟩
            · have hb1' : ovB E F a.num.natAbs a.den false m = false := by
                cases hh : ovB E F a.num.natAbs a.den false m
                · rfl
                · exact absurd (HOV.out.2 hh) hov
              have hws := HWS.out hb1'
              have hPk := hPack _ _ _ ((QYE.stay hbG).stay hbH) VH hb1'
              go_wp2_with fail
              refine hPk.mono ?_
              rintro en wI ⟨rfl, hbI⟩
              go_wp2
              go_ret2
              exact ⟨by rw [HB2.out hb1', HG2.out hb1', if_pos hti']; rfl, next VH hbI⟩
          · have hti' : ¬ tiny E F a.num.natAbs a.den false m = true := fun hh => hti (HTI.out.2 hh)
            have j0 := cellStay g0 hb8
            have j1 := cellStay g1 hb8
            have VE := next VC hb8
            have QYE := QY.stay hb8
            go_wp2_with fail
            refine (hGr _ VE).mono ?_
            rintro en wG ⟨tg, rfl, QG, hbG⟩
            have i0 := cellStay j0 hbG
            have i1 := cellStay j1 hbG
            have VG := next VE hbG
            go_wp2_with fail
            refine (hC3 _ _ _ _ _ (QYE.stay hbG) QG).mono ?_
            rintro en wH ⟨rfl, hbH⟩
            have r0 := cellStay i0 hbH
            have r1 := cellStay i1 hbH
            have VH := next VG hbH
            by_cases hov : 0 < c3
            · have hb1' := HOV.out.1 hov
              go_wp2_with fail
              refine (hBy _).mono ?_
              rintro en wI ⟨rfl, hbI⟩
              go_wp2
              go_ret2
              exact ⟨by rw [HB1.out hb1', HG1.out hb1']; rfl, next VH hbI⟩
            · have hb1' : ovB E F a.num.natAbs a.den false m = false := by
                cases hh : ovB E F a.num.natAbs a.den false m
                · rfl
                · exact absurd (HOV.out.2 hh) hov
              have hws := HWS.out hb1'
              have hPk := hPack _ _ _ ((QYE.stay hbG).stay hbH) VH hb1'
              go_wp2_with fail
              refine hPk.mono ?_
              rintro en wI ⟨rfl, hbI⟩
              go_wp2
              go_ret2
              exact ⟨by rw [HB2.out hb1', HG2.out hb1', if_neg hti']; rfl, next VH hbI⟩
  · have hSg' : ∀ W, Below w.heap.size w W → Calls Tryz.prog 300 #[.pointer (some ⟨b, 0, none⟩)] W fun e w' => e = .returned (.int .i64 (-1)) ∧ W = w' := fun W hW => by
      have := hSg W hW
      rwa [if_pos rfl] at this
    clear hSg
    go_enter Tryz.func228, Tryz.ntmps228
    go_wp2_with fail
    rw [← hW1]
    clear hW1
    refine (hSg' _ hb1).mono ?_
    rintro en w2 ⟨rfl, rfl⟩
    go_wp2_with fail
    refine (hS5 _).mono ?_
    rintro en w3 ⟨rfl, hb3⟩
    have V3 := next hb1 hb3
    have c0' := cellStay c0 hb3
    have c1' := cellStay c1 hb3
    clear c0 c1
    go_wp2_with (go_at_call 300; refine (hSg' _ V3).mono ?_; rintro en w2 ⟨rfl, rfl⟩)
    refine (hAb _ _ (res_new _ _ _ _ _) V3.size (more V3 _)).mono ?_
    rintro en w4 ⟨rfl, QA, hg4⟩
    have B4 : Below w3.heap.size w3 w4 := (more (Below.refl _ _) _).grown hg4 (by simp) (fun _ hj => Nat.le_of_eq (Option.some.inj hj))
    have V4 := next V3 B4
    go_wp2_with fail
    refine (hLg _ _ QA).mono ?_
    rintro en w5 ⟨rfl, hb5⟩
    have V5 := next V4 hb5
    have B5 := next B4 hb5
    have Q5 := QA.stay hb5
    have f0 := cellStay c0' B5
    have f1 := cellStay c1' B5
    generalize w3.heap.size = z at *
    clear c0' c1' B4 B5 hg4 QA hb5 V4 hSg' hAb hLg
    have kS : ∀ w' : World, Below w5.heap.size w5 w' → (w'.cell? ⟨w.heap.size, 0, none⟩ = some (.int .i64 (E : Int)) ∧ w'.cell? ⟨w.heap.size, 1, none⟩ = some (.int .i64 (F : Int)) ∧ Below w5.heap.size w5 w') := fun w' hb => ⟨cellStay f0 hb, cellStay f1 hb, hb⟩
    go_upto_region 9 with fail
    go_cut [14] from 41 to 52 (fun v wx => ∃ t, v = .pointer (some ⟨t, 0, none⟩) ∧ Rq 23 wx w5.heap.size t (sgQ E F a.num.natAbs a.den true m) ∧ Below w5.heap.size w5 wx)
    case first =>
      go_region_held3 (fun w' => w'.cell? ⟨w.heap.size, 0, none⟩ = some (.int .i64 (E : Int)) ∧ w'.cell? ⟨w.heap.size, 1, none⟩ = some (.int .i64 (F : Int)) ∧ Below w5.heap.size w5 w')
        ((refine kS _ ?_; (repeat (with_reducible (first | exact VB | exact VA | exact Below.refl _ _ | refine Below.drew ?_))); done))
        (first
          | (go_at_call 303; (with_reducible refine (hBi _).mono ?_); rintro en wA ⟨rfl, hbA⟩; have VA : Below w5.heap.size w5 wA := (by first | exact hbA | exact undrew hbA))
          | (go_at_call 332; (with_reducible refine (hU1 _ _ (Q5.stay VA) (next V5 VA)).mono ?_); rintro en wB ⟨t, rfl, QB, hbB⟩; have VB := next VA hbB))
      all_goals go_wp2
      all_goals go_meet
      all_goals exact ⟨_, rfl, QB.mono VA.size, VB⟩
    case rest =>
      obtain ⟨t, rfl, QY, VY⟩ := hcut
      have VC := next V5 VY
      have g0 := cellStay f0 VY
      have g1 := cellStay f1 VY
      have QA := Q5.stay VY
      obtain ⟨hE1, hE2, hF1, hF2, hbs⟩ := HW.out
      have hgl : ln (grQ E F).num.natAbs ≤ 67108864 ∧ ln (grQ E F).den ≤ 67108864 := by
        obtain ⟨u, v⟩ := mul_len (((2 ^ (F + 1) - 1 : Nat) : Int) : Rat) ((bsN E : Int) - F)
        rw [Rat.num_intCast, Int.natAbs_natCast] at u
        rw [Rat.den_intCast, ln_one] at v
        have hp : 2 ^ (F + 1) ≤ 9007199254740992 := Nat.le_trans (Nat.pow_le_pow_right (by decide) (by omega : F + 1 ≤ 53)) (by decide)
        have hl : ln (2 ^ (F + 1) - 1) ≤ 2 := ln_small2 (by omega)
        unfold grQ
        exact ⟨by omega, by omega⟩
      have hGr : ∀ W, Below w.heap.size w W → Calls Tryz.prog 334 #[.agg #[.int .i64 (E : Int), .int .i64 (F : Int)]] W (MkQ 23 (grQ E F) W) := fun W hW => nbGreatest_any E F W hE1 hE2 hF2 (HT.out.below hW)
      obtain ⟨c3, hc3⟩ : ∃ c3, c3 = cmpQ (sgQ E F a.num.natAbs a.den true m) (grQ E F) := ⟨_, rfl⟩
      have HOV : Hid (0 < c3 ↔ ovB E F a.num.natAbs a.den true m = true) := Lib.hid (by rw [hc3]; exact over_iff hE1 HN.out HD.out true m)
      have hC3 : ∀ (W : World) (B1 B2 t1 t2 : Nat), Rq 23 W B1 t1 (sgQ E F a.num.natAbs a.den true m) → Rq 23 W B2 t2 (grQ E F) → Calls Tryz.prog 297 #[.pointer (some ⟨t1, 0, none⟩), .pointer (some ⟨t2, 0, none⟩)] W fun en w' => en = .returned (.int .i64 c3) ∧ Below W.heap.size W w' := fun W B1 B2 t1 t2 q1 q2 => by
        rw [hc3]
        exact nbRCmp_any t1 t2 B1 B2 _ _ W q1 q2 (by have := HY.out; omega) (by have := HY.out; omega) hgl.1 hgl.2
      have hBy : ∀ W, Calls Tryz.prog 335 #[.agg #[.int .i64 (E : Int), .int .i64 (F : Int)], .bool true, .int .u8 (m : Int)] W fun en w' => en = .returned (.int .u64 (byN E F true m : Int)) ∧ Below W.heap.size W w' := fun W => nbBeyond_any E F m true W hE1 hE2 hF2 hm
      have hPack : ∀ (W : World) (B1 t1 : Nat), Rq 23 W B1 t1 (sgQ E F a.num.natAbs a.den true m) → Below w.heap.size w W → ovB E F a.num.natAbs a.den true m = false → Calls Tryz.prog 336 #[.agg #[.int .i64 (E : Int), .int .i64 (F : Int)], .pointer (some ⟨t1, 0, none⟩)] W fun en w' => en = .returned (.int .u64 (Go.Lb.sgB E F a.num.natAbs a.den true m : Int)) ∧ Below W.heap.size W w' := fun W B1 t1 q hW ho => nbPackS_any B1 t1 E F _ _ m true W q HN.out HD.out hE1 hE2 hF1 hF2 ho (HT.out.below hW)
      have HB1 : Hid (ovB E F a.num.natAbs a.den true m = true → ((sgBits E F a.num.natAbs a.den true neg m : Nat) : Int) = (S : Int) + (byN E F true m : Int)) := Lib.hid (fun hh => by unfold sgBits flB; rw [if_neg HN.out, if_pos rfl, if_pos hh, ← HS.out, Nat.add_comm, Int.natCast_add]; rfl)
      have HB2 : Hid (ovB E F a.num.natAbs a.den true m = false → ((sgBits E F a.num.natAbs a.den true neg m : Nat) : Int) = (S : Int) + (Go.Lb.sgB E F a.num.natAbs a.den true m : Int)) := Lib.hid (fun hh => by unfold sgBits flB; rw [if_neg HN.out, if_pos rfl, if_neg (by rw [hh]; decide), ← HS.out, Nat.add_comm, Int.natCast_add])
      have HG1 : Hid (ovB E F a.num.natAbs a.den true m = true → sgFlags E F a.num.natAbs a.den true m = 3) := Lib.hid (fun hh => by unfold sgFlags flG; rw [if_neg HN.out, if_pos hh])
      obtain ⟨cc, hcc⟩ : ∃ cc, cc = cmpQ (sgQ E F a.num.natAbs a.den true m) a := ⟨_, rfl⟩
      have hC1 := nbRCmp_any t z w5.heap.size w.heap.size (sgQ E F a.num.natAbs a.den true m) a wc QY QA (by have := HY.out; omega) (by have := HY.out; omega) (by have := HL.out; omega) (by have := HL.out; omega)
      have HSX : Hid (cc = 0 ↔ sgX E F a.num.natAbs a.den = true) := Lib.hid (by rw [hcc]; exact sg_same E F m HA.out.1 true)
      have hinf : infN E F ≤ 9223372036854775808 := Nat.le_trans (Nat.sub_le _ _) (Nat.le_trans (Nat.pow_le_pow_right (by decide) (by omega : E + F ≤ 63)) (by decide))
      have hinS : infN E F < S ∧ S ≤ 9223372036854775808 := by
        have u := Nat.two_pow_pos F
        have v : 2 ^ F ≤ 2 ^ (E + F) := Nat.pow_le_pow_right (by decide) (by omega)
        rw [HS.out]
        exact ⟨by unfold infN; omega, Nat.le_trans (Nat.pow_le_pow_right (by decide) (by omega : E + F ≤ 63)) (by decide)⟩
      have hwy : IntKind.u64.wrap ((S : Int) + (byN E F true m : Int)) = (S : Int) + (byN E F true m : Int) := IntWalk.u64_in _ (by unfold byN; split <;> omega)
      have HWS : Hid (ovB E F a.num.natAbs a.den true m = false → IntKind.u64.wrap ((S : Int) + (Go.Lb.sgB E F a.num.natAbs a.den true m : Int)) = (S : Int) + (Go.Lb.sgB E F a.num.natAbs a.den true m : Int)) := Lib.hid (fun hh => IntWalk.u64_in _ (by unfold ovB at hh; have := of_decide_eq_false hh; omega))
      rw [← hcc] at hC1
      clear hcc hc3 hgl hE1 hE2 hF1 hF2 hbs
      go_wp2_with fail
      refine hC1.mono ?_
      rintro en w7 ⟨rfl, hb7⟩
      by_cases hcc : cc = 0
      · subst hcc
        have HG2 : Hid (ovB E F a.num.natAbs a.den true m = false → sgFlags E F a.num.natAbs a.den true m = 0) := Lib.hid (fun hh => by unfold sgFlags flG; rw [if_neg HN.out, if_neg (by rw [hh]; decide), if_pos (HSX.out.1 rfl)])
        have j0 := cellStay g0 hb7
        have j1 := cellStay g1 hb7
        have VE := next VC hb7
        have QYE := QY.stay hb7
        go_wp2_with fail
        refine (hGr _ VE).mono ?_
        rintro en wG ⟨tg, rfl, QG, hbG⟩
        have i0 := cellStay j0 hbG
        have i1 := cellStay j1 hbG
        have VG := next VE hbG
        go_wp2_with fail
        refine (hC3 _ _ _ _ _ (QYE.stay hbG) QG).mono ?_
        rintro en wH ⟨rfl, hbH⟩
        have r0 := cellStay i0 hbH
        have r1 := cellStay i1 hbH
        have VH := next VG hbH
        by_cases hov : 0 < c3
        · have hb1' := HOV.out.1 hov
          go_wp2_with fail
          refine (hBy _).mono ?_
          rintro en wI ⟨rfl, hbI⟩
          go_wp2
          go_ret2
          exact ⟨by rw [HB1.out hb1', HG1.out hb1']; rfl, next VH hbI⟩
        · have hb1' : ovB E F a.num.natAbs a.den true m = false := by
            cases hh : ovB E F a.num.natAbs a.den true m
            · rfl
            · exact absurd (HOV.out.2 hh) hov
          have hws := HWS.out hb1'
          have hPk := hPack _ _ _ ((QYE.stay hbG).stay hbH) VH hb1'
          go_wp2_with fail
          refine hPk.mono ?_
          rintro en wI ⟨rfl, hbI⟩
          go_wp2
          go_ret2
          exact ⟨by rw [HB2.out hb1', HG2.out hb1']; rfl, next VH hbI⟩
      · obtain ⟨hE1, hE2, hF1, hF2, hbs⟩ := HW.out
        have hSXn : ¬ sgX E F a.num.natAbs a.den = true := fun hh => hcc (HSX.out.2 hh)
        obtain ⟨k1, k2⟩ := sgK_bounds (F := F) HN.out HD.out true m
        have hkq : ln (((sgK F a.num.natAbs a.den true m : Int) : Rat) * p2 (lgE a.num.natAbs a.den - F)).num.natAbs ≤ 67108864 ∧ ln (((sgK F a.num.natAbs a.den true m : Int) : Rat) * p2 (lgE a.num.natAbs a.den - F)).den ≤ 67108864 := by
          obtain ⟨u, v⟩ := mul_len ((sgK F a.num.natAbs a.den true m : Int) : Rat) (lgE a.num.natAbs a.den - F)
          rw [Rat.num_intCast, Int.natAbs_natCast] at u
          rw [Rat.den_intCast, ln_one] at v
          have hp : 2 ^ (F + 1) ≤ 9007199254740992 := Nat.le_trans (Nat.pow_le_pow_right (by decide) (by omega : F + 1 ≤ 53)) (by decide)
          have hl : ln (sgK F a.num.natAbs a.den true m) ≤ 2 := ln_small2 (by omega)
          have := HE.out
          exact ⟨by omega, by omega⟩
        have hU2 : ∀ W, Below wc.heap.size wc W → Calls Tryz.prog 332 #[.pointer (some ⟨z, 0, none⟩), .int .i64 (lgE a.num.natAbs a.den - F), .bool true, .int .u8 (m : Int)] W (MkQ 23 (((sgK F a.num.natAbs a.den true m : Int) : Rat) * p2 (lgE a.num.natAbs a.den - F)) W) := fun W hW => by
          rw [← un_k]
          have := HE.out
          exact nbUnit_any w.heap.size z m _ a true W (QA.stay hW) HA.out.1 hm (by omega) (by omega) (by have := HL.out; omega) (by have := HL.out; omega) (HT.out.below (next VC hW))
        have hLs : ∀ W, Calls Tryz.prog 333 #[.agg #[.int .i64 (E : Int), .int .i64 (F : Int)]] W (MkQ 23 (p2 (1 - (bsN E : Int))) W) := fun W => nbLeast_any E F W hE1 hE2
        obtain ⟨c2, hc2⟩ : ∃ c2, c2 = cmpQ (((sgK F a.num.natAbs a.den true m : Int) : Rat) * p2 (lgE a.num.natAbs a.den - F)) (p2 (1 - (bsN E : Int))) := ⟨_, rfl⟩
        have HTI : Hid (c2 < 0 ↔ tiny E F a.num.natAbs a.den true m = true) := Lib.hid (by rw [hc2]; exact tiny_iff HN.out HD.out true m)
        have hC2 : ∀ (W : World) (B1 B2 t1 t2 : Nat), Rq 23 W B1 t1 (((sgK F a.num.natAbs a.den true m : Int) : Rat) * p2 (lgE a.num.natAbs a.den - F)) → Rq 23 W B2 t2 (p2 (1 - (bsN E : Int))) → Calls Tryz.prog 297 #[.pointer (some ⟨t1, 0, none⟩), .pointer (some ⟨t2, 0, none⟩)] W fun en w' => en = .returned (.int .i64 c2) ∧ Below W.heap.size W w' := fun W B1 B2 t1 t2 q1 q2 => by
          obtain ⟨p1, p3⟩ := p2_parts (1 - (bsN E : Int))
          rw [hc2]
          exact nbRCmp_any t1 t2 B1 B2 _ _ W q1 q2 hkq.1 hkq.2 (by rw [p1, Int.natAbs_natCast]; have := ln_p2 (1 - (bsN E : Int)).toNat; omega) (by rw [p3]; have := ln_p2 (-(1 - (bsN E : Int))).toNat; omega)
        have HG2 : Hid (ovB E F a.num.natAbs a.den true m = false → sgFlags E F a.num.natAbs a.den true m = if tiny E F a.num.natAbs a.den true m = true then 5 else 1) := Lib.hid (fun hh => by unfold sgFlags flG; rw [if_neg HN.out, if_neg (by rw [hh]; decide), if_neg hSXn])
        have n0 := cellStay g0 hb7
        have n1 := cellStay g1 hb7
        have kS7 : ∀ w' : World, Below w7.heap.size w7 w' → (w'.cell? ⟨w.heap.size, 0, none⟩ = some (.int .i64 (E : Int)) ∧ w'.cell? ⟨w.heap.size, 1, none⟩ = some (.int .i64 (F : Int)) ∧ Below w7.heap.size w7 w') := fun w' hb => ⟨cellStay n0 hb, cellStay n1 hb, hb⟩
        clear hkq k1 k2 hSXn hE1 hE2 hF1 hF2 hbs hc2
        obtain ⟨wc7, hwc7⟩ : ∃ wc7, wc7 = wc := ⟨_, rfl⟩
        subst hwc7
        go_upto_region 13 with fail
        go_cut [68] from 56 to 67 (fun v wx => v = .bool (decide (c2 < 0)) ∧ Below w7.heap.size w7 wx)
        case first =>
          go_region_held3 (fun w' => w'.cell? ⟨w.heap.size, 0, none⟩ = some (.int .i64 (E : Int)) ∧ w'.cell? ⟨w.heap.size, 1, none⟩ = some (.int .i64 (F : Int)) ∧ Below w7.heap.size w7 w')
            ((refine kS7 _ ?_; (repeat (with_reducible (first | exact VCc | exact VB | exact VA | exact Below.refl _ _ | refine Below.drew ?_))); done))
            (first
              | (go_at_call 332; (with_reducible refine (hU2 _ hb7.drew).mono ?_); rintro en wA ⟨t3, rfl, QK, hbA⟩; have VA : Below w7.heap.size w7 wA := (by first | exact hbA | exact undrew hbA))
              | (go_at_call 333; (with_reducible refine (hLs _).mono ?_); rintro en wB ⟨t4, rfl, QB, hbB⟩; have VB := next VA hbB)
              | (go_at_call 297; (with_reducible refine (hC2 _ _ _ _ _ (QK.stay hbB) QB).mono ?_); rintro en wC ⟨rfl, hbC⟩; have VCc := next VB hbC))
          all_goals go_wp2
          all_goals go_meet
          all_goals exact ⟨rfl, VCc⟩
        case rest =>
          obtain ⟨rfl, hbx⟩ := hcut
          have hb8 := next hb7 hbx
          by_cases hti : c2 < 0
          · have hti' := HTI.out.1 hti
            have j0 := cellStay g0 hb8
            have j1 := cellStay g1 hb8
            have VE := next VC hb8
            have QYE := QY.stay hb8
            go_wp2_with fail
            refine (hGr _ VE).mono ?_
            rintro en wG ⟨tg, rfl, QG, hbG⟩
            have i0 := cellStay j0 hbG
            have i1 := cellStay j1 hbG
            have VG := next VE hbG
            go_wp2_with fail
            refine (hC3 _ _ _ _ _ (QYE.stay hbG) QG).mono ?_
            rintro en wH ⟨rfl, hbH⟩
            have r0 := cellStay i0 hbH
            have r1 := cellStay i1 hbH
            have VH := next VG hbH
            by_cases hov : 0 < c3
            · have hb1' := HOV.out.1 hov
              go_wp2_with fail
              refine (hBy _).mono ?_
              rintro en wI ⟨rfl, hbI⟩
              go_wp2
              go_ret2
              exact ⟨by rw [HB1.out hb1', HG1.out hb1']; rfl, next VH hbI⟩
            · have hb1' : ovB E F a.num.natAbs a.den true m = false := by
                cases hh : ovB E F a.num.natAbs a.den true m
                · rfl
                · exact absurd (HOV.out.2 hh) hov
              have hws := HWS.out hb1'
              have hPk := hPack _ _ _ ((QYE.stay hbG).stay hbH) VH hb1'
              go_wp2_with fail
              refine hPk.mono ?_
              rintro en wI ⟨rfl, hbI⟩
              go_wp2
              go_ret2
              exact ⟨by rw [HB2.out hb1', HG2.out hb1', if_pos hti']; rfl, next VH hbI⟩
          · have hti' : ¬ tiny E F a.num.natAbs a.den true m = true := fun hh => hti (HTI.out.2 hh)
            have j0 := cellStay g0 hb8
            have j1 := cellStay g1 hb8
            have VE := next VC hb8
            have QYE := QY.stay hb8
            go_wp2_with fail
            refine (hGr _ VE).mono ?_
            rintro en wG ⟨tg, rfl, QG, hbG⟩
            have i0 := cellStay j0 hbG
            have i1 := cellStay j1 hbG
            have VG := next VE hbG
            go_wp2_with fail
            refine (hC3 _ _ _ _ _ (QYE.stay hbG) QG).mono ?_
            rintro en wH ⟨rfl, hbH⟩
            have r0 := cellStay i0 hbH
            have r1 := cellStay i1 hbH
            have VH := next VG hbH
            by_cases hov : 0 < c3
            · have hb1' := HOV.out.1 hov
              go_wp2_with fail
              refine (hBy _).mono ?_
              rintro en wI ⟨rfl, hbI⟩
              go_wp2
              go_ret2
              exact ⟨by rw [HB1.out hb1', HG1.out hb1']; rfl, next VH hbI⟩
            · have hb1' : ovB E F a.num.natAbs a.den true m = false := by
                cases hh : ovB E F a.num.natAbs a.den true m
                · rfl
                · exact absurd (HOV.out.2 hh) hov
              have hws := HWS.out hb1'
              have hPk := hPack _ _ _ ((QYE.stay hbG).stay hbH) VH hb1'
              go_wp2_with fail
              refine hPk.mono ?_
              rintro en wI ⟨rfl, hbI⟩
              go_wp2
              go_ret2
              exact ⟨by rw [HB2.out hb1', HG2.out hb1', if_neg hti']; rfl, next VH hbI⟩

/-- The whole of it. -/
theorem nbRat_any (B b E F m : Nat) (x : Rat) (neg : Bool) (w : World) (h : Rq 23 w B b x) (h1 : 2 ≤ E) (h2 : E ≤ 11) (h3 : 1 ≤ F) (h4 : F ≤ 52) (hm : m < 5) (l1 : ln x.num.natAbs ≤ 16384) (l2 : ln x.den ≤ 16384) (hT : Tab w) :
    Calls Tryz.prog 228 #[.agg #[.int .i64 (E : Int), .int .i64 (F : Int)], .pointer (some ⟨b, 0, none⟩), .bool neg, .int .u8 (m : Int)] w fun en w' => en = .returned (.tuple #[.int .u64 (sgBits E F x.num.natAbs x.den (decide (x.num < 0)) neg m : Int), .int .u8 (sgFlags E F x.num.natAbs x.den (decide (x.num < 0)) m : Int)]) ∧ Below w.heap.size w w' := by
  by_cases h0 : x.num = 0
  · have := nbRat_zero B b E F m x neg w h h0 h2 h4
    have e1 : decide (x.num < 0) = false := decide_eq_false (by omega)
    have e2 : x.num.natAbs = 0 := by omega
    have e3 : (sgFlags E F 0 x.den false m : Int) = 0 := rfl
    rw [e1, e2, e3]
    exact this
  · exact nbRat_other B b E F m x neg w h h0 h1 h2 h3 h4 hm l1 l2 hT

end Go.Proofs.YtaddnoneoflimaaGreatDoor

