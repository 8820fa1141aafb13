/-
  Plain: a fraction of any sign, rounded to a whole number from its floor. Contract of numeralref08.Whole.
-/
import Derived.Test.YtoiifhmepniniaaGreatDoorQbCMC27
set_option maxHeartbeats 8000000
set_option maxRecDepth 100000
namespace Go.Proofs.YtoiifhmepniniaaGreatDoor
open Go.RowKit Go.Lb
section
attribute [local go_sem] Go.World.cell?_alloc_some
def rzQ (x : Rat) (m : Nat) : Int := sgZ (decide (x.num < 0)) (rdN x.num.natAbs x.den (decide (x.num < 0)) m)
def upB (m : Nat) (c : Int) (odd : Bool) (g : Int) : Bool :=
 if m = 0 then decide (0 < c ∨ c = 0 ∧ odd = true) else if m = 1 then decide (0 < c ∨ c = 0 ∧ 0 < g) else if m = 2 then decide (g < 0) else decide (m = 3)
theorem floor_parts (n : Int) {D : Nat} (hD : D ≠ 0) :
 n / (D : Int) = (if n < 0 then (if n.natAbs % D = 0 then -((n.natAbs / D : Nat) : Int) else -((n.natAbs / D : Nat) : Int) - 1) else ((n.natAbs / D : Nat) : Int)) ∧
 (n % (D : Int)).toNat = (if n < 0 then (if n.natAbs % D = 0 then 0 else D - n.natAbs % D) else n.natAbs % D) := by
 have hp : (0 : Int) < D := by omega
 have e := Nat.div_add_mod n.natAbs D
 have hl := Nat.mod_lt n.natAbs (Nat.pos_of_ne_zero hD)
 by_cases hn : n < 0
 · rw [if_pos hn, if_pos hn]
   by_cases h0 : n.natAbs % D = 0
   · rw [if_pos h0, if_pos h0]
     obtain ⟨a, b⟩ := (Int.ediv_emod_unique (a := n) (q := -((n.natAbs / D : Nat) : Int)) (r := 0) hp).2 ⟨by have h5 : ((D * (n.natAbs / D) : Nat) : Int) = -n := (by omega); rw [Int.natCast_mul] at h5; rw [Int.mul_neg]; omega, by omega, hp⟩
     rw [a, b]
     exact ⟨rfl, rfl⟩
   · rw [if_neg h0, if_neg h0]
     obtain ⟨a, b⟩ := (Int.ediv_emod_unique (a := n) (q := -((n.natAbs / D : Nat) : Int) - 1) (r := ((D - n.natAbs % D : Nat) : Int)) hp).2 ⟨by
      rw [Int.mul_sub, Int.mul_neg, Int.mul_one]
      have : ((D * (n.natAbs / D) + n.natAbs % D : Nat) : Int) = -n := by omega
      rw [Int.natCast_add, Int.natCast_mul] at this
      omega, by omega, by omega⟩
     rw [a, b]
     exact ⟨rfl, Int.toNat_natCast _⟩
 · rw [if_neg hn, if_neg hn]
   obtain ⟨a, b⟩ := (Int.ediv_emod_unique (a := n) (q := ((n.natAbs / D : Nat) : Int)) (r := ((n.natAbs % D : Nat) : Int)) hp).2 ⟨by
    have : ((D * (n.natAbs / D) + n.natAbs % D : Nat) : Int) = n := by omega
    rw [Int.natCast_add, Int.natCast_mul] at this
    omega, by omega, by omega⟩
   rw [a, b]
   exact ⟨rfl, Int.toNat_natCast _⟩
theorem cmp_flip {t D : Nat} (h : t < D) : cmpN (2 * (D - t)) D = -cmpN (2 * t) D := by
 unfold cmpN
 (repeat' split) <;> omega
theorem whole_floor (x : Rat) {m : Nat} (hm : m < 5) :
 rzQ x m = if upB m (cmpN (2 * (x.num % (x.den : Int)).toNat) x.den) (decide ((x.num / (x.den : Int)).natAbs % 2 = 1)) x.num.sign = true ∧ (x.num % (x.den : Int)).toNat ≠ 0 then x.num / (x.den : Int) + 1 else x.num / (x.den : Int) := by
 obtain ⟨f1, f2⟩ := floor_parts x.num x.den_nz
 have hl := Nat.mod_lt x.num.natAbs x.den_pos
 unfold rzQ rdN
 rw [f1, f2]
 generalize x.num = n at *
 generalize x.den = D at *
 by_cases hn : n < 0
 · have hs : n.sign = -1 := Int.sign_eq_neg_one_of_neg hn
   rw [decide_eq_true hn, if_pos hn, if_pos hn, hs]
   by_cases h0 : n.natAbs % D = 0
   · rw [if_pos h0, if_pos h0, if_pos h0, if_neg (by simp)]
     rfl
   · rw [if_neg h0, if_neg h0, if_neg h0, cmp_flip hl]
     generalize n.natAbs / D = q
     generalize cmpN (2 * (n.natAbs % D)) D = c
     have hnz : D - n.natAbs % D ≠ 0 := by omega
     have hodd : decide ((-(q : Int) - 1).natAbs % 2 = 1) = !decide (q % 2 = 1) := by
      rw [show (-(q : Int) - 1).natAbs = q + 1 by omega, Bool.eq_iff_iff]
      simp
      omega
     rw [hodd]
     unfold sgZ mdB upB
     rcases (by omega : m = 0 ∨ m = 1 ∨ m = 2 ∨ m = 3 ∨ m = 4) with rfl | rfl | rfl | rfl | rfl
     · rcases (by omega : q % 2 = 0 ∨ q % 2 = 1) with hq | hq <;> rcases Int.lt_trichotomy c 0 with hc | hc | hc <;> simp [hq, hc, hnz] <;> (repeat' split) <;> omega
     · rcases Int.lt_trichotomy c 0 with hc | hc | hc <;> simp [hc, hnz] <;> (repeat' split) <;> omega
     · simp [hnz]
     · simp [hnz]
     · simp
       omega
 · rw [decide_eq_false hn, if_neg hn, if_neg hn]
   generalize hq : n.natAbs / D = q
   generalize hr : n.natAbs % D = r
   generalize hcc : cmpN (2 * r) D = c
   by_cases h0 : r = 0
   · rw [if_pos h0, if_neg (by simp [h0])]
     rfl
   · rw [if_neg h0]
     have hs : n.sign = 1 := Int.sign_eq_one_of_pos (by
      rcases Int.lt_or_le 0 n with h | h
      · exact h
      · exfalso
        have : n.natAbs = 0 := by omega
        rw [this, Nat.zero_mod] at hr
        omega)
     rw [hs, Int.natAbs_natCast]
     unfold sgZ mdB upB
     rcases (by omega : m = 0 ∨ m = 1 ∨ m = 2 ∨ m = 3 ∨ m = 4) with rfl | rfl | rfl | rfl | rfl
     · rcases (by omega : q % 2 = 0 ∨ q % 2 = 1) with hq | hq <;> rcases Int.lt_trichotomy c 0 with hc | hc | hc <;> simp [hq, hc, h0] <;> (repeat' split) <;> omega
     · rcases Int.lt_trichotomy c 0 with hc | hc | hc <;> simp [hc, h0] <;> (repeat' split) <;> omega
     · simp
     · simp [h0]
     · simp
theorem floor_rest (x : Rat) : x - ((x.num / (x.den : Int) : Int) : Rat) = mkRat (((x.num % (x.den : Int)).toNat : Nat) : Int) x.den := by
 have hD : x.den ≠ 0 := x.den_nz
 have hp : (0 : Int) < x.den := by omega
 have hm : (((x.num % (x.den : Int)).toNat : Nat) : Int) = x.num % (x.den : Int) := Int.toNat_of_nonneg (Int.emod_nonneg _ (by omega))
 rw [hm, Int.emod_def, Rat.mkRat_eq_div, Rat.intCast_sub, Rat.intCast_mul]
 have hd : ((x.den : Nat) : Rat) ≠ 0 := Rat.ne_of_gt (Rat.natCast_pos.2 (Nat.pos_of_ne_zero hD))
 have hx : x * ((x.den : Nat) : Rat) = (x.num : Rat) := by
  have := Rat.mkRat_self x
  rw [Rat.mkRat_eq_div] at this
  conv => lhs; arg 1; rw [← this]
  exact Rat.div_mul_cancel hd
 have e : (((x.den : Nat) : Int) : Rat) = ((x.den : Nat) : Rat) := rfl
 have hm2 : (x - ((x.num / (x.den : Int) : Int) : Rat)) * ((x.den : Nat) : Rat) = (x.num : Rat) - ((x.den : Nat) : Rat) * ((x.num / (x.den : Int) : Int) : Rat) := by
  rw [Rat.sub_eq_add_neg, Rat.add_mul, Rat.neg_mul, hx, ← Rat.sub_eq_add_neg, Rat.mul_comm ((x.den : Nat) : Rat)]
 rw [e, ← hm2]
 exact (Rat.mul_div_cancel hd).symm
theorem nbBit0I_any (base b : Nat) (z : Int) (d : Nat) (w : World) (h : Iz 23 w base b z) (hd : z.natAbs % 2 = d) :
 Calls Tryz.prog 144 #[.pointer (some ⟨b, 0, none⟩), .int .i64 0] w fun e w' => e = .returned (.int .u64 (d : Int)) ∧ w = w' := by
 have HD := Lib.hid hd
 clear hd
 obtain ⟨ao, k, c, h⟩ := h
 have hk := h.nil
 have hs := h.fr.sl
 obtain ⟨d0, d1, _, _, _, _, _⟩ := h
 by_cases h0 : k = 0
 · have hx : Hid (d = 0) := Lib.hid (by have := HD.out; rw [hk.2 h0] at this; omega)
   subst h0
   clear hs hk
   go_enter Tryz.func144, Tryz.ntmps144
   go_wp2
   go_ret
   rw [hx.out]
   exact ⟨rfl, rfl⟩
 · obtain ⟨b2, o, rfl, hb2, hc⟩ := hs.at_ (by omega)
   have hc0 : w.cell? ⟨b2, o, none⟩ = some (.int .u32 (nth (limbs z.natAbs) 0 : Int)) := hc 0 (by omega)
   have hlt := nth_lt hs.ok 0
   have hle := hs.le
   have hcap := hs.cap
   have hx : nth (limbs z.natAbs) 0 % 2 = d := by
    obtain ⟨r, hr⟩ := val_nth0 (limbs z.natAbs)
    rw [val_limbs'] at hr
    have := HD.out
    omega
   generalize nth (limbs z.natAbs) 0 = y at *
   have hand : bits BinOp.and IntKind.u32 (y : Int) 1 = (d : Int) := by
    have := u32_and_nat y 1 hlt (by decide)
    rw [Nat.and_one_is_mod, hx] at this
    exact this
   have hd2 : d < 2 := by omega
   clear hx
   have j1 : ¬ (0 : Int) ≥ (k : Int) := by omega
   have j2 : (0 : Int) < (k : Int) := by omega
   clear hs hk hc
   go_enter Tryz.func144, Tryz.ntmps144
   go_wp2
   go_ret
   exact ⟨rfl, rfl⟩
theorem nbWhole8_any (B b m : Nat) (x : Rat) (w : World) (h : Rq 23 w B b x) (hm : m < 5) (l1 : ln x.num.natAbs ≤ 200) (l2 : ln x.den ≤ 200) (hT : Tab w) :
 Calls Tryz.prog 98 #[.pointer (some ⟨b, 0, none⟩), .int .u8 (m : Int)] w (MkZ 23 (rzQ x m) w) := by
 have hbl := h.lt
 have hD0 : x.den ≠ 0 := x.den_nz
 have hRd := whole_floor x hm
 have hRst := floor_rest x
 have lL : ln (x.num / (x.den : Int)).natAbs ≤ 202 := by
  have hle : (x.num / (x.den : Int)).natAbs ≤ x.num.natAbs + 1 := by
   obtain ⟨f1, _⟩ := floor_parts x.num hD0
   have := Nat.div_le_self x.num.natAbs x.den
   generalize x.num / (x.den : Int) = z at f1
   generalize x.num.natAbs / x.den = q at *
   generalize x.num.natAbs % x.den = r at f1
   split at f1
   · split at f1 <;> omega
   · omega
  have := ln_add' x.num.natAbs 1
  have h1 := ln_one
  have h2 := ln_mono hle
  omega
 have hMl : (x.num % (x.den : Int)).toNat < x.den := by
  have := Int.emod_lt_of_pos x.num (by omega : (0 : Int) < x.den)
  have := Int.emod_nonneg x.num (by omega : (x.den : Int) ≠ 0)
  omega
 have lM : ln (x.num % (x.den : Int)).toNat ≤ 200 := Nat.le_trans (ln_mono (by omega)) l2
 obtain ⟨L, hL⟩ : ∃ L, L = x.num / (x.den : Int) := ⟨_, rfl⟩
 obtain ⟨M, hM⟩ : ∃ M, M = (x.num % (x.den : Int)).toNat := ⟨_, rfl⟩
 rw [← hL] at lL
 rw [← hM] at lM
 rw [← hL, ← hM] at hRd hRst
 obtain ⟨lr1, lr2⟩ := mk_len (M : Int) hD0
 rw [Int.natAbs_natCast] at lr1
 obtain ⟨W1, hW1⟩ : ∃ W1 : World, W1 = w.alloc (.cells #[.bool false, .slice none 0 0] 154) := ⟨_, rfl⟩
 have hz1 : Zc W1 w.heap.size := hW1 ▸ zc_new _ _ _ _
 have hb1 : Below w.heap.size w W1 := hW1 ▸ more (Below.refl _ _) _
 have hs1 : w.heap.size < W1.heap.size := by rw [hW1]; simp
 have hN := nbRNumZ_any b B x W1 (h.stay hb1) (by omega)
 have hD : ∀ W, Below w.heap.size w W → Calls Tryz.prog 138 #[.pointer (some ⟨b, 0, none⟩)] W (MkZ 23 (x.den : Int) W) := fun W hW => nbRDenomZ_any b B x W (h.stay hW) (by omega)
 have HS1 := Lib.hid hs1
 have HL := Lib.hid hL
 have HRst := Lib.hid hRst
 have HRd := Lib.hid hRd
 clear hs1 hL hM hRst hRd hMl
 go_enter Tryz.func98, Tryz.ntmps98
 go_wp2_with fail
 rw [← hW1]
 clear hW1
 refine hN.mono ?_
 rintro en w2 ⟨t1, rfl, I1, hb2⟩
 have V2 := next hb1 hb2
 go_wp2_with fail
 refine (hD _ V2).mono ?_
 rintro en w3 ⟨t2, rfl, I2, hb3⟩
 have V3 := next V2 hb3
 have U3 : Below W1.heap.size W1 w3 := next hb2 hb3
 have hDv := nbDivI_any w.heap.size w.heap.size W1.heap.size w2.heap.size t1 t2 x.num x.den w3 (hz1.stay U3) V3.size (Nat.le_refl _) (I1.stay hb3) I2 hD0 (by omega) (by omega)
 rw [← HL.out] at hDv
 go_wp2_with fail
 refine hDv.mono ?_
 rintro en w4 ⟨rfl, I4, hB4⟩
 have V4 : Below w.heap.size w w4 := V3.trans (hB4 w.heap.size V3.size (Nat.le_refl _))
 clear hDv hN hD I1 I2 hb2 hb3 U3 V2 V3 hz1 hb1 HS1 hB4
 obtain ⟨W5, hW5⟩ : ∃ W5 : World, W5 = w4.alloc (.cells #[.bool false, .slice none 0 0, .slice none 0 0] 191) := ⟨_, rfl⟩
 obtain ⟨W6, hW6⟩ : ∃ W6 : World, W6 = W5.alloc (.cells #[.bool false, .slice none 0 0, .slice none 0 0] 191) := ⟨_, rfl⟩
 have hs5 : W5.heap.size = w4.heap.size + 1 := by rw [hW5]; simp
 have hrA : Res3 W5 w4.heap.size := by rw [hW5]; exact res_new _ _ _ _ _
 have hdA : Hd 23 W5 w4.heap.size := by rw [hW5]; exact hd_new _ _ (by decide)
 have hrB : Res3 W6 (w4.heap.size + 1) := by rw [← hs5, hW6]; exact res_new _ _ _ _ _
 have hb5 : Below w4.heap.size w4 W5 := hW5 ▸ more (Below.refl _ _) _
 have hb6 : Below W5.heap.size W5 W6 := hW6 ▸ more (Below.refl _ _) _
 have hSI := nbRSetInt_any (w4.heap.size + 1) (w4.heap.size + 1) w.heap.size w.heap.size _ W6 hrB (Nat.le_refl _) (I4.stay (next hb5 hb6)) (by omega)
 have HS5 := Lib.hid hs5
 clear hs5
 go_wp2_with fail
 rw [← hW5, ← hW6]
 clear hW5 hW6
 refine hSI.mono ?_
 rintro en w7 ⟨rfl, Q7, hg7⟩
 have hb7 : Below W5.heap.size W5 w7 := hb6.grown hg7 hb6.size (fun k hk => by cases hk; rw [HS5.out]; exact Nat.le_refl _)
 have V5 := next V4 hb5
 have V7 := next V5 hb7
 have hw4 := V4.size
 have hdA7 := hdA.stay (by rw [HS5.out]; exact Nat.lt_succ_self _) hb7
 have hSb := nbRSub_any w4.heap.size w4.heap.size B (w4.heap.size + 1) b (w4.heap.size + 1) x ((L : Int) : Rat) w7 (hrA.stay hb7) hdA7 (Nat.le_refl _) (h.stay V7) Q7 (by omega) (by omega) (by rw [Rat.num_intCast]; omega) (by rw [Rat.den_intCast]; decide) (hT.below V7)
 rw [HRst.out] at hSb
 go_wp2_with fail
 refine hSb.mono ?_
 rintro en w8 ⟨rfl, Q8, hg8⟩
 have hb8 : Below w4.heap.size w4 w8 := (next hb5 hb7).grown hg8 (next hb5 hb7).size (fun k hk => by cases hk; exact Nat.le_refl _)
 have V8 := next V4 hb8
 have I8 := I4.stay hb8
 clear hSb hg8 hb7 hdA7 hrA hdA hrB hb5 hb6 V5 V7 Q7 hg7 hSI HS5 I4 hb8
 have hw8 := V8.size
 obtain ⟨W9, hW9⟩ : ∃ W9 : World, W9 = w8.alloc (.cells #[.bool false, .slice none 0 0] 154) := ⟨_, rfl⟩
 have hz9 : Zc W9 w8.heap.size := hW9 ▸ zc_new _ _ _ _
 have hb9 : Below w8.heap.size w8 W9 := hW9 ▸ more (Below.refl _ _) _
 have hN1 := nbNewZ_any 1 W9 (by decide)
 go_wp2_with fail
 rw [← hW9]
 clear hW9
 refine hN1.mono ?_
 rintro en w10 ⟨t3, rfl, I10, hb10⟩
 have V10 := next hb9 hb10
 have hAd := nbIAdd_any w8.heap.size w8.heap.size w.heap.size W9.heap.size w.heap.size t3 L 1 w10 (hz9.stay hb10) V10.size (I8.stay V10) I10 (by omega) (by decide)
 go_wp2_with fail
 refine hAd.mono ?_
 rintro en w11 hS11
 have V11 : Below w8.heap.size w8 w11 := hS11.below V10 V10.size (Nat.le_refl _)
 obtain ⟨rfl, H11, _⟩ := hS11.in_ (hz9.stay hb10) (Nat.le_refl _)
 have U11 := next V8 V11
 clear hS11 hAd hN1 I10 hb10 V10 hz9 hb9
 have hHf := nbHalf_any w11 (hT.below U11)
 go_wp2_with fail
 refine hHf.mono ?_
 rintro en w12 ⟨t4, rfl, Q12, hb12⟩
 have V12 := next V11 hb12
 have hC : Calls Tryz.prog 142 #[.pointer (some ⟨w4.heap.size, 0, none⟩), .pointer (some ⟨t4, 0, none⟩)] w12 fun en w' => en = .returned (.int .i64 (cmpN (2 * M) x.den)) ∧ Below w12.heap.size w12 w' := by
  have := nbRCmp_any w4.heap.size t4 w4.heap.size w11.heap.size _ _ w12 (Q8.stay V12) Q12 (by omega) (by omega) (by decide) (by decide)
  rwa [rest_half M hD0] at this
 go_wp2_with fail
 refine hC.mono ?_
 rintro en w13 ⟨rfl, hb13⟩
 have U13 := next V8 (next V12 hb13)
 have Lo := I8.stay (next V12 hb13)
 have Hi := H11.stay (next hb12 hb13)
 have Re := Q8.stay (next V12 hb13)
 have cX := nbRSignZ_any b B x w13 (h.stay U13)
 have cR := nbRSignZ_any w4.heap.size w4.heap.size _ w13 Re
 have cB := nbBit0I_any w.heap.size w.heap.size L (L.natAbs % 2) w13 Lo rfl
 have rs0 : M = 0 → (mkRat (M : Int) x.den).num.sign = 0 := (rest_sign M hD0).2
 have rs1 : M ≠ 0 → (mkRat (M : Int) x.den).num.sign > 0 := fun hM => by
  refine Int.sign_pos_iff.2 ?_
  have h0 : (mkRat (M : Int) x.den).num ≠ 0 := fun hh => hM (by rw [Rat.num_eq_zero, Rat.mkRat_eq_zero hD0] at hh; omega)
  have h1 : ¬ (mkRat (M : Int) x.den).num < 0 := by
   have := (mk_parts (M : Int) hD0).2.2
   rw [decide_eq_false (by omega : ¬ (M : Int) < 0)] at this
   exact of_decide_eq_false this
  omega
 have LoF : ∀ z, rzQ x m = z → z = L → MkZ 23 (rzQ x m) w (.returned (.pointer (some ⟨w.heap.size, 0, none⟩))) w13 := fun z h1 h2 => ⟨_, rfl, by rw [h1, h2]; exact Lo, U13⟩
 have HiF : ∀ z, rzQ x m = z → z = L + 1 → MkZ 23 (rzQ x m) w (.returned (.pointer (some ⟨w8.heap.size, 0, none⟩))) w13 := fun z h1 h2 => ⟨_, rfl, by rw [h1, h2]; exact Hi.mono hw8, U13⟩
 have hpar : L.natAbs % 2 = 0 ∨ L.natAbs % 2 = 1 := by omega
 have RD := HRd.out
 clear HRd HRst HL hC hHf Q12 Q8 H11 I8 hb12 hb13 V11 V12 U11 V8 Lo Hi Re lL lM lr1 lr2 l1 l2 h hT hbl V4 hw4 hw8
 generalize cmpN (2 * M) x.den = cc at *
 generalize (mkRat (M : Int) x.den).num.sign = rs at *
 generalize x.num.sign = sg at *
 obtain ⟨od, hod⟩ : ∃ od, od = L.natAbs % 2 := ⟨_, rfl⟩
 rw [← hod] at cB hpar
 have RD' : rzQ x m = if upB m cc (decide (od = 1)) sg = true ∧ M ≠ 0 then L + 1 else L := by rw [RD, hod]
 clear RD hod
 have key : ∀ u : Bool, upB m cc (decide (od = 1)) sg = u → rzQ x m = if u = true ∧ M ≠ 0 then L + 1 else L := fun u hu => by rw [RD', hu]
 have KEY := Lib.hid key
 have LOF := Lib.hid LoF
 have HIF := Lib.hid HiF
 clear RD' key LoF HiF
 have lo0 : ∀ u : Bool, upB m cc (decide (od = 1)) sg = u → u = false ∨ M = 0 → rzQ x m = L := fun u hu hh => by
  rw [KEY.out u hu, if_neg (by rcases hh with h | h <;> simp [h])]
 have hi0 : upB m cc (decide (od = 1)) sg = true → M ≠ 0 → rzQ x m = L + 1 := fun hu hh => by rw [KEY.out true hu, if_pos ⟨rfl, hh⟩]
 have LO0 := Lib.hid lo0
 have HI0 := Lib.hid hi0
 clear lo0 hi0 KEY
 rcases (by omega : m = 0 ∨ m = 1 ∨ m = 2 ∨ m = 3 ∨ m = 4) with rfl | rfl | rfl | rfl | rfl
 · rcases Int.lt_trichotomy cc 0 with hc | hc | hc
   · have c1 : ¬ cc > 0 := by omega
     have c2 : (cc == 0) = false := by simp; omega
     have HE := Lib.hid (LO0.out false (by unfold upB; simp; omega) (.inl rfl))
     clear rs0 rs1 LO0 HI0
     go_wp2_with (first
      | (go_at_call 144; (with_reducible refine cB.mono ?_); rintro en wq ⟨rfl, rfl⟩)
      | (go_at_call 145; (with_reducible refine cX.mono ?_); rintro en wq ⟨rfl, rfl⟩)
      | (go_at_call 145; (with_reducible refine cR.mono ?_); rintro en wq ⟨rfl, rfl⟩))
     go_ret
     exact LOF.out _ HE.out rfl
   · rcases hpar with hp | hp
     · subst hc hp
       have HE := Lib.hid (LO0.out false (by unfold upB; simp) (.inl rfl))
       clear rs0 rs1 LO0 HI0
       go_wp2_with (first
        | (go_at_call 144; (with_reducible refine cB.mono ?_); rintro en wq ⟨rfl, rfl⟩)
        | (go_at_call 145; (with_reducible refine cX.mono ?_); rintro en wq ⟨rfl, rfl⟩)
        | (go_at_call 145; (with_reducible refine cR.mono ?_); rintro en wq ⟨rfl, rfl⟩))
       go_ret
       exact LOF.out _ HE.out rfl
     · subst hc hp
       by_cases hM : M = 0
       · have HE := Lib.hid (LO0.out true (by unfold upB; simp) (.inr hM))
         have r0 := rs0 hM
         rw [r0] at cR
         clear rs0 rs1 hM LO0 HI0 r0
         go_wp2_with (first
          | (go_at_call 144; (with_reducible refine cB.mono ?_); rintro en wq ⟨rfl, rfl⟩)
          | (go_at_call 145; (with_reducible refine cX.mono ?_); rintro en wq ⟨rfl, rfl⟩)
          | (go_at_call 145; (with_reducible refine cR.mono ?_); rintro en wq ⟨rfl, rfl⟩))
         go_ret
         exact LOF.out _ HE.out rfl
       · have HE := Lib.hid (HI0.out (by unfold upB; simp) hM)
         have r1 := rs1 hM
         clear rs0 rs1 hM LO0 HI0
         go_wp2_with (first
          | (go_at_call 144; (with_reducible refine cB.mono ?_); rintro en wq ⟨rfl, rfl⟩)
          | (go_at_call 145; (with_reducible refine cX.mono ?_); rintro en wq ⟨rfl, rfl⟩)
          | (go_at_call 145; (with_reducible refine cR.mono ?_); rintro en wq ⟨rfl, rfl⟩))
         go_ret
         exact HIF.out _ HE.out rfl
   · have c1 : cc > 0 := hc
     by_cases hM : M = 0
     · have HE := Lib.hid (LO0.out true (by unfold upB; simp; omega) (.inr hM))
       have r0 := rs0 hM
       rw [r0] at cR
       clear rs0 rs1 hM LO0 HI0 r0
       go_wp2_with (first
        | (go_at_call 144; (with_reducible refine cB.mono ?_); rintro en wq ⟨rfl, rfl⟩)
        | (go_at_call 145; (with_reducible refine cX.mono ?_); rintro en wq ⟨rfl, rfl⟩)
        | (go_at_call 145; (with_reducible refine cR.mono ?_); rintro en wq ⟨rfl, rfl⟩))
       go_ret
       exact LOF.out _ HE.out rfl
     · have HE := Lib.hid (HI0.out (by unfold upB; simp; omega) hM)
       have r1 := rs1 hM
       clear rs0 rs1 hM LO0 HI0
       go_wp2_with (first
        | (go_at_call 144; (with_reducible refine cB.mono ?_); rintro en wq ⟨rfl, rfl⟩)
        | (go_at_call 145; (with_reducible refine cX.mono ?_); rintro en wq ⟨rfl, rfl⟩)
        | (go_at_call 145; (with_reducible refine cR.mono ?_); rintro en wq ⟨rfl, rfl⟩))
       go_ret
       exact HIF.out _ HE.out rfl
 · rcases Int.lt_trichotomy cc 0 with hc | hc | hc
   · have c1 : ¬ cc > 0 := by omega
     have c2 : (cc == 0) = false := by simp; omega
     have HE := Lib.hid (LO0.out false (by unfold upB; simp; omega) (.inl rfl))
     clear rs0 rs1 LO0 HI0
     go_wp2_with (first
      | (go_at_call 144; (with_reducible refine cB.mono ?_); rintro en wq ⟨rfl, rfl⟩)
      | (go_at_call 145; (with_reducible refine cX.mono ?_); rintro en wq ⟨rfl, rfl⟩)
      | (go_at_call 145; (with_reducible refine cR.mono ?_); rintro en wq ⟨rfl, rfl⟩))
     go_ret
     exact LOF.out _ HE.out rfl
   · subst hc
     by_cases hg : 0 < sg
     · have g1 : sg > 0 := hg
       by_cases hM : M = 0
       · have HE := Lib.hid (LO0.out true (by unfold upB; simp; omega) (.inr hM))
         have r0 := rs0 hM
         rw [r0] at cR
         clear rs0 rs1 hM LO0 HI0 r0
         go_wp2_with (first
          | (go_at_call 144; (with_reducible refine cB.mono ?_); rintro en wq ⟨rfl, rfl⟩)
          | (go_at_call 145; (with_reducible refine cX.mono ?_); rintro en wq ⟨rfl, rfl⟩)
          | (go_at_call 145; (with_reducible refine cR.mono ?_); rintro en wq ⟨rfl, rfl⟩))
         go_ret
         exact LOF.out _ HE.out rfl
       · have HE := Lib.hid (HI0.out (by unfold upB; simp; omega) hM)
         have r1 := rs1 hM
         clear rs0 rs1 hM LO0 HI0
         go_wp2_with (first
          | (go_at_call 144; (with_reducible refine cB.mono ?_); rintro en wq ⟨rfl, rfl⟩)
          | (go_at_call 145; (with_reducible refine cX.mono ?_); rintro en wq ⟨rfl, rfl⟩)
          | (go_at_call 145; (with_reducible refine cR.mono ?_); rintro en wq ⟨rfl, rfl⟩))
         go_ret
         exact HIF.out _ HE.out rfl
     · have g1 : ¬ sg > 0 := hg
       have HE := Lib.hid (LO0.out false (by unfold upB; simp; omega) (.inl rfl))
       clear rs0 rs1 LO0 HI0
       go_wp2_with (first
        | (go_at_call 144; (with_reducible refine cB.mono ?_); rintro en wq ⟨rfl, rfl⟩)
        | (go_at_call 145; (with_reducible refine cX.mono ?_); rintro en wq ⟨rfl, rfl⟩)
        | (go_at_call 145; (with_reducible refine cR.mono ?_); rintro en wq ⟨rfl, rfl⟩))
       go_ret
       exact LOF.out _ HE.out rfl
   · have c1 : cc > 0 := hc
     by_cases hM : M = 0
     · have HE := Lib.hid (LO0.out true (by unfold upB; simp; omega) (.inr hM))
       have r0 := rs0 hM
       rw [r0] at cR
       clear rs0 rs1 hM LO0 HI0 r0
       go_wp2_with (first
        | (go_at_call 144; (with_reducible refine cB.mono ?_); rintro en wq ⟨rfl, rfl⟩)
        | (go_at_call 145; (with_reducible refine cX.mono ?_); rintro en wq ⟨rfl, rfl⟩)
        | (go_at_call 145; (with_reducible refine cR.mono ?_); rintro en wq ⟨rfl, rfl⟩))
       go_ret
       exact LOF.out _ HE.out rfl
     · have HE := Lib.hid (HI0.out (by unfold upB; simp; omega) hM)
       have r1 := rs1 hM
       clear rs0 rs1 hM LO0 HI0
       go_wp2_with (first
        | (go_at_call 144; (with_reducible refine cB.mono ?_); rintro en wq ⟨rfl, rfl⟩)
        | (go_at_call 145; (with_reducible refine cX.mono ?_); rintro en wq ⟨rfl, rfl⟩)
        | (go_at_call 145; (with_reducible refine cR.mono ?_); rintro en wq ⟨rfl, rfl⟩))
       go_ret
       exact HIF.out _ HE.out rfl
 · by_cases hg : sg < 0
   · skip
     by_cases hM : M = 0
     · have HE := Lib.hid (LO0.out true (by unfold upB; simp; omega) (.inr hM))
       have r0 := rs0 hM
       rw [r0] at cR
       clear rs0 rs1 hM LO0 HI0 r0
       go_wp2_with (first
        | (go_at_call 144; (with_reducible refine cB.mono ?_); rintro en wq ⟨rfl, rfl⟩)
        | (go_at_call 145; (with_reducible refine cX.mono ?_); rintro en wq ⟨rfl, rfl⟩)
        | (go_at_call 145; (with_reducible refine cR.mono ?_); rintro en wq ⟨rfl, rfl⟩))
       go_ret
       exact LOF.out _ HE.out rfl
     · have HE := Lib.hid (HI0.out (by unfold upB; simp; omega) hM)
       have r1 := rs1 hM
       clear rs0 rs1 hM LO0 HI0
       go_wp2_with (first
        | (go_at_call 144; (with_reducible refine cB.mono ?_); rintro en wq ⟨rfl, rfl⟩)
        | (go_at_call 145; (with_reducible refine cX.mono ?_); rintro en wq ⟨rfl, rfl⟩)
        | (go_at_call 145; (with_reducible refine cR.mono ?_); rintro en wq ⟨rfl, rfl⟩))
       go_ret
       exact HIF.out _ HE.out rfl
   · skip
     have HE := Lib.hid (LO0.out false (by unfold upB; simp; omega) (.inl rfl))
     clear rs0 rs1 LO0 HI0
     go_wp2_with (first
      | (go_at_call 144; (with_reducible refine cB.mono ?_); rintro en wq ⟨rfl, rfl⟩)
      | (go_at_call 145; (with_reducible refine cX.mono ?_); rintro en wq ⟨rfl, rfl⟩)
      | (go_at_call 145; (with_reducible refine cR.mono ?_); rintro en wq ⟨rfl, rfl⟩))
     go_ret
     exact LOF.out _ HE.out rfl
 · skip
   by_cases hM : M = 0
   · have HE := Lib.hid (LO0.out true (by unfold upB; simp) (.inr hM))
     have r0 := rs0 hM
     rw [r0] at cR
     clear rs0 rs1 hM LO0 HI0 r0
     go_wp2_with (first
      | (go_at_call 144; (with_reducible refine cB.mono ?_); rintro en wq ⟨rfl, rfl⟩)
      | (go_at_call 145; (with_reducible refine cX.mono ?_); rintro en wq ⟨rfl, rfl⟩)
      | (go_at_call 145; (with_reducible refine cR.mono ?_); rintro en wq ⟨rfl, rfl⟩))
     go_ret
     exact LOF.out _ HE.out rfl
   · have HE := Lib.hid (HI0.out (by unfold upB; simp) hM)
     have r1 := rs1 hM
     clear rs0 rs1 hM LO0 HI0
     go_wp2_with (first
      | (go_at_call 144; (with_reducible refine cB.mono ?_); rintro en wq ⟨rfl, rfl⟩)
      | (go_at_call 145; (with_reducible refine cX.mono ?_); rintro en wq ⟨rfl, rfl⟩)
      | (go_at_call 145; (with_reducible refine cR.mono ?_); rintro en wq ⟨rfl, rfl⟩))
     go_ret
     exact HIF.out _ HE.out rfl
 · skip
   have HE := Lib.hid (LO0.out false (by unfold upB; simp) (.inl rfl))
   clear rs0 rs1 LO0 HI0
   go_wp2_with (first
    | (go_at_call 144; (with_reducible refine cB.mono ?_); rintro en wq ⟨rfl, rfl⟩)
    | (go_at_call 145; (with_reducible refine cX.mono ?_); rintro en wq ⟨rfl, rfl⟩)
    | (go_at_call 145; (with_reducible refine cR.mono ?_); rintro en wq ⟨rfl, rfl⟩))
   go_ret
   exact LOF.out _ HE.out rfl
end
theorem below_of (s : Bool) (M : Nat) (X : Int) : decide ((((sgZ s M : Int) : Rat) * p2 X).num < 0) = if M = 0 then false else s := by
 rw [← sgQ_up]
 have h := mk_sign s (upN M X) (upD_pos X)
 have e : sgQ' s (upN M X) (upD X) = mkRat (sgv s (upN M X)) (upD X) := rfl
 rw [e, h]
 by_cases h0 : M = 0
 · rw [if_pos h0]
   have : upN M X = 0 := by unfold upN; rw [h0, Nat.zero_mul]
   rw [this]
   have e0 : sgv s 0 = 0 := by cases s <;> rfl
   rw [e0, Rat.zero_mkRat]
   unfold nzB
   simp
 · rw [if_neg h0]
   have hne : (mkRat (sgv s (upN M X)) (upD X)).num.natAbs ≠ 0 := by
    intro hz
    have hz2 : (mkRat (sgv s (upN M X)) (upD X)).num = 0 := Int.natAbs_eq_zero.1 hz
    have hz3 := Rat.num_eq_zero.1 hz2
    have hz4 := (Rat.mkRat_eq_zero (upD_pos X)).1 hz3
    have := upN_ne h0 X
    unfold sgv at hz4
    split at hz4 <;> omega
   unfold nzB
   rw [decide_eq_true hne, Bool.and_true]
theorem cross_of (s : Bool) (M : Nat) (X : Int) : (((sgZ s M : Int) : Rat) * p2 X).num.natAbs * upD X = upN M X * (((sgZ s M : Int) : Rat) * p2 X).den := by
 rw [← sgQ_up]
 have h := mk_cross (sgv s (upN M X)) (upD_pos X)
 have e : sgQ' s (upN M X) (upD X) = mkRat (sgv s (upN M X)) (upD X) := rfl
 rw [e, h]
 congr 1
 unfold sgv
 split <;> omega
theorem infLit_any (q e f : Nat) (w : World) (he : e ≤ 64) (hB : Box2 w q (.int .i64 e) (.int .i64 f)) :
 Calls Tryz.prog 113 #[.pointer (some ⟨q, 0, none⟩)] w fun en w' => en = .returned (.tuple #[.int .u64 (maskN e : Int), .int .u64 0]) ∧ w = w' := by
 have ⟨a0, a1⟩ := hB
 have cM := mask_any e w he
 generalize maskN e = M at *
 go_enter Tryz.func113, Tryz.ntmps113
 go_wp2_with fail
 refine cM.mono ?_
 rintro en w1 ⟨rfl, rfl⟩
 go_wp2
 go_ret2
 exact ⟨rfl, rfl⟩
theorem knownInf_any (q e f : Nat) (neg : Bool) (w : World) (h : formE (e : Int) (f : Int) = 0) (hB : Box2 w q (.int .i64 e) (.int .i64 f)) :
 Calls Tryz.prog 112 #[.agg #[.int .i64 e, .int .i64 f], .bool neg, .func (.func 113) #[] #[.pointer (some ⟨q, 0, none⟩)]] w fun en w' => en = .returned (.tuple #[.int .u64 (joinN e f neg (maskN e) 0 : Int), .int .i64 0]) ∧ Below w.heap.size w w' := by
 obtain ⟨h1, h2, h3, h4⟩ := formE_ok h
 have g1 : 2 ≤ e := by omega
 have g2 : e ≤ 11 := by omega
 have g3 : f ≤ 52 := by omega
 have pe : maskN e < pw e := by rw [maskN_eq]; have := pw_pos e; omega
 have pf := pw_pos f
 have cJ := fun W => join_any e f neg (maskN e) 0 W g1 g2 g3 pe pf
 have cL := fun W hB => infLit_any q e f W (by omega) hB
 generalize maskN e = M at *
 go_enter Tryz.func112, Tryz.ntmps112
 go_wp2_with fail
 refine (formCheck_any e f _).mono ?_
 rintro en w1 ⟨rfl, hb1⟩
 rw [h]
 have ⟨a0, a1⟩ := (box2_new w (.int .i64 (e : Int)) (.int .i64 (f : Int)) 31).stay hb1
 have B1 := (hB.alloc (.cells #[.int .i64 (e : Int), .int .i64 (f : Int)] 31)).stay hb1
 go_wp2_with (go_at_call 113; refine (cL _ B1).mono ?_; rintro en w2 ⟨rfl, rfl⟩)
 refine (cJ _).mono ?_
 rintro en w2 ⟨rfl, hb2⟩
 go_wp2
 go_ret2
 exact ⟨rfl, next (next (more (Below.refl _ _) _) hb1) hb2⟩
theorem formsInf_any (e f : Nat) (neg : Bool) (w : World) (h : formE (e : Int) (f : Int) = 0) :
 Calls Tryz.prog 73 #[.agg #[.int .i64 e, .int .i64 f], .bool neg] w fun en w' => en = .returned (.tuple #[.int .u64 (joinN e f neg (maskN e) 0 : Int), .int .i64 0]) ∧ Below w.heap.size w w' := by
 have B := box2_new w (.int .i64 (e : Int)) (.int .i64 (f : Int)) 31
 have hW := more (Below.refl w.heap.size w) (.cells #[.int .i64 (e : Int), .int .i64 (f : Int)] 31)
 have cK := fun W hB => knownInf_any w.heap.size e f neg W h hB
 generalize joinN e f neg (maskN e) 0 = J at *
 go_enter Tryz.func73, Tryz.ntmps73
 go_wp2_with fail
 refine (cK _ B).mono ?_
 rintro en w1 ⟨rfl, hb1⟩
 go_wp2
 go_ret2
 exact ⟨rfl, next hW hb1⟩
end Go.Proofs.YtoiifhmepniniaaGreatDoor
