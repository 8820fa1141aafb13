/-
  Contracts of numeral/numeralref05: power, log. Contracts of numeral/numeralref05: whole (and NewRat of numeralbig).
-/
import Derived.Test.YtoiifhmepniniaaGreatDoorQbCNbU
import Derived.Test.YtoiifhmepniniaaGreatDoorQbCRtI
set_option maxHeartbeats 6000000
set_option maxRecDepth 100000
namespace Go.Proofs.YtoiifhmepniniaaGreatDoor
open Go.RowKit Go.Lb
theorem p2_int (k : Nat) : (((1 : Int) * 2 ^ k : Int) : Rat) = p2 (k : Int) := by
 rw [p2_nat, Int.one_mul, show ((2 : Int) ^ k) = ((2 ^ k : Nat) : Int) by simp]
 rfl
theorem nbPower_any (n : Int) (w : World) (h1 : -8388608 ≤ n) (h2 : n ≤ 8388608) :
 Calls Tryz.prog 148 #[.int .i64 n] w (MkQ 23 (p2 n) w) := by
 obtain ⟨k, hk⟩ : ∃ k : Nat, (k : Int) = max n (-n) := ⟨n.natAbs, by omega⟩
 have hkb : k ≤ 8388608 := by omega
 have hwn : IntKind.i64.wrap (-n) = -n := IntWalk.i64_in _ (by omega)
 have hwk : IntKind.u64.wrap (k : Int) = (k : Int) := IntWalk.u64_in _ (by omega)
 obtain ⟨W1, hW1⟩ : ∃ W1 : World, W1 = w.alloc (.cells #[.bool false, .slice none 0 0, .slice none 0 0] 191) := ⟨_, rfl⟩
 obtain ⟨W2, hW2⟩ : ∃ W2 : World, W2 = W1.alloc (.cells #[.bool false, .slice none 0 0] 154) := ⟨_, rfl⟩
 have hs1 : W1.heap.size = w.heap.size + 1 := by rw [hW1]; simp
 have hz : Zc W2 (w.heap.size + 1) := by rw [← hs1, hW2]; exact zc_new _ _ _ _
 have hr : Res3 W1 w.heap.size := by rw [hW1]; exact res_new _ _ _ _ _
 have hb1 : Below w.heap.size w W1 := hW1 ▸ more (Below.refl _ _) _
 have hb2 : Below W1.heap.size W1 W2 := hW2 ▸ more (Below.refl _ _) _
 have HN := nbNewZ_any 1 W2 (by decide)
 have hq : p2 n = if n < 0 then (p2 (k : Int))⁻¹ else p2 (k : Int) := by
  split
  · rw [← p2_neg]; congr 1; omega
  · congr 1; omega
 have hp := p2_parts (k : Int)
 have l1 : ln (p2 (k : Int)).num.natAbs ≤ 4294967296 := by rw [hp.1, Int.natAbs_natCast, Int.toNat_natCast]; have := ln_p2 k; omega
 have l2 : ln (p2 (k : Int)).den ≤ 4294967296 := by
  rw [hp.2]
  have := ln_p2 (-(k : Int)).toNat
  omega
 have HL1 := Lib.hid l1
 have HL2 := Lib.hid l2
 have HQ := Lib.hid hq
 have HS1 := Lib.hid hs1
 have hl2 : ln ((1 : Int) * 2 ^ k).natAbs ≤ 4294967296 := by
  rw [Int.one_mul, show ((2 : Int) ^ k) = ((2 ^ k : Nat) : Int) by simp, Int.natAbs_natCast]
  have := ln_p2 k; omega
 have HL3 := Lib.hid hl2
 clear hp l1 l2 hq hs1 hl2
 generalize hmx : max n (-n) = mx at *
 subst hk
 by_cases hn : n < 0
 all_goals
  go_enter Tryz.func148, Tryz.ntmps148
  go_wp2_with fail
  rw [← hW1, ← hW2]
  clear hW1 hW2
  refine HN.mono ?_
  rintro en w3 ⟨bt, rfl, I1, hb3⟩
  have hL := nbLsh_any (w.heap.size + 1) W1.heap.size W2.heap.size bt k 1 w3 (hz.stay hb3) (by have := hb2.size; have := hb3.size; omega) I1 (by decide) (by omega)
  go_wp2_with fail
  refine hL.mono ?_
  rintro en w4 hS4
  have hb4 : Below W1.heap.size W1 w4 := hS4.below (next hb2 hb3) (by have := hb2.size; have := hb3.size; omega) (by rw [HS1.out]; exact Nat.le_refl _)
  obtain ⟨rfl, I4, _⟩ := hS4.in_ (hz.stay hb3) (by rw [HS1.out]; exact Nat.le_refl _)
  have hT := nbRSetInt_any w.heap.size w.heap.size W1.heap.size (w.heap.size + 1) _ w4 (hr.stay hb4) (Nat.le_refl _) I4 HL3.out
  rw [p2_int] at hT
  go_wp2_with fail
  refine hT.mono ?_
  rintro en w5 ⟨rfl, Q5, hg5⟩
  have hb5 : Below w.heap.size w w5 := (next hb1 hb4).grown hg5 (Nat.le_trans hb1.size hb4.size) (fun k hk => by cases hk; exact Nat.le_refl _)
 · have hI := nbRInv_any w.heap.size w.heap.size w.heap.size w.heap.size (p2 (k : Int)) w5 Q5.res (Nat.le_refl _) Q5 (p2_ne _) HL1.out HL2.out
   go_wp2_with fail
   refine hI.mono ?_
   rintro en w6 ⟨rfl, Q6, hg6⟩
   go_wp2
   go_ret
   refine ⟨_, rfl, ?_, hb5.grown hg6 hb5.size (fun k hk => by cases hk; exact Nat.le_refl _)⟩
   rw [HQ.out, if_pos hn]
   exact Q6
 · go_wp2
   go_ret
   refine ⟨_, rfl, ?_, hb5⟩
   rw [HQ.out, if_neg (by omega)]
   exact Q5
theorem nbBias_any (E : Nat) (f : Int) (w : World) (h1 : 2 ≤ E) (h2 : E ≤ 11) :
 Calls Tryz.prog 149 #[.agg #[.int .i64 (E : Int), .int .i64 f]] w fun en w' => en = .returned (.int .i64 (bsN E : Int)) ∧ Below w.heap.size w w' := by
 have hE : Hid ((bsN E : Int) = 2 ^ (E - 1) - 1) := Lib.hid (by
  unfold bsN
  have := Nat.two_pow_pos (E - 1)
  rw [Int.natCast_sub this]; simp)
 obtain ⟨k, hk⟩ : ∃ k : Nat, k = E - 1 := ⟨_, rfl⟩
 have hk1 : (E : Int) - 1 = (k : Int) := by omega
 have hk2 : k ≤ 10 := by omega
 rw [← hk] at hE
 have hp : (1 : Int) ≤ 2 ^ k ∧ (2 : Int) ^ k ≤ 1024 := by
  have a := Nat.two_pow_pos k
  have b : 2 ^ k ≤ 2 ^ 10 := Nat.pow_le_pow_right (by decide) hk2
  have c : (2 : Int) ^ k = ((2 ^ k : Nat) : Int) := by simp
  rw [c]
  have d : (2 : Nat) ^ 10 = 1024 := by decide
  omega
 have hw1 : IntKind.i64.wrap (2 ^ k) = 2 ^ k := IntWalk.i64_in _ (by omega)
 clear hk
 go_enter Tryz.func149, Tryz.ntmps149
 go_wp2
 go_ret
 exact ⟨by rw [hE.out]; rfl, more (Below.refl _ _) _⟩
theorem rest_sign (M : Nat) {D : Nat} (hD : D ≠ 0) : (mkRat (M : Int) D).num.sign = 0 ↔ M = 0 := by
 rw [Int.sign_eq_zero_iff_zero, Rat.num_eq_zero, Rat.mkRat_eq_zero hD]
 omega
theorem rest_half (M : Nat) {D : Nat} (hD : D ≠ 0) : cmpQ (mkRat (M : Int) D) (mkRat 1 2) = cmpN (2 * M) D := by
 have h1 : (mkRat 1 2).num = 1 := by decide
 have h2 : (mkRat 1 2).den = 2 := by decide
 have hc := mk_cross (M : Int) hD
 have hs := (mk_parts (M : Int) hD).2.2
 rw [Int.natAbs_natCast] at hc
 have hp := (mkRat (M : Int) D).den_pos
 rw [cmpQ_cross, h1, h2]
 rw [decide_eq_false (by omega : ¬ (M : Int) < 0)] at hs
 have hs' := of_decide_eq_false hs
 rw [← cmp_mul (a := 2 * M) (b := D) hp, Nat.mul_assoc, ← hc, show 2 * ((mkRat (M : Int) D).num.natAbs * D) = (2 * (mkRat (M : Int) D).num.natAbs) * D by rw [Nat.mul_assoc], Nat.mul_comm D, cmp_mul (Nat.pos_of_ne_zero hD)]
 unfold cmpN
 generalize (mkRat (M : Int) D).num = a at *
 generalize (mkRat (M : Int) D).den = b at *
 (repeat' split) <;> omega
theorem nbHalf_any (w : World) (hT : Tab w) :
 Calls Tryz.prog 143 #[.int .i64 1, .int .i64 2] w (MkQ 23 (mkRat 1 2) w) := by
 obtain ⟨W1, hW1⟩ : ∃ W1 : World, W1 = w.alloc (.cells #[.bool false, .slice none 0 0, .slice none 0 0] 191) := ⟨_, rfl⟩
 have hr : Res3 W1 w.heap.size := by rw [hW1]; exact res_new _ _ _ _ _
 have hb1 : Below w.heap.size w W1 := hW1 ▸ more (Below.refl _ _) _
 have hs1 : w.heap.size < W1.heap.size := by rw [hW1]; simp
 have hF : Calls Tryz.prog 197 #[.pointer (some ⟨w.heap.size, 0, none⟩), .int .i64 1, .int .i64 2] W1 (MkQ 23 (mkRat 1 2) w) := by
  clear hW1
  have HN1 := nbNewZ_any 1 W1 (by decide)
  go_enter Tryz.func197, Tryz.ntmps197
  go_wp2_with fail
  refine HN1.mono ?_
  rintro en w2 ⟨t1, rfl, I1, hb2⟩
  have HN2 := nbNewZ_any 2 w2 (by decide)
  go_wp2_with fail
  refine HN2.mono ?_
  rintro en w3 ⟨t2, rfl, I2, hb3⟩
  have hl1 := I1.le
  have hl2 := I2.le
  have hz2 := hb2.size
  have hb23 := next hb2 hb3
  have hS := nbSetFracZ_any w.heap.size w.heap.size W1.heap.size w2.heap.size t1 t2 1 2 w3 (hr.stay hb23) (I1.stay hb3) I2 (by omega) (by omega) (by decide) (Nat.le_refl _) (by decide) (by decide) (hT.below (next hb1 hb23))
  go_wp2_with fail
  refine hS.mono ?_
  rintro en w4 ⟨rfl, Q4, hg4⟩
  go_wp2
  go_ret
  exact ⟨_, rfl, Q4, (next hb1 hb23).grown hg4 (next hb1 hb23).size (fun k hk => by cases hk; exact Nat.le_refl _)⟩
 go_enter Tryz.func143, Tryz.ntmps143
 go_wp2_with fail
 rw [← hW1]
 refine hF.mono ?_
 rintro en w4 ⟨b, rfl, Q4, hb4⟩
 go_wp2
 go_ret
 exact ⟨b, rfl, Q4, hb4⟩
theorem nbSign5_any (E F : Nat) (w : World) (hE : E ≤ 11) (hF : F ≤ 52) :
 Calls Tryz.prog 151 #[.agg #[.int .i64 (E : Int), .int .i64 (F : Int)]] w fun en w' => en = .returned (.int .u64 ((2 ^ (E + F) : Nat) : Int)) ∧ Below w.heap.size w w' := by
 obtain ⟨k, hk⟩ : ∃ k : Nat, (E : Int) + (F : Int) = (k : Int) := ⟨E + F, by omega⟩
 have hkk : k = E + F := by omega
 have hk2 : k ≤ 63 := by omega
 have hP : Hid (((2 ^ (E + F) : Nat) : Int) = 2 ^ k) := Lib.hid (by rw [← hkk]; simp)
 have hw : IntKind.u64.wrap (2 ^ k) = 2 ^ k := IntWalk.u64_in _ (by
  have a := Nat.two_pow_pos k
  have b : 2 ^ k ≤ 2 ^ 63 := Nat.pow_le_pow_right (by decide) hk2
  have c : (2 : Int) ^ k = ((2 ^ k : Nat) : Int) := by simp
  rw [c]
  have d : (2 : Nat) ^ 63 = 9223372036854775808 := by decide
  omega)
 clear hkk
 go_enter Tryz.func151, Tryz.ntmps151
 go_wp2
 go_ret
 exact ⟨by rw [hP.out]; rfl, more (Below.refl _ _) _⟩
section
attribute [local go_sem] Go.World.cell?_alloc_some
theorem bs_le {E : Nat} (h2 : E ≤ 11) : bsN E ≤ 1023 := by
 unfold bsN
 have b : 2 ^ (E - 1) ≤ 2 ^ 10 := Nat.pow_le_pow_right (by decide) (by omega)
 have d : (2 : Nat) ^ 10 = 1024 := by decide
 omega
end
section
attribute [local go_sem ↓] Go.wp_at_zero Go.wp_at_succ
theorem val_drop_next (xs : List Nat) (t : Nat) (h : t < xs.length) : val (xs.drop t) = val (xs.drop (t + 1)) * 4294967296 + nth xs t := by
 rw [List.drop_eq_getElem_cons h, val]
 unfold nth
 rw [List.getD_eq_getElem?_getD, List.getElem?_eq_getElem h, Option.getD_some]
 omega
theorem rdLarge_any (ao : Option Addr) (n c : Nat) (xs : List Nat) (w : World) (h : Sl w ao n c xs) (hn : n ≤ 8388608) :
 Calls Tryz.prog 117 #[.agg #[.slice ao n c]] w (MkZ 23 (val xs : Int) w) := by
 have hle := h.le
 have hcap := h.cap
 have hlen := h.len
 have HV : Hid (∀ t, t < n → val (xs.drop t) = val (xs.drop (t + 1)) * 4294967296 + nth xs t) := Lib.hid (fun t ht => val_drop_next xs t (by omega))
 have HL : Hid (∀ j, ln (val (xs.drop j)) ≤ 8388608) := Lib.hid (fun j => Nat.le_trans (ln_le (val_lt (ok_drop h.ok j))) (by rw [List.length_drop]; omega))
 obtain ⟨W2, hW2⟩ : ∃ W2 : World, W2 = (w.alloc (.cells #[.slice ao n c] 130)).alloc (.cells #[.bool false, .slice none 0 0] 221) := ⟨_, rfl⟩
 have hb2 : Below w.heap.size w W2 := hW2 ▸ more (more (Below.refl _ _) _) _
 have hI : Iz 23 W2 (w.heap.size + 1) (w.heap.size + 1) ((val (xs.drop n) : Nat) : Int) := by
  have := iz_new (e := 23) (t := 221) (w.alloc (.cells #[.slice ao n c] 130))
  rw [World.size_alloc] at this
  rw [hW2, List.drop_of_length_le (by omega)]
  exact this
 have hc : W2.cell? ⟨w.heap.size, 0, none⟩ = some (.slice ao n c) := by rw [hW2]; simp [World.cell?_alloc_some]
 have HD0 : Hid (val xs = val (xs.drop 0)) := Lib.hid (by rw [List.drop_zero])
 clear hlen
 go_enter Tryz.func117, Tryz.ntmps117
 go_wp2
 rw [← hW2]
 clear hW2
 go_loopw [4] (fun iv wr => ∃ j : Nat, j ≤ n ∧ iv = .int .i64 ((j : Int) - 1) ∧ Iz 23 wr (w.heap.size + 1) (w.heap.size + 1) ((val (xs.drop j) : Nat) : Int) ∧ wr.cell? ⟨w.heap.size, 0, none⟩ = some (.slice ao n c) ∧ Below w.heap.size w wr) (fun iv _ => (intOf iv + 1).toNat)
 case atStart => exact ⟨n, Nat.le_refl _, rfl, hI, hc, hb2⟩
 case round =>
  obtain ⟨j, hj, rfl, hI, hc, hW⟩ := hrel
  clear hb2
  by_cases hj0 : j = 0
  · subst hj0
    have j1 : ¬ ((0 : Nat) : Int) - 1 ≥ 0 := by decide
    go_wp2
    go_ret
    exact ⟨_, rfl, by rw [HD0.out]; exact hI.mono (Nat.le_succ _), hW⟩
  · obtain ⟨t, rfl⟩ : ∃ t, j = t + 1 := ⟨j - 1, by omega⟩
    have ej : ((t + 1 : Nat) : Int) - 1 = (t : Int) := by omega
    rw [ej]
    have htn : t < n := by omega
    obtain ⟨g, o, rfl, hg, hcc⟩ := (h.below hW).at_ (by omega)
    have hcell := hcc t htn
    have hlt := nth_lt h.ok t
    have hv := HV.out t htn
    have HVt := Lib.hid hv
    have hl1 := HL.out (t + 1)
    have HT : Hid (t + 1 ≤ n) := Lib.hid hj
    have hgw : g ≠ w.heap.size + 1 := by
     obtain ⟨g', o', e', hg', _⟩ := h.at_ (by omega)
     cases e'
     omega
    generalize val (xs.drop (t + 1)) = V at *
    generalize nth xs t = x at *
    have i1 : (0 : Int) ≤ (t : Int) := by omega
    have i2 : (t : Int) < (n : Int) := by omega
    have i3 : (t : Int) ≥ 0 := by omega
    have hzc := hI.zc
    have hsz := hW.size
    have hbl := hI.lt
    have hLs := bgLsh_any (w.heap.size + 1) (w.heap.size + 1) (w.heap.size + 1) (w.heap.size + 1) 32 (V : Int) wr.drew (hzc.stay (Below.refl _ _).drew) (Nat.le_of_lt hbl) (hI.stay (Below.refl _ _).drew) (by rw [Int.natAbs_natCast]; omega) (by decide)
    rw [show (V : Int) * 2 ^ 32 = ((V * 4294967296 : Nat) : Int) by simp, show ((32 : Nat) : Int) = 32 from rfl] at hLs
    have hwx : IntKind.i64.wrap (x : Int) = (x : Int) := IntWalk.i64_in _ (by omega)
    have hz2 := hzc.stay (Below.refl wr.heap.size wr).drew
    have hN := bgNewZ_any (x : Int)
    have hO : ∀ W B bb, Below w.heap.size w W → Iz 23 W (w.heap.size + 1) (w.heap.size + 1) ((V * 4294967296 : Nat) : Int) → Iz 23 W B bb (x : Int) → Calls Tryz.prog 172 #[.pointer (some ⟨w.heap.size + 1, 0, none⟩), .pointer (some ⟨w.heap.size + 1, 0, none⟩), .pointer (some ⟨bb, 0, none⟩)] W (StZ 23 (w.heap.size + 1) (w.heap.size + 1) ((V * 4294967296 + x : Nat) : Int) W) := fun W B bb hW hi hx =>
     bgOrLow_any (w.heap.size + 1) (w.heap.size + 1) (w.heap.size + 1) B (w.heap.size + 1) bb _ x W hi.zc (Nat.le_of_lt hi.lt) hi hx (by omega) hlt (by
      have e : V * 4294967296 = V * 2 ^ 32 := rfl
      rw [e]
      exact Nat.le_trans (ln_shl V 32) (by omega))
    have hw0 : w.heap.size ≠ w.heap.size + 1 := by omega
    clear hcc hv hl1 ej hj hj0
    go_wp2
    go_region_held3 (fun w' => w'.cell? ⟨w.heap.size, 0, none⟩ = some (.slice (some ⟨g, o, none⟩) n c) ∧ w'.cell? ⟨g, o + t, none⟩ = some (.int .u32 (x : Int)))
     ((first | exact ⟨p2, p3⟩ | exact ⟨o2, o3⟩ | exact ⟨f2, f3⟩ | (go_keep; done)))
     (first
       | (go_at_call 171; (with_reducible refine hLs.mono ?_); rintro en wA hS; have VA := hS.below hW.drew hsz (Nat.le_succ _); have hgA := hS.grown; obtain ⟨rfl, hIA, _⟩ := hS.in_ hz2 (Nat.le_refl _); have f2 := hgA.cell hc (fun e => by injection e with e; exact hw0 e); have f3 := hgA.cell hcell (fun e => by injection e with e; exact hgw e))
       | (go_at_call 118; (with_reducible refine (hN _ ?_).mono ?_); (exact ⟨by omega, by omega⟩); rintro en wB ⟨bb, rfl, hIx, hbB⟩; have o2 := cellStay f2 hbB; have o3 := cellStay f3 hbB; have VB := next VA hbB; have hIB := hIA.stay hbB)
       | (go_at_call 172; (with_reducible refine (hO _ _ _ VB hIB hIx).mono ?_); rintro en wC hS; have VC := hS.below VB VB.size (Nat.le_succ _); have hgC := hS.grown; obtain ⟨rfl, hIC, _⟩ := hS.in_ hIB.zc (Nat.le_refl _); have p2 := hgC.cell o2 (fun e => by injection e with e; exact hw0 e); have p3 := hgC.cell o3 (fun e => by injection e with e; exact hgw e)))
    all_goals
     rw [← HVt.out] at hIC
     go_wp2
     exact ⟨⟨t, by have := HT.out; omega, rfl, hIC, p2, VC⟩, by simp [intOf] <;> omega⟩
theorem in_row {e : TypeId} {w w' : World} {base b : Nat} {s : Bool} {ao : Option Addr} {k c N : Nat} {row : Option Nat} (h : In e w base b s ao k c N) (hg : w.grownBy w' row) (h1 : row ≠ some b) (h2 : ∀ g, row = some g → blkOf ao ≠ some g) : In e w' base b s ao k c N := by
 have hb : w'.heap[b]? = w.heap[b]? := hg.block b h.lt (fun e => h1 e.symm)
 refine ⟨(World.cell?_of_block hb).trans h.c0, (World.cell?_of_block hb).trans h.c1, (World.frozen?_of_block hb).trans h.z0, (World.frozen?_of_block hb).trans h.z1, ?_, h.ne, h.hb⟩
 exact fr_at h.fr hg.size (fun g hgb hgl => hg.block g hgl (fun e => h2 g e.symm hgb))
def lenV : Value → Nat
 | .slice _ n _ => n
 | _ => 0
theorem limbs_take_next (x i : Nat) (h : x / 2 ^ (32 * i) ≠ 0) : (limbs x).take (i + 1) = (limbs x).take i ++ [x / 2 ^ (32 * i) % 4294967296] ∧ i < ln x := by
 have hi : i < ln x := by
  rcases Nat.lt_or_ge i (ln x) with h1 | h1
  · exact h1
  · exfalso
    apply h
    refine Nat.div_eq_of_lt (Nat.lt_of_lt_of_le (ln_lt x) ?_)
    rw [show (4294967296 : Nat) = 2 ^ 32 from rfl, ← Nat.pow_mul]
    exact Nat.pow_le_pow_right (by decide) (by omega)
 refine ⟨?_, hi⟩
 have hn : nth (limbs x) i = x / 2 ^ (32 * i) % 4294967296 := by
  obtain ⟨r, hr⟩ := val_part (limbs x) (i := i) (ok_limbs x)
  rw [val_limbs'] at hr
  have := nth_lt (ok_limbs x) i
  omega
 rw [List.take_succ_eq_append_getElem hi, ← hn]
 unfold nth
 rw [List.getD_eq_getElem?_getD, List.getElem?_eq_getElem hi]
 rfl
theorem limbs_take_done (x i : Nat) (h : x / 2 ^ (32 * i) = 0) : (limbs x).take i = limbs x := by
 refine List.take_of_length_le ?_
 refine limbs_length_le ?_
 rw [show (4294967296 : Nat) = 2 ^ 32 from rfl, ← Nat.pow_mul]
 have hp := Nat.two_pow_pos (32 * i)
 rcases Nat.lt_or_ge x (2 ^ (32 * i)) with h1 | h1
 · exact h1
 · have := Nat.div_pos h1 hp
   omega
theorem rdLimbs_any (B1 b1 x : Nat) (w : World) (h1 : Iz 23 w B1 b1 (x : Int)) (l1 : ln x ≤ 8388608) :
 Calls Tryz.prog 127 #[.pointer (some ⟨b1, 0, none⟩)] w fun e w' => ∃ ao k c, e = .returned (.agg #[.slice ao k c]) ∧ Fr 23 w' w.heap.size ao k c (limbs x) ∧ Below w.heap.size w w' := by
 obtain ⟨i0, hi0, hz0, hz1, hz2⟩ := info_parts u32_infoL
 obtain ⟨W1, hW1⟩ : ∃ W1 : World, W1 = w.alloc (.cells #[.slice none 0 0] 130) := ⟨_, rfl⟩
 have hb1 : Below w.heap.size w W1 := hW1 ▸ more (Below.refl _ _) _
 have hs1 : W1.heap.size = w.heap.size + 1 := by rw [hW1]; simp
 have hc1 : W1.cell? ⟨w.heap.size, 0, none⟩ = some (.slice none 0 0) := by rw [hW1]; simp
 have hz1' : W1.frozen? ⟨w.heap.size, 0, none⟩ = false := by rw [hW1]; simp [go_sem]
 have L1 := Lib.hid l1
 have HS1 := Lib.hid hs1
 clear hs1
 obtain ⟨W2, hW2⟩ : ∃ W2 : World, W2 = W1.alloc (.cells #[.bool false, .slice none 0 0] 221) := ⟨_, rfl⟩
 have hb2 : Below W1.heap.size W1 W2 := hW2 ▸ more (Below.refl _ _) _
 have hZ : Zc W2 (w.heap.size + 1) := by
  have := zc_new W1 221 (.bool false) (.slice none 0 0)
  rw [HS1.out] at this
  rw [hW2]
  exact this
 have hpW : W1.heap.size ≤ w.heap.size + 1 := by rw [HS1.out]; exact Nat.le_refl _
 have hSet := bgSetZ_any (w.heap.size + 1) (w.heap.size + 1) B1 b1 (x : Int) W2 hZ (Nat.le_of_lt hZ.lt) (h1.stay (next hb1 hb2)) (by rw [Int.natAbs_natCast]; have := L1.out; omega)
 clear l1 h1
 go_enter Tryz.func127, Tryz.ntmps127
 go_wp2_with fail
 rw [← hW1, ← hW2]
 clear hW1 hW2
 refine hSet.mono ?_
 rintro e w3 hS
 have hb3 : Below W1.heap.size W1 w3 := hS.below hb2 hb2.size hpW
 obtain ⟨rfl, hI3, _⟩ := hS.in_ hZ (Nat.le_refl _)
 have hc3 := cellStay hc1 hb3
 have hz3 := (hb3.frozen (World.block_lt_of_cell? W1 _ hc1)).trans hz1'
 have W3 := next hb1 hb3
 obtain ⟨an, kn, cn, in3⟩ := iz_nat hI3
 clear hSet hS hI3 hb2 hZ hb3
 go_wp2_with fail
 go_loopw [3] (fun v wr => ∃ (i : Nat) (an : Option Addr) (kn cn : Nat), i ≤ ln x ∧ lenV v = i ∧ wr.ownsRow (w.heap.size + 2) 23 1 v i (lvs ((limbs x).take i)) ∧ In 23 wr (w.heap.size + 1) (w.heap.size + 1) false an kn cn (x / 2 ^ (32 * i)) ∧ (∀ g, v.ownBlock = some g → blkOf an ≠ some g) ∧ wr.cell? ⟨w.heap.size, 0, none⟩ = some (.slice none 0 0) ∧ wr.frozen? ⟨w.heap.size, 0, none⟩ = false ∧ w.heap.size + 2 ≤ wr.heap.size ∧ Below w.heap.size w wr) (fun v _ => ln x - lenV v)
 case atStart => exact ⟨0, an, kn, cn, Nat.zero_le _, rfl, World.ownsRow_nil _ _ _ _, by simpa using in3, (fun g hg => by cases hg), hc3, hz3, in3.lt, W3⟩
 case round =>
  obtain ⟨i, an, kn, cn, hi, hv, ho, hI, hne, hc, hz, hsz, hW⟩ := hrel
  clear in3 hc3 hz3 W3
  have hIz : Iz 23 wr (w.heap.size + 1) (w.heap.size + 1) ((x / 2 ^ (32 * i) : Nat) : Int) := ⟨an, kn, cn, by rw [nonneg_nat, Int.natAbs_natCast]; exact hI⟩
  have hSg := bgSignZ_any (w.heap.size + 1) (w.heap.size + 1) _ wr hIz
  by_cases h0 : x / 2 ^ (32 * i) = 0
  · have hdone := limbs_take_done x i h0
    rw [h0] at hSg
    rw [hdone] at ho
    obtain ⟨ao, c, rfl, hF⟩ := fr_own_any ho (ok_limbs x)
    clear h0 hdone hv hne hIz hI
    go_wp2_with fail
    refine hSg.mono ?_
    rintro e w4 ⟨rfl, rfl⟩
    go_wp2
    have d3 := World.cell?_setCell_same wr ⟨w.heap.size, 0, none⟩ (.slice ao i c) hc
    have F3 := fr_grown hF (grown_set wr w.heap.size 0 (.slice ao i c)) (by omega)
    exact bodyPost_ret (v := .agg #[.slice ao i c]) (by simp [results, Tryz.results127, go_sem, d3]) rfl ⟨ao, i, c, rfl, F3.mono (by omega), hW.setCell (Nat.le_refl _) _⟩
  · have hnx := limbs_take_next x i h0
    have hsg : ((x / 2 ^ (32 * i) : Nat) : Int).sign = 1 := Int.sign_eq_one_of_pos (Int.natCast_pos.2 (Nat.pos_of_ne_zero h0))
    rw [hsg] at hSg
    have hq : x / 2 ^ (32 * i) / 2 ^ 32 = x / 2 ^ (32 * (i + 1)) := by rw [Nat.div_div_eq_div_mul, ← Nat.pow_add, show 32 * i + 32 = 32 * (i + 1) by omega]
    have hlx : ln (x / 2 ^ (32 * i)) ≤ 8388608 := Nat.le_trans (ln_div _ _) L1.out
    have hlim : x / 2 ^ (32 * i) % 4294967296 < 4294967296 := Nat.mod_lt _ (by decide)
    obtain ⟨htk, hil⟩ := hnx
    have HTK := Lib.hid htk
    have HQ := Lib.hid hq
    have HV := Lib.hid hv
    clear htk hq hv hsg h0 hi
    generalize x / 2 ^ (32 * i) = y at *
    generalize hlm : y % 4294967296 = d at *
    have hN := bgNewZ_any 4294967295
    go_wp2_with fail
    refine hSg.mono ?_
    rintro e w4 ⟨rfl, rfl⟩
    clear hSg
    obtain ⟨W5, hW5⟩ : ∃ W5 : World, W5 = wr.alloc (.cells #[.bool false, .slice none 0 0] 221) := ⟨_, rfl⟩
    have hb5 : Below wr.heap.size wr W5 := hW5 ▸ more (Below.refl _ _) _
    have hZ5 : Zc W5 wr.heap.size := by rw [hW5]; exact zc_new _ _ _ _
    go_wp2_with fail
    rw [← hW5]
    clear hW5
    refine (hN _ (by decide)).mono ?_
    rintro e w6 ⟨b6, rfl, hI6, hb6⟩
    have V6 := next hb5 hb6
    have hAnd := bgAndLow_any wr.heap.size wr.heap.size (w.heap.size + 1) W5.heap.size (w.heap.size + 1) b6 y w6 (hZ5.stay hb6) V6.size (hIz.stay V6) hI6
    rw [hlm] at hAnd
    go_wp2_with fail
    refine hAnd.mono ?_
    rintro e w7 hS
    have V7 := hS.below V6 V6.size (Nat.le_refl _)
    obtain ⟨rfl, hI7, _⟩ := hS.in_ (hZ5.stay hb6) (Nat.le_refl _)
    have hU := bgUint64_any wr.heap.size wr.heap.size d w7 hI7 (by omega)
    clear hAnd hS hI6 hb5 hb6 hZ5 V6 hN
    go_wp2_with fail
    refine hU.mono ?_
    rintro e w8 ⟨rfl, rfl⟩
    have ho7 := own_keep ho V7
    have hI7' := hI.stay V7
    have hc7 := cellStay hc V7
    have hz7 := (V7.frozen (World.block_lt_of_cell? wr _ hc)).trans hz
    have W7 := next hW V7
    have hs7 := V7.size
    have hmod : (d : Int) % 4294967296 = (d : Int) := by omega
    have hsl := own_sl (bgOwn_one w7 d) (by intro z hz; simp at hz; omega)
    have hil4 : i ≤ 8388608 := by have := L1.out; omega
    clear hU hI7 V7 ho hI hc hz hIz hlm
    go_wp2_with (at_builtin; refine wpList_append_sl _ rfl (.tmp 13) (.tmp 20) _ rfl (w.heap.size + 2) 23 i0 _ Tryz.underlying128 hi0 hz0 hz1 hz2 rfl _ i ((limbs x).take i) rfl (own_keep ho7 (more (Below.refl _ _) _)) (some ⟨w7.heap.size, 0, none⟩) 1 1 [d] rfl hsl (by omega) (by simp; omega) ?_; intro v' w' hown' hg hat)
    have hA8 : Below w7.heap.size w7 (w7.alloc (.cells #[.int .u32 (d : Int)] 23)) := more (Below.refl _ _) _
    have ho8 := own_keep ho7 hA8
    have hI8 := hI7'.stay hA8
    have hc8 := cellStay hc7 hA8
    have hz8 := (hA8.frozen (World.block_lt_of_cell? w7 _ hc7)).trans hz7
    have W8 := next W7 hA8
    have hrow := ho8.lt
    have hI9 := in_row hI8 hg (fun e => by have := (hrow _ e).1; omega) hne
    have hc9 := hg.cell hc8 (fun e => by have := (hrow _ e.symm).1; simp at this; omega)
    have hz9 := (World.frozen?_of_block (hg.block w.heap.size (World.block_lt_of_cell? _ _ hc8) (fun e => by have := (hrow _ e.symm).1; omega))).trans hz8
    have W9 := grownOwn W8 ho8 (by omega) hg
    have hs9 := hg.size
    simp only [World.size_alloc] at hs9
    have hZ9 := hI9.zc
    have hR := bgRsh_any (w.heap.size + 1) w'.heap.size (w.heap.size + 1) (w.heap.size + 1) 32 y w' hZ9 (Nat.le_refl _) ⟨an, kn, cn, by rw [nonneg_nat, Int.natAbs_natCast]; exact hI9⟩ (by omega) (by decide)
    rw [show ((32 : Nat) : Int) = 32 from rfl, HQ.out] at hR
    have hlt' : ∀ g, v'.ownBlock = some g → w.heap.size + 2 ≤ g ∧ g < w'.heap.size := fun g hg => hown'.lt g hg
    rw [← HTK.out] at hown'
    clear hsl hI8 hc8 hz8 ho8 ho7 hI7' hc7 hz7 W7 W8 hA8 hg hat hne hrow
    go_wp2_with fail
    refine hR.mono ?_
    rintro e w10 hS
    obtain ⟨ao, k, c, w11, rfl, hb11, hF, hn11, rfl⟩ := hS
    rw [nonneg_nat, Int.natAbs_natCast] at *
    have Z11 := hZ9.stay hb11
    have I12 := setIn_in Z11 false (hF.mono (by omega)) hn11 (Nat.le_refl (w.heap.size + 1))
    have G12 := setIn_grown w11 (w.heap.size + 1) false (.slice ao k c)
    have o12 := World.ownsRow.kept (own_keep hown' hb11) G12 (.inr (fun e => by have := (hlt' _ e).1; omega))
    have c12 := G12.cell (cellStay hc9 hb11) (fun e => by injection e with e; have e2 : w.heap.size = w.heap.size + 1 := e; omega)
    have z12 := (World.frozen?_of_block (G12.block w.heap.size (World.block_lt_of_cell? _ _ (cellStay hc9 hb11)) (fun e => by injection e with e; omega))).trans ((hb11.frozen (World.block_lt_of_cell? w' _ hc9)).trans hz9)
    have W12 := (next W9 hb11).grown G12 (next W9 hb11).size (fun k hk => by cases hk; exact Nat.le_succ _)
    have hs12 := G12.size
    have hs11 := hb11.size
    have hne12 : ∀ g, v'.ownBlock = some g → blkOf ao ≠ some g := fun g hg => fr_ne hF (hlt' g hg).2
    have hlen : lenV v' = i + 1 := by
     rcases hown'.2 with ⟨rfl, h⟩ | ⟨g, cap, cur, rfl, _⟩
     · exact absurd h (by omega)
     · rfl
    have HLEN := Lib.hid hlen
    clear hlen
    generalize setIn w11 (w.heap.size + 1) false (.slice ao k c) = w12 at *
    clear hR hZ9 hb11 hF hn11 Z11 G12 hown' hI9 hc9 hz9 W9
    go_wp2
    exact ⟨⟨i + 1, ao, k, c, hil, HLEN.out, o12, I12, hne12, c12, z12, by omega, W12⟩, by rw [HLEN.out, HV.out]; omega⟩
end
section
attribute [local go_sem] Go.World.cell?_alloc_some
def twoB (neg : Bool) (xs : List Nat) (x : Int) : Bool := decide (dchk neg xs x = 0)
theorem two_odd {neg : Bool} {xs : List Nat} {x : Int} (h : chk xs = 0) (hl : xs.length ≠ 0) (h1 : ¬ x > 1073741824) (h2 : ¬ x < -1073741824) : twoB neg xs x = decide (nth xs 0 % 2 = 1) := by
 unfold twoB dchk
 have hf : farB x = false := by unfold farB; simp; omega
 rw [if_neg (by simp [h]), if_neg hl, hf]
 by_cases hx : nth xs 0 % 2 = 0
 · simp [hx]
 · have : nth xs 0 % 2 = 1 := by omega
   simp [this]
end
section
attribute [local go_sem] Go.World.cell?_alloc_some
attribute [local go_sem ↓] Go.wp_at_zero Go.wp_at_succ
def dyN (N : Nat) (x : Int) : Nat := N * 2 ^ (nearZ x (blN N)).toNat
def dyD (N : Nat) (x : Int) : Nat := 1 * 2 ^ (-(nearZ x (blN N))).toNat
def dyErr (e f : Int) (s : Bool) (xs : List Nat) (x : Int) (m : Nat) : Int := if formE e f ≠ 0 then 5 else if twoB s xs x = false then 40 else if 4 < m then 7 else 0
def dyBits (e f : Int) (s : Bool) (xs : List Nat) (x : Int) (neg : Bool) (m : Nat) : Nat := if dyErr e f s xs x m = 0 then sgBits e.toNat f.toNat (dyN (val xs) x) (dyD (val xs) x) s neg m else 0
def dyFlags (e f : Int) (s : Bool) (xs : List Nat) (x : Int) (m : Nat) : Nat := if dyErr e f s xs x m = 0 then sgFlags e.toNat f.toNat (dyN (val xs) x) (dyD (val xs) x) s m else 0
theorem iz_set2 {w : World} {base b p : Nat} {z : Int} (h : Iz 23 w base b z) (hne : b ≠ p) (hd : Hd 23 w p) (u v : Value) : Iz 23 ((w.setCell ⟨p, 0, none⟩ u).setCell ⟨p, 1, none⟩ v) base b z := by
 obtain ⟨ao, k, c, i⟩ := h
 exact ⟨ao, k, c, i.other (grown_trans (grown_set w p 0 u) (grown_set _ p 1 v)) hne (fr_hd i.fr hd)⟩
theorem iz_ne {w : World} {base b p : Nat} {z : Int} {q : Option Addr} (h : Iz 23 w base b z) (hc : w.cell? ⟨p, 0, none⟩ = some (.pointer q)) : b ≠ p := by
 rintro rfl
 obtain ⟨ao, k, c, i⟩ := h
 rw [i.c0] at hc
 cases hc
theorem cell_off2 {w : World} {b i p : Nat} {u v x : Value} (h : w.cell? ⟨b, i, none⟩ = some x) (hne : b ≠ p) : ((w.setCell ⟨p, 0, none⟩ u).setCell ⟨p, 1, none⟩ v).cell? ⟨b, i, none⟩ = some x :=
 (World.cell?_setCell_other _ _ _ _ (fun e => hne (congrArg Addr.block e).symm)).trans ((World.cell?_setCell_other _ _ _ _ (fun e => hne (congrArg Addr.block e).symm)).trans h)
theorem rdDyadic_ok (ao : Option Addr) (n c E F m : Nat) (x : Int) (s neg : Bool) (xs : List Nat) (w : World) (h : Sl w ao n c xs) (hm : m < 5) (l1 : n ≤ 400) (hE2 : 2 ≤ E) (hE11 : E ≤ 11) (hF1 : 1 ≤ F) (hF52 : F ≤ 52) (hf : formE (E : Int) (F : Int) = 0) (hr : twoB s xs x = true) :
 Calls Tryz.prog 75 #[.agg #[.int .i64 (E : Int), .int .i64 (F : Int)], .agg #[.bool s, .slice ao n c, .int .i64 x], .bool neg, .int .u8 (m : Int)] w fun e w' => e = .returned (.tuple #[.int .u64 (sgBits E F (dyN (val xs) x) (dyD (val xs) x) s neg m : Int), .int .u8 (sgFlags E F (dyN (val xs) x) (dyD (val xs) x) s m : Int), .int .i64 0]) ∧ Below w.heap.size w w' := by
 obtain ⟨W2, hW2⟩ : ∃ W2 : World, W2 = (w.alloc (.cells #[.int .i64 (E : Int), .int .i64 (F : Int)] 31)).alloc (.cells #[.bool s, .slice ao n c, .int .i64 x] 132) := ⟨_, rfl⟩
 have hb2 : Below w.heap.size w W2 := hW2 ▸ more (more (Below.refl _ _) _) _
 have c0 : W2.cell? ⟨w.heap.size, 0, none⟩ = some (.int .i64 (E : Int)) := by rw [hW2]; simp [World.cell?_alloc_some]
 have c1 : W2.cell? ⟨w.heap.size, 1, none⟩ = some (.int .i64 (F : Int)) := by rw [hW2]; simp [World.cell?_alloc_some]
 have D2 : Box3 W2 (w.heap.size + 1) (.bool s) (.slice ao n c) (.int .i64 x) := by
  have := box3_new (w.alloc (.cells #[.int .i64 (E : Int), .int .i64 (F : Int)] 31)) (.bool s) (.slice ao n c) (.int .i64 x) 132
  rw [World.size_alloc] at this
  exact hW2 ▸ this
 have hFc := formCheck_any (E : Int) (F : Int) W2
 rw [hf] at hFc
 have hdc : dchk s xs x = 0 := of_decide_eq_true hr
 have hRc : ∀ W, Below w.heap.size w W → Calls Tryz.prog 116 #[.agg #[.bool s, .slice ao n c, .int .i64 x]] W fun e w' => e = .returned (.int .i64 0) ∧ Below W.heap.size W w' := fun W hW => by
  have := dyCheck_any s ao n c x xs W (h.below hW)
  rwa [hdc] at this
 have hL1 : ∀ W, Below w.heap.size w W → Calls Tryz.prog 117 #[.agg #[.slice ao n c]] W (MkZ 23 (val xs : Int) W) := fun W hW => rdLarge_any ao n c xs W (h.below hW) (by omega)
 have hlN : ln (val xs) ≤ 400 := Nat.le_trans (ln_le (val_lt h.ok)) (by rw [h.len]; exact l1)
 have hm4 : ¬ (m : Int) > 4 := by omega
 generalize val xs = N at *
 have m1 := bl_le N
 obtain ⟨nb, hnb⟩ : ∃ nb, nb = blN N := ⟨_, rfl⟩
 obtain ⟨nz, hnz⟩ : ∃ nz, nz = nearZ x (blN N) := ⟨_, rfl⟩
 have hz1 : -14000 ≤ nz ∧ nz ≤ 14000 := by rw [hnz]; unfold nearZ; omega
 have HA : Hid (scN N nz = dyN N x ∧ scD 1 nz = dyD N x) := Lib.hid (by rw [hnz]; exact ⟨rfl, rfl⟩)
 have hNr := fun W => rdNear_any x nb W (by omega)
 rw [hnb, ← hnz, ← hnb] at hNr
 have hB1 : ∀ W BB q, Iz 23 W BB q (N : Int) → Calls Tryz.prog 121 #[.pointer (some ⟨q, 0, none⟩)] W fun e w' => e = .returned (.int .i64 (nb : Int)) ∧ W = w' := fun W BB q hi => by
  have := bgBitLenZ_any q BB (N : Int) W hi (by rw [Int.natAbs_natCast]; omega)
  rw [Int.natAbs_natCast] at this
  rw [hnb]
  exact this
 have hTm : ∀ W b1 b2 B1 B2, Iz 23 W B1 b1 (N : Int) → Iz 23 W B2 b2 1 → Calls Tryz.prog 119 #[.agg #[.pointer (some ⟨b1, 0, none⟩), .pointer (some ⟨b2, 0, none⟩)], .int .i64 nz] W (TmP (scN N nz) (scD 1 nz) W) := fun W b1 b2 B1 B2 i1 i2 => rdTimes_any B1 B2 b1 b2 N 1 nz W i1 i2 (by omega) (by rw [ln_one]; omega) (by omega) (by omega)
 have hNw : ∀ W, Calls Tryz.prog 118 #[.int .i64 1] W (MkZ 23 1 W) := fun W => bgNewZ_any 1 W (by decide)
 have hSg : ∀ W b1 b2 B1 B2, Iz 23 W B1 b1 ((scN N nz : Nat) : Int) → Iz 23 W B2 b2 ((scD 1 nz : Nat) : Int) → Calls Tryz.prog 122 #[.agg #[.int .i64 (E : Int), .int .i64 (F : Int)], .agg #[.pointer (some ⟨b1, 0, none⟩), .pointer (some ⟨b2, 0, none⟩)], .bool s, .bool neg, .int .u8 (m : Int)] W fun e w' => e = .returned (.tuple #[.int .u64 (sgBits E F (dyN N x) (dyD N x) s neg m : Int), .int .u8 (sgFlags E F (dyN N x) (dyD N x) s m : Int), .int .i64 0]) ∧ Below W.heap.size W w' := fun W b1 b2 B1 B2 i1 i2 => by
  have k1 : ln (scN N nz) ≤ 65536 := by
   have := ln_shl N nz.toNat
   unfold scN
   omega
  have k2 : ln (scD 1 nz) ≤ 65536 := by
   have := ln_shl 1 (-nz).toNat
   rw [ln_one] at this
   unfold scD
   omega
  have := rdSigned_any B1 B2 b1 b2 (scN N nz) (scD 1 nz) E F m s neg W i1 i2 (Nat.ne_of_gt (scD_pos (by decide) _)) hm k1 k2 hE2 hE11 hF1 hF52
  rwa [HA.out.1, HA.out.2] at this
 generalize sgBits E F (dyN N x) (dyD N x) s neg m = bb at *
 generalize sgFlags E F (dyN N x) (dyD N x) s m = gg at *
 generalize scN N nz = A at *
 generalize scD 1 nz = B at *
 clear hf hr hdc h l1 HA hnz hnb m1 hz1 hlN
 go_enter Tryz.func75, Tryz.ntmps75
 go_wp2_with fail
 rw [← hW2]
 clear hW2
 refine hFc.mono ?_
 rintro en w3 ⟨rfl, hb3⟩
 have V3 := next hb2 hb3
 have D3 := D2.stay hb3
 have e0 := cellStay c0 hb3
 have e1 := cellStay c1 hb3
 have ⟨d0, d1, d2, _, _, _⟩ := D3
 clear c0 c1 D2 hFc
 go_wp2_with fail
 refine (hRc w3 V3).mono ?_
 rintro en w4 ⟨rfl, hb4⟩
 have V4 := next V3 hb4
 have D4 := D3.stay hb4
 have f0 := cellStay e0 hb4
 have f1 := cellStay e1 hb4
 clear e0 e1 d0 d1 d2 D3 hRc hb3 hb4 hb2
 have ⟨d0, d1, d2, _, _, _⟩ := D4
 go_wp2_with fail
 refine (hL1 w4 V4).mono ?_
 rintro en w5 ⟨q1, rfl, I1, hb5⟩
 clear d0 d1 d2 hL1
 go_wp2_with fail
 refine (hNw w5).mono ?_
 rintro en w6 ⟨q2, rfl, I2, hb6⟩
 have U7 := more (next hb5 hb6) (.cells #[.pointer (some ⟨q1, 0, none⟩), .pointer (some ⟨q2, 0, none⟩)] 176)
 have I1' := (I1.stay hb6).stay (more (Below.refl _ _) (.cells #[.pointer (some ⟨q1, 0, none⟩), .pointer (some ⟨q2, 0, none⟩)] 176))
 have I2' := I2.stay (more (Below.refl _ _) (.cells #[.pointer (some ⟨q1, 0, none⟩), .pointer (some ⟨q2, 0, none⟩)] 176))
 have p0 : (w6.alloc (.cells #[.pointer (some ⟨q1, 0, none⟩), .pointer (some ⟨q2, 0, none⟩)] 176)).cell? ⟨w6.heap.size, 0, none⟩ = some (.pointer (some ⟨q1, 0, none⟩)) := by simp
 have p1 : (w6.alloc (.cells #[.pointer (some ⟨q1, 0, none⟩), .pointer (some ⟨q2, 0, none⟩)] 176)).cell? ⟨w6.heap.size, 1, none⟩ = some (.pointer (some ⟨q2, 0, none⟩)) := by simp
 have z0 : (w6.alloc (.cells #[.pointer (some ⟨q1, 0, none⟩), .pointer (some ⟨q2, 0, none⟩)] 176)).frozen? ⟨w6.heap.size, 0, none⟩ = false := by simp [go_sem]
 have z1 : (w6.alloc (.cells #[.pointer (some ⟨q1, 0, none⟩), .pointer (some ⟨q2, 0, none⟩)] 176)).frozen? ⟨w6.heap.size, 1, none⟩ = false := by simp [go_sem]
 have Hp : Hd 23 (w6.alloc (.cells #[.pointer (some ⟨q1, 0, none⟩), .pointer (some ⟨q2, 0, none⟩)] 176)) w6.heap.size := hd_new w6 _ (by decide)
 have hpl : w6.heap.size < (w6.alloc (.cells #[.pointer (some ⟨q1, 0, none⟩), .pointer (some ⟨q2, 0, none⟩)] 176)).heap.size := by simp
 have hwp : w.heap.size ≤ w6.heap.size := Nat.le_trans V4.size (next hb5 hb6).size
 have hwp2 : w.heap.size + 1 < w6.heap.size := Nat.lt_of_lt_of_le D4.lt (next hb5 hb6).size
 go_upto_region 8 with fail
 obtain ⟨p, hp⟩ : ∃ p, p = w6.heap.size := ⟨_, rfl⟩
 rw [← hp] at p0 p1 z0 z1 Hp hpl hwp hwp2 ⊢
 clear hp I1 I2 hb5 hb6 hNw
 generalize w6.alloc (.cells #[.pointer (some ⟨q1, 0, none⟩), .pointer (some ⟨q2, 0, none⟩)] 176) = w7 at U7 I1' I2' p0 p1 z0 z1 Hp hpl ⊢
 have D7 := D4.stay U7
 have g0 := cellStay f0 U7
 have g1 := cellStay f1 U7
 have V7 := next V4 U7
 clear f0 f1 D4 U7 V4
 have lD := D7.lt
 have lF := World.block_lt_of_cell? w7 ⟨w.heap.size, 0, none⟩ g0
 have x2 := D7.c2
 go_cut [] from 28 (fun wx => ∃ b1 b2, wx.cell? ⟨p, 0, none⟩ = some (.pointer (some ⟨b1, 0, none⟩)) ∧ wx.cell? ⟨p, 1, none⟩ = some (.pointer (some ⟨b2, 0, none⟩)) ∧ Iz 23 wx 0 b1 (A : Int) ∧ Iz 23 wx 0 b2 (B : Int) ∧ Below w.heap.size w wx ∧ wx.cell? ⟨w.heap.size, 0, none⟩ = some (.int .i64 (E : Int)) ∧ wx.cell? ⟨w.heap.size, 1, none⟩ = some (.int .i64 (F : Int)) ∧ wx.cell? ⟨w.heap.size + 1, 0, none⟩ = some (.bool s))
 case first =>
  go_region_with (first
   | (go_at_call 121; (with_reducible refine (hB1 _ _ _ (I1'.stay ?_)).mono ?_); (first | exact Below.refl _ _ | exact (Below.refl _ _).drew | exact (Below.refl _ _).drew.drew); rintro en wB ⟨rfl, rfl⟩)
   | (go_at_call 120; (with_reducible refine (hNr _).mono ?_); rintro en wB ⟨rfl, rfl⟩)
   | (go_at_call 119; (with_reducible refine (hTm _ _ _ _ _ (I1'.stay ?_) (I2'.stay ?_)).mono ?_); (focus (first | exact Below.refl _ _ | exact (Below.refl _ _).drew | exact (Below.refl _ _).drew.drew)); (focus (first | exact Below.refl _ _ | exact (Below.refl _ _).drew | exact (Below.refl _ _).drew.drew)); rintro en wC ⟨b1, b2, rfl, J1, J2, hbC⟩; have hC : Below w7.heap.size w7 wC := (by first | exact hbC | exact undrew hbC | exact undrew (undrew hbC)); have t0 := cellStay p0 hC; have t1 := cellStay p1 hC; have y0 := (hC.frozen (p := ⟨p, 0, none⟩) hpl).trans z0; have y1 := (hC.frozen (p := ⟨p, 1, none⟩) hpl).trans z1; have HC := Hp.stay hpl hC; have s0 := cellStay g0 hC; have s1 := cellStay g1 hC; have s2 := cellStay D7.c0 hC))
  all_goals go_wp2
  all_goals go_meet
  all_goals exact ⟨b1, b2, (World.cell?_setCell_other _ _ _ _ (by simp)).trans (World.cell?_setCell_same _ _ _ t0), World.cell?_setCell_same _ _ _ ((World.cell?_setCell_other _ _ _ _ (by simp)).trans t1), iz_set2 J1 (iz_ne J1 t0) HC _ _, iz_set2 J2 (iz_ne J2 t0) HC _ _, ((next V7 hC).setCell hwp _).setCell hwp _, (cell_off2 s0 (by omega)), (cell_off2 s1 (by omega)), (cell_off2 s2 (by omega))⟩
 case rest =>
  obtain ⟨b1, b2, t0, t1, J1, J2, Vx, s0, s1, s2⟩ := hcut
  go_wp2_with fail
  refine (hSg _ _ _ _ _ J1 J2).mono ?_
  rintro en w9 ⟨rfl, hb9⟩
  go_wp2
  go_ret3
  exact ⟨rfl, next Vx hb9⟩
end
theorem pw_is (k : Nat) : pw k = 2 ^ k := by unfold pw; rfl
theorem bias_is (E : Nat) : biasN E = bsN E := by unfold biasN bsN; rfl
theorem flt_of {E F b : Nat} (hE : 2 ≤ E) (hx : exN E F b ≠ maskN E) : Flt E F (exN E F b) (frN F b) (vN E F b) (vX E F b) := by
 have h1 : exN E F b < 2 ^ E := by rw [← pw_is]; exact exN_lt E F b
 have h2 : frN F b < 2 ^ F := by rw [← pw_is]; unfold frN; exact takeN_lt b 0 F
 have h3 : 2 ^ E = 2 * 2 ^ (E - 1) := by
  rw [show 2 * 2 ^ (E - 1) = 2 ^ (E - 1) * 2 by omega, ← Nat.pow_succ]
  congr 1
  omega
 have h4 := Nat.two_pow_pos (E - 1)
 refine ⟨h2, ?_, by unfold vN; rw [pw_is], by unfold vX; rw [bias_is]⟩
 unfold maskN at hx
 unfold bsN
 omega
theorem bits_parts {E F b : Nat} (hb : b < pw (1 + E + F)) : exN E F b * 2 ^ F + frN F b + (if sgB E F b = true then 2 ^ (E + F) else 0) = b ∧ sgB E F b = decide (2 ^ (E + F) ≤ b) := by
 have hP : 0 < 2 ^ F := Nat.two_pow_pos F
 have hQ : 0 < 2 ^ E := Nat.two_pow_pos E
 have e1 : frN F b = b % 2 ^ F := by unfold frN takeN; rw [pw_zero, Nat.div_one, pw_is]
 have e2 : exN E F b = b / 2 ^ F % 2 ^ E := by unfold exN takeN; rw [pw_is, pw_is]
 have e3 : takeN b (F + E) 1 = b / 2 ^ F / 2 ^ E % 2 := by
  unfold takeN
  rw [pw_add, Nat.div_div_eq_div_mul, pw_is, pw_is, pw_is, Nat.pow_one]
 have hs : sgB E F b = decide (b / 2 ^ F / 2 ^ E % 2 ≠ 0) := by unfold sgB; rw [e3]
 have hPQ : 2 ^ (E + F) = 2 ^ F * 2 ^ E := by rw [Nat.add_comm, Nat.pow_add]
 have hb2 : b < 2 ^ F * 2 ^ E * 2 := by
  rw [pw_is] at hb
  rw [show 1 + E + F = F + E + 1 by omega, Nat.pow_succ, Nat.pow_add] at hb
  exact hb
 have hq : b / 2 ^ F / 2 ^ E < 2 := by
  rw [Nat.div_div_eq_div_mul]
  exact Nat.div_lt_of_lt_mul hb2
 have hge : 2 ^ F * 2 ^ E ≤ b ↔ 1 ≤ b / 2 ^ F / 2 ^ E := by
  rw [Nat.div_div_eq_div_mul, Nat.le_div_iff_mul_le (Nat.mul_pos hP hQ), Nat.one_mul]
 have d1 := Nat.div_add_mod b (2 ^ F)
 have d2 := Nat.div_add_mod (b / 2 ^ F) (2 ^ E)
 rw [e1, e2, hs, hPQ]
 have hm : b / 2 ^ F % 2 ^ E * 2 ^ F + 2 ^ F * 2 ^ E * (b / 2 ^ F / 2 ^ E) = 2 ^ F * (b / 2 ^ F) := by
  conv => rhs; rw [← d2]
  rw [Nat.mul_add, Nat.mul_comm (b / 2 ^ F % 2 ^ E), Nat.mul_assoc, Nat.add_comm]
 generalize b / 2 ^ F / 2 ^ E = q at *
 have hq2 : q = 0 ∨ q = 1 := by omega
 rcases hq2 with rfl | rfl
 · have h5 : ¬ 2 ^ F * 2 ^ E ≤ b := fun h => by have := hge.1 h; omega
   constructor
   · simp
     omega
   · rw [decide_eq_false h5]
     rfl
 · have h5 : 2 ^ F * 2 ^ E ≤ b := hge.2 (Nat.le_refl _)
   constructor
   · simp
     omega
   · rw [decide_eq_true h5]
     rfl
theorem chk_small {N : Nat} (h : N < 4294967296 ^ 400) : chk (limbs N) = 0 := by
 have hl : (limbs N).length ≤ 400 := ln_le h
 unfold chk
 rw [if_neg (by omega), if_neg]
 rintro ⟨h1, h2⟩
 exact fine_top (fine_limbs N) (by omega) h2
theorem val_facts {E F b : Nat} (hE : 2 ≤ E) (h11 : E ≤ 11) (hF : F ≤ 52) (h : fitsE (E : Int) (F : Int) b = 0) (hx : exN E F b ≠ maskN E) :
 valE (E : Int) (F : Int) b = 0 ∧ ((vN E F b = 0 ∧ valN (E : Int) (F : Int) b = 0 ∧ valX (E : Int) (F : Int) b = 0 ∧ valS (E : Int) (F : Int) b = false) ∨
  (vN E F b ≠ 0 ∧ ∃ t n : Nat, vN E F b = 2 ^ t * n ∧ n % 2 = 1 ∧ valN (E : Int) (F : Int) b = n ∧ valX (E : Int) (F : Int) b = vX E F b + (t : Int) ∧ valS (E : Int) (F : Int) b = sgB E F b ∧ t ≤ F ∧ n < 2 ^ 53 ∧ -1074 ≤ vX E F b ∧ vX E F b + F ≤ 1023)) := by
 obtain ⟨v1, v2, v3, v4⟩ := val_yes h hx
 have hf := flt_of hE hx
 have f1 := hf.hr
 have f2 := hf.he
 have f3 := hf.hm
 have f4 := hf.hx
 have hbs : bsN E ≤ 1023 := by
  unfold bsN
  have : 2 ^ (E - 1) ≤ 2 ^ 10 := Nat.pow_le_pow_right (by decide) (by omega)
  omega
 have hM : vN E F b < 2 ^ (F + 1) := by rw [Nat.pow_succ]; split at f3 <;> omega
 have hM53 : 2 ^ (F + 1) ≤ 2 ^ 53 := Nat.pow_le_pow_right (by decide) (by omega)
 have hX1 : -1074 ≤ vX E F b := by split at f4 <;> omega
 have hX2 : vX E F b + F ≤ 1023 := by split at f4 <;> omega
 have hc : chk (limbs (vN E F b)) = 0 := chk_small (Nat.lt_of_lt_of_le hM (Nat.le_trans hM53 (by decide +kernel)))
 rw [v1, v2, v3, v4]
 by_cases h0 : vN E F b = 0
 · obtain ⟨m1, m2⟩ := mk_zero (x := vX E F b) hc (by rw [val_limbs']; exact h0)
   obtain ⟨m3, m4, m5⟩ := mk_no (sgB E F b) m1
   exact ⟨m2, .inl ⟨h0, m3, m4, m5⟩⟩
 · obtain ⟨k, hk⟩ := tz_spec h0
   have ht : tz (vN E F b) ≤ F := by
    have h5 := two_pow_tz_le h0
    have h6 : 2 ^ tz (vN E F b) < 2 ^ (F + 1) := Nat.lt_of_le_of_lt h5 hM
    have := (Nat.pow_lt_pow_iff_right (by decide : 1 < 2)).1 h6
    omega
   have hB : mkB (limbs (vN E F b)) (vX E F b) = true := by
    unfold mkB
    rw [val_limbs']
    exact decide_eq_true ⟨hc, h0, by omega, by omega, by omega, by omega⟩
   obtain ⟨m1, m2, m3, m4⟩ := mk_yes (sgB E F b) hB
   rw [val_limbs'] at m1 m2
   have hd : vN E F b / 2 ^ tz (vN E F b) = 2 * k + 1 := by
    conv => lhs; arg 1; rw [hk]
    exact Nat.mul_div_cancel_left _ (Nat.two_pow_pos _)
   have hn : 2 * k + 1 < 2 ^ 53 := by
    rw [← hd]
    exact Nat.lt_of_le_of_lt (Nat.div_le_self _ _) (Nat.lt_of_lt_of_le hM hM53)
   exact ⟨m4, .inr ⟨h0, tz (vN E F b), 2 * k + 1, hk, by omega, by rw [m1, hd], m2, m3, ht, hn, hX1, hX2⟩⟩
theorem up_shift (n t : Nat) (X : Int) : upN n (X + t) * upD X = upN (2 ^ t * n) X * upD (X + t) := by
 unfold upN upD
 rw [Nat.mul_assoc, ← Nat.pow_add, Nat.mul_comm (2 ^ t) n, Nat.mul_assoc, Nat.mul_assoc, ← Nat.pow_add, ← Nat.pow_add]
 congr 2
 omega
theorem near_in {X : Int} {b : Nat} (h1 : -1074 ≤ X) (h2 : X ≤ 1023) : nearZ X b = X := by unfold nearZ; omega
theorem odd_low {n : Nat} (h : n % 2 = 1) : nth (limbs n) 0 % 2 = 1 ∧ (limbs n).length ≠ 0 := by
 rw [limbs_pos (by omega)]
 refine ⟨?_, by simp⟩
 show n % 4294967296 % 2 = 1
 omega
theorem up_small {n : Nat} {X : Int} (hn : n < 2 ^ 53) (h1 : -1074 ≤ X) (h2 : X ≤ 1023) : ln (upN n X) ≤ 34 ∧ ln (upD X) ≤ 34 := by
 obtain ⟨k, hk⟩ : ∃ k, k = 1035 := ⟨_, rfl⟩
 obtain ⟨j, hj⟩ : ∃ j, j = 34 := ⟨_, rfl⟩
 have e : (4294967296 : Nat) ^ j = 2 ^ (53 + k) := (pow32 j).trans (congrArg (fun q => 2 ^ q) (by omega))
 rw [← hj]
 constructor
 · refine ln_le ?_
   rw [e, Nat.pow_add]
   unfold upN
   exact Nat.mul_lt_mul_of_lt_of_le hn (Nat.pow_le_pow_right (by decide) (by omega)) (Nat.two_pow_pos _)
 · refine ln_le ?_
   rw [e]
   unfold upD
   exact Nat.pow_lt_pow_right (by decide) (by omega)
theorem worth_facts {E F b m : Nat} (hE : 2 ≤ E) (h11 : E ≤ 11) (hF : F ≤ 52) (h : fitsE (E : Int) (F : Int) b = 0) (hb : b < pw (1 + E + F)) (hx : exN E F b ≠ maskN E) :
 valE (E : Int) (F : Int) b = 0 ∧ ∃ (n : Nat) (X : Int) (s : Bool), valN (E : Int) (F : Int) b = n ∧ valX (E : Int) (F : Int) b = X ∧ valS (E : Int) (F : Int) b = s ∧
  dchk s (limbs n) X = 0 ∧ n < 2 ^ 53 ∧ -1074 ≤ X ∧ X ≤ 1023 ∧ Nat.gcd (upN n X) (upD X) = 1 ∧ (s = true → upN n X ≠ 0) ∧
  ∀ N D, D ≠ 0 → N * upD X = upN n X * D → sgBits E F N D s (decide (2 ^ (E + F) ≤ b)) m = b ∧ sgFlags E F N D s m = 0 := by
 have hf := flt_of hE hx
 obtain ⟨p1, p2⟩ := bits_parts hb
 obtain ⟨v0, hv⟩ := val_facts hE h11 hF h hx
 refine ⟨v0, ?_⟩
 rcases hv with ⟨h0, v1, v2, v3⟩ | ⟨h0, t, n, ht, hn, v1, v2, v3, htF, hn53, hX1, hX2⟩
 · refine ⟨0, 0, false, v1, v2, v3, by decide, by decide, by decide, by decide, by decide, (fun h => by cases h), fun N D hD hc => ?_⟩
   have hN : N = 0 := by
    have : upN 0 0 = 0 := rfl
    rw [this, Nat.zero_mul] at hc
    rcases Nat.mul_eq_zero.1 hc with h | h
    · exact h
    · exact absurd h (upD_pos 0)
   have := hf.round hE (N := N) hD (by rw [hN]; unfold upN; rw [h0]; omega) (sgB E F b) (decide (2 ^ (E + F) ≤ b)) m (fun _ => p2.symm)
   rw [if_pos h0, p1] at this
   exact this
 · have hne : n ≠ 0 := by omega
   obtain ⟨o1, o2⟩ := odd_low hn
   refine ⟨n, vX E F b + t, sgB E F b, v1, v2, v3, ?_, hn53, by omega, by omega, ?_, fun _ => upN_ne hne _, fun N D hD hc => ?_⟩
   · unfold dchk
     rw [if_neg (by rw [chk_small (Nat.lt_of_lt_of_le hn53 (by decide +kernel))]; simp), if_neg o2, if_neg]
     rintro (h | h)
     · omega
     · have := of_decide_eq_true h
       omega
   · by_cases hp : 0 ≤ vX E F b + t
     · have : upD (vX E F b + t) = 1 := by unfold upD; rw [show (-(vX E F b + (t : Int))).toNat = 0 by omega, Nat.pow_zero]
       rw [this, Nat.gcd_one_right]
     · have e1 : upN n (vX E F b + t) = n := by unfold upN; rw [show (vX E F b + (t : Int)).toNat = 0 by omega, Nat.pow_zero, Nat.mul_one]
       have e2 : tz n = 0 := tz_unique (m := n / 2) (by rw [Nat.pow_zero]; omega)
       rw [e1]
       unfold upD
       rw [gcd_pow hne, e2, Nat.zero_min, Nat.pow_zero]
   · have hs := up_shift n t (vX E F b)
     rw [← ht] at hs
     have hcr : N * upD (vX E F b) = upN (vN E F b) (vX E F b) * D := by
      refine Nat.eq_of_mul_eq_mul_right (Nat.pos_of_ne_zero (upD_pos (vX E F b + t))) ?_
      calc N * upD (vX E F b) * upD (vX E F b + t) = N * upD (vX E F b + t) * upD (vX E F b) := Nat.mul_right_comm _ _ _
       _ = upN n (vX E F b + t) * D * upD (vX E F b) := by rw [hc]
       _ = upN n (vX E F b + t) * upD (vX E F b) * D := Nat.mul_right_comm _ _ _
       _ = upN (vN E F b) (vX E F b) * upD (vX E F b + t) * D := by rw [hs]
       _ = upN (vN E F b) (vX E F b) * D * upD (vX E F b + t) := Nat.mul_right_comm _ _ _
     have := hf.round hE hD hcr (sgB E F b) (decide (2 ^ (E + F) ≤ b)) m (fun h => absurd h h0)
     rw [if_neg h0, p1] at this
     exact this
end Go.Proofs.YtoiifhmepniniaaGreatDoor
namespace Go.Lb
open Go.RowKit Go.Proofs.YtoiifhmepniniaaGreatDoor
def sgZ (s : Bool) (R : Nat) : Int := if s = true then -(R : Int) else (R : Int)
end Go.Lb
namespace Go.Proofs.YtoiifhmepniniaaGreatDoor
open Go.RowKit Go.Lb
def wrQ (E F b : Nat) : Rat := sgQ' (valS (E : Int) (F : Int) b) (upN (valN (E : Int) (F : Int) b) (valX (E : Int) (F : Int) b)) (upD (valX (E : Int) (F : Int) b))
theorem sgQ_up (s : Bool) (n : Nat) (X : Int) : sgQ' s (upN n X) (upD X) = ((sgZ s n : Int) : Rat) * p2 X := by
 rw [mul_p2, Rat.num_intCast]
 unfold sgQ' upN upD scD
 rw [Rat.den_intCast, Nat.one_mul]
 congr 1
 unfold sgZ
 cases s
 · simp
 · simp [Int.neg_mul]
theorem worth_rat {E F M b : Nat} {l : Int} {s : Bool} (hE : 2 ≤ E) (h11 : E ≤ 11) (hF : F ≤ 52) (hfit : fitsE (E : Int) (F : Int) b = 0) (hx : exN E F b ≠ maskN E) (hsg : sgB E F b = s) (hv : vN E F b = M ∧ vX E F b = l - F ∨ M = 2 * vN E F b ∧ vX E F b = l - F + 1) :
 wrQ E F b = ((sgZ s M : Int) : Rat) * p2 (l - F) := by
 have two : p2 1 = ((2 : Int) : Rat) := p2_cast 1
 have key : ((sgZ s (vN E F b) : Int) : Rat) * p2 (vX E F b) = ((sgZ s M : Int) : Rat) * p2 (l - F) := by
  rcases hv with ⟨h1, h2⟩ | ⟨h1, h2⟩
  · rw [h1, h2]
  · rw [h2, p2_add, two, h1, Rat.mul_comm (p2 _), ← Rat.mul_assoc, ← Rat.intCast_mul]
    congr 2
    unfold sgZ
    split <;> omega
 rw [← key]
 obtain ⟨_, hv⟩ := val_facts hE h11 hF hfit hx
 unfold wrQ
 rw [sgQ_up]
 rcases hv with ⟨h0, v1, v2, v3⟩ | ⟨h0, t, n, ht, hn, v1, v2, v3, _⟩
 · rw [v1, h0]
   have e0 : ∀ s, sgZ s 0 = 0 := fun s => by cases s <;> rfl
   rw [e0, e0, Rat.intCast_zero, Rat.zero_mul, Rat.zero_mul]
 · rw [v1, v2, v3, hsg, p2_add, p2_cast, ht, Rat.mul_comm (p2 _), ← Rat.mul_assoc, ← Rat.intCast_mul]
   congr 2
   unfold sgZ
   split
   · rw [Nat.mul_comm, Int.neg_mul]; push_cast; rfl
   · rw [Nat.mul_comm]; push_cast; rfl
theorem fits_bits {E F b : Nat} (hf : formE (E : Int) (F : Int) = 0) (hb : b < pw (1 + E + F)) : fitsE (E : Int) (F : Int) b = 0 := by
 unfold fitsE
 rw [if_neg (by simp [hf]), if_pos (by simpa using hb)]
end Go.Proofs.YtoiifhmepniniaaGreatDoor
