/-
  Plain: what a dyadic is worth, told in units of a power of two; the worth of sums, products, opposites; their order.
-/
import Derived.Test.YtfjgmpfpadfknaaGreatDoorQbNSumNs
namespace Go.Proofs.YtfjgmpfpadfknaaGreatDoor
open Go.RowKit Go.Lb
def sgI (s : Bool) (n : Nat) : Int := if s = true then -(n : Int) else (n : Int)
def upW (N : Nat) (x b : Int) : Nat := N * 2 ^ (x - b).toNat
def wI (s : Bool) (N : Nat) (x b : Int) : Int := sgI s (upW N x b)
structure Dy (s : Bool) (N : Nat) (x : Int) : Prop where
 zero : N = 0 → s = false ∧ x = 0
 odd : N ≠ 0 → N % 2 = 1
 lo : -1073741824 ≤ x
 hi : x ≤ 1073741824
 len : (limbs N).length ≤ 16384
theorem sgI_zero {s : Bool} {n : Nat} : sgI s n = 0 ↔ n = 0 := by
 unfold sgI
 split <;> omega
theorem sgI_abs (s : Bool) (n : Nat) : (sgI s n).natAbs = n := by
 unfold sgI
 split <;> omega
theorem sgI_mul (s t : Bool) (m n : Nat) : sgI (s != t) (m * n) = sgI s m * sgI t n := by
 unfold sgI
 cases s <;> cases t <;> simp [Int.neg_mul, Int.mul_neg]
theorem len_mono {S T k : Nat} (h : (limbs T).length ≤ k) (hs : S ≤ T) : (limbs S).length ≤ k := by
 rw [limbs_length_le_iff] at h ⊢
 exact Nat.lt_of_le_of_lt hs h
theorem len_pow {S k K : Nat} (h : S < 2 ^ K) (hk : K ≤ 32 * k) : (limbs S).length ≤ k := by
 rw [len_big]
 exact Nat.lt_of_lt_of_le h (Nat.pow_le_pow_right (by decide) hk)
theorem upW_zero (x b : Int) : upW 0 x b = 0 := by
 unfold upW
 omega
theorem wI_zero (s : Bool) (x b : Int) : wI s 0 x b = 0 := by
 unfold wI
 rw [upW_zero]
 unfold sgI
 split <;> omega
theorem upW_pos {N : Nat} {x b : Int} (h : N ≠ 0) : 0 < upW N x b := Nat.mul_pos (by omega) (Nat.two_pow_pos _)
theorem upW_down {N : Nat} {x m b : Int} (h : m ≤ x) (hb : b ≤ m) : upW N x b = upW N x m * 2 ^ (m - b).toNat := by
 unfold upW
 rw [Nat.mul_assoc, ← Nat.pow_add]
 congr 2
 omega
theorem nth0_limbs {N : Nat} : nth (limbs N) 0 % 2 = N % 2 := by
 have hb := bitL_eq (ok_limbs N) 0
 unfold bitL at hb
 simp only [Nat.zero_div, Nat.zero_mod, Nat.pow_zero, Nat.div_one] at hb
 rw [hb, val_limbs']
theorem Dy.chk {s : Bool} {N : Nat} {x : Int} (h : Dy s N x) : dchk s (limbs N) x = 0 := by
 have hc := chk_limbs h.len
 unfold dchk
 rw [if_neg (by simp [hc])]
 by_cases h0 : N = 0
 · obtain ⟨rfl, rfl⟩ := h.zero h0
   rw [if_pos (by rw [h0]; rfl), if_neg (by simp)]
 · rw [if_neg (fun hl => h0 (limbs_eq_nil.1 (List.length_eq_zero_iff.1 hl))), if_neg]
   rw [nth0_limbs, h.odd h0]
   unfold farB
   have h1 := h.lo
   have h2 := h.hi
   have : ¬ (x < -1073741824 ∨ 1073741824 < x) := by omega
   simp [this]
theorem dy_zero : Dy false 0 0 := ⟨fun _ => ⟨rfl, rfl⟩, fun h => absurd rfl h, by decide, by decide, by decide⟩
theorem dy_one {s t : Bool} {N M : Nat} {x y b : Int} (h1 : Dy s N x) (h2 : Dy t M y) (hx : N ≠ 0 → b ≤ x) (hy : M ≠ 0 → b ≤ y) (h : wI s N x b = wI t M y b) : s = t ∧ N = M ∧ x = y := by
 have hu : upW N x b = upW M y b := by
  have := congrArg Int.natAbs h
  unfold wI at this
  rwa [sgI_abs, sgI_abs] at this
 by_cases h0 : N = 0
 · have hM : M = 0 := Classical.byContradiction fun hM => by
    have := upW_pos (x := y) (b := b) hM
    rw [h0, upW_zero] at hu
    omega
   obtain ⟨rfl, rfl⟩ := h1.zero h0
   obtain ⟨rfl, rfl⟩ := h2.zero hM
   exact ⟨rfl, by omega, rfl⟩
 · have hM : M ≠ 0 := fun hM => by
    have := upW_pos (x := x) (b := b) h0
    rw [hM, upW_zero] at hu
    omega
   have o1 := h1.odd h0
   have o2 := h2.odd hM
   have hp := upW_pos (x := x) (b := b) h0
   have hs : s = t := by
    unfold wI sgI at h
    cases s <;> cases t <;> simp at h ⊢ <;> omega
   have g1 := hx h0
   have g2 := hy hM
   obtain ⟨i, hi⟩ := Int.eq_ofNat_of_zero_le (show 0 ≤ x - b by omega)
   obtain ⟨j, hj⟩ := Int.eq_ofNat_of_zero_le (show 0 ≤ y - b by omega)
   unfold upW at hu
   rw [hi, hj, Int.toNat_natCast, Int.toNat_natCast] at hu
   have e1 : tz (N * 2 ^ i) = i := tz_unique (m := N / 2) (by rw [Nat.mul_comm]; congr 1; omega)
   have e2 : tz (M * 2 ^ j) = j := tz_unique (m := M / 2) (by rw [Nat.mul_comm]; congr 1; omega)
   have hij : i = j := by rw [← e1, ← e2, hu]
   subst hij
   exact ⟨hs, Nat.eq_of_mul_eq_mul_right (Nat.two_pow_pos i) hu, by omega⟩
structure Wo (d : Ds) (b : Int) (W : Int) : Prop where
 dy : Dy d.s d.N d.x
 low : d.N ≠ 0 → b ≤ d.x
 wo : wI d.s d.N d.x b = W
theorem Wo.one {d f : Ds} {b W : Int} (h : Wo d b W) (g : Wo f b W) : d.s = f.s ∧ d.N = f.N ∧ d.x = f.x :=
 dy_one h.dy g.dy h.low g.low (h.wo.trans g.wo.symm)
theorem wo_zero {b W : Int} {e : Int} (h : W = 0) : Wo ⟨false, 0, 0, e⟩ b W := ⟨dy_zero, fun hh => absurd rfl hh, by rw [h]; exact wI_zero _ _ _⟩
theorem tz_part {S : Nat} (h : S ≠ 0) : S / 2 ^ tz S * 2 ^ tz S = S := by
 obtain ⟨m, hm⟩ := tz_spec h
 exact Nat.div_mul_cancel ⟨2 * m + 1, hm⟩
theorem mkA_zero (s : Bool) (x : Int) : mkA s 0 x = noA 0 := by
 have hc : chk (limbs 0) = 0 := rfl
 obtain ⟨h1, h2⟩ := mk_zero (x := x) hc rfl
 obtain ⟨g1, g2, g3⟩ := mk_no s h1
 unfold mkA noA
 rw [g1, g2, g3, h2]
theorem mkA_worth {s : Bool} {S : Nat} {x b : Int} (h : (limbs S).length ≤ 16384) (hb : S ≠ 0 → b ≤ x) (he : (mkA s S x).e = 0) : Wo (mkA s S x) b (wI s S x b) := by
 by_cases h0 : S = 0
 · subst h0
   rw [mkA_zero]
   exact wo_zero (wI_zero _ _ _)
 · have hB : mkB (limbs S) x = true := by
    cases hh : mkB (limbs S) x
    · have := mk_many (chk_limbs h) (by rw [val_limbs']; exact h0) hh
      change mkE (limbs S) x = 0 at he
      rw [this] at he
      cases he
    · rfl
   obtain ⟨g1, g2, g3, g4⟩ := mk_yes s hB
   have hB' := of_decide_eq_true hB
   rw [val_limbs'] at hB' g1 g2
   unfold mkA
   rw [g1, g2, g3, g4]
   have hp := tz_part h0
   have ho := tz_odd h0
   refine ⟨⟨fun hz => ?_, fun _ => ho, hB'.2.2.2.2.1, hB'.2.2.2.2.2, ?_⟩, fun _ => ?_, ?_⟩
   · simp only at hz
     rw [hz] at ho
     cases ho
   · exact len_mono h (Nat.div_le_self _ _)
   · have := hb h0
     simp only
     omega
   · have := hb h0
     unfold wI upW
     simp only
     rw [show (x + (tz S : Int) - b).toNat = tz S + (x - b).toNat by omega, Nat.pow_add, ← Nat.mul_assoc, hp]
theorem lvN_up {N : Nat} {x y b : Int} (hx : b ≤ x) (hy : b ≤ y) : upW N x b = lvN N x y * 2 ^ (min x y - b).toNat := by
 have := upW_down (N := N) (x := x) (m := min x y) (b := b) (by omega) (by omega)
 rw [this]
 rfl
theorem addA_dy {s t : Bool} {N M : Nat} {x y : Int} (h1 : Dy s N x) (h2 : Dy t M y) : addA s (limbs N) x t (limbs M) y =
 if N = 0 then ⟨t, M, y, 0⟩ else if M = 0 then ⟨s, N, x, 0⟩ else
 if bigE (lvN N x y) ≠ 0 ∨ bigE (lvN M y x) ≠ 0 then noA 4 else
 if s = t then (if bigE (lvN N x y + lvN M y x) ≠ 0 then noA 4 else mkA s (lvN N x y + lvN M y x) (min x y))
 else if lvN M y x ≤ lvN N x y then mkA s (lvN N x y - lvN M y x) (min x y) else mkA t (lvN M y x - lvN N x y) (min x y) := by
 unfold addA
 rw [if_neg (by simp [h1.chk]), if_neg (by simp [h2.chk]), val_limbs', val_limbs']
theorem big_ok {S : Nat} (h : bigE S = 0) : (limbs S).length ≤ 16384 := by
 unfold bigE at h
 split at h
 · assumption
 · cases h
theorem sum_same (s : Bool) (L M k : Nat) : sgI s ((L + M) * k) = sgI s (L * k) + sgI s (M * k) := by
 rw [Nat.add_mul]
 unfold sgI
 split <;> omega
theorem sum_less {s t : Bool} (h : s ≠ t) {L M k : Nat} (hl : M ≤ L) : sgI s ((L - M) * k) = sgI s (L * k) + sgI t (M * k) := by
 rw [Nat.sub_mul]
 have := Nat.mul_le_mul_right k hl
 generalize L * k = a at *
 generalize M * k = c at *
 unfold sgI
 cases s <;> cases t <;> simp at h ⊢ <;> omega
theorem addA_worth {s t : Bool} {N M : Nat} {x y b : Int} (h1 : Dy s N x) (h2 : Dy t M y) (hx : N ≠ 0 → b ≤ x) (hy : M ≠ 0 → b ≤ y) (he : (addA s (limbs N) x t (limbs M) y).e = 0) :
 Wo (addA s (limbs N) x t (limbs M) y) b (wI s N x b + wI t M y b) := by
 rw [addA_dy h1 h2] at he ⊢
 by_cases hN : N = 0
 · rw [if_pos hN, hN, wI_zero, Int.zero_add]
   exact ⟨h2, hy, rfl⟩
 · rw [if_neg hN] at he ⊢
   by_cases hM : M = 0
   · rw [if_pos hM, hM, wI_zero, Int.add_zero]
     exact ⟨h1, hx, rfl⟩
   · rw [if_neg hM] at he ⊢
     have gx := hx hN
     have gy := hy hM
     by_cases hb : bigE (lvN N x y) ≠ 0 ∨ bigE (lvN M y x) ≠ 0
     · rw [if_pos hb] at he
       cases he
     · rw [if_neg hb] at he ⊢
       have hb1 : bigE (lvN N x y) = 0 := Classical.byContradiction fun hh => hb (.inl hh)
       have hb2 : bigE (lvN M y x) = 0 := Classical.byContradiction fun hh => hb (.inr hh)
       have hm : b ≤ min x y := by omega
       have e1 : wI s N x b = sgI s (lvN N x y * 2 ^ (min x y - b).toNat) := by unfold wI; rw [lvN_up gx gy]
       have e2 : wI t M y b = sgI t (lvN M y x * 2 ^ (min x y - b).toNat) := by unfold wI; rw [lvN_up gy gx, Int.min_comm]
       rw [e1, e2]
       by_cases hst : s = t
       · rw [if_pos hst] at he ⊢
         by_cases hb3 : bigE (lvN N x y + lvN M y x) ≠ 0
         · rw [if_pos hb3] at he
           cases he
         · rw [if_neg hb3] at he ⊢
           rw [← hst, ← sum_same]
           exact mkA_worth (big_ok (Classical.byContradiction hb3)) (fun _ => hm) he
       · rw [if_neg hst] at he ⊢
         by_cases hl : lvN M y x ≤ lvN N x y
         · rw [if_pos hl] at he ⊢
           rw [← sum_less hst hl]
           exact mkA_worth (len_mono (big_ok hb1) (Nat.sub_le _ _)) (fun _ => hm) he
         · rw [if_neg hl] at he ⊢
           rw [Int.add_comm, ← sum_less (fun h => hst h.symm) (by omega : lvN N x y ≤ lvN M y x)]
           exact mkA_worth (len_mono (big_ok hb2) (Nat.sub_le _ _)) (fun _ => hm) he
theorem mulA_dy {s t : Bool} {N M : Nat} {x y : Int} (h1 : Dy s N x) (h2 : Dy t M y) : mulA s (limbs N) x t (limbs M) y =
 if N = 0 ∨ M = 0 then noA 0 else if bigE (N * M) ≠ 0 then noA 4 else mkA (s != t) (N * M) (x + y) := by
 unfold mulA
 rw [if_neg (by simp [h1.chk]), if_neg (by simp [h2.chk]), val_limbs', val_limbs']
theorem mulA_worth {s t : Bool} {N M : Nat} {x y b c : Int} (h1 : Dy s N x) (h2 : Dy t M y) (hx : N ≠ 0 → b ≤ x) (hy : M ≠ 0 → c ≤ y) (he : (mulA s (limbs N) x t (limbs M) y).e = 0) :
 Wo (mulA s (limbs N) x t (limbs M) y) (b + c) (wI s N x b * wI t M y c) := by
 rw [mulA_dy h1 h2] at he ⊢
 by_cases h0 : N = 0 ∨ M = 0
 · rw [if_pos h0]
   refine wo_zero ?_
   rcases h0 with rfl | rfl
   · rw [wI_zero, Int.zero_mul]
   · rw [wI_zero, Int.mul_zero]
 · rw [if_neg h0] at he ⊢
   by_cases hb : bigE (N * M) ≠ 0
   · rw [if_pos hb] at he
     cases he
   · rw [if_neg hb] at he ⊢
     have gx := hx (fun h => h0 (.inl h))
     have gy := hy (fun h => h0 (.inr h))
     have hw : wI s N x b * wI t M y c = wI (s != t) (N * M) (x + y) (b + c) := by
      unfold wI
      rw [← sgI_mul]
      congr 1
      unfold upW
      rw [show (x + y - (b + c)).toNat = (x - b).toNat + (y - c).toNat by omega, Nat.pow_add]
      exact Nat.mul_mul_mul_comm _ _ _ _
     rw [hw]
     exact mkA_worth (big_ok (Classical.byContradiction hb)) (fun _ => by omega) he
structure Bd (N : Nat) (x b : Int) (K : Nat) : Prop where
 low : N ≠ 0 → b ≤ x
 top : upW N x b < 2 ^ K
theorem Bd.up {N : Nat} {x b : Int} {K L : Nat} (h : Bd N x b K) (hl : K ≤ L) : Bd N x b L :=
 ⟨h.low, Nat.lt_of_lt_of_le h.top (Nat.pow_le_pow_right (by decide) hl)⟩
theorem mkA_ok {s : Bool} {S : Nat} {x b : Int} {K : Nat} (hb : b ≤ x) (h : upW S x b < 2 ^ K) (hK : K ≤ 524288) (h1 : -1073741824 ≤ b) (h2 : b + K ≤ 1073741824) : (limbs S).length ≤ 16384 ∧ (mkA s S x).e = 0 := by
 have hS : S ≤ upW S x b := Nat.le_mul_of_pos_right _ (Nat.two_pow_pos _)
 have hl : (limbs S).length ≤ 16384 := len_pow (Nat.lt_of_le_of_lt hS h) (by omega)
 refine ⟨hl, ?_⟩
 by_cases h0 : S = 0
 · rw [h0, mkA_zero]
   rfl
 · have ht := two_pow_tz_le h0
   have : tz S + (x - b).toNat < K := by
    have h3 : 2 ^ (tz S + (x - b).toNat) < 2 ^ K := by
     refine Nat.lt_of_le_of_lt ?_ h
     rw [Nat.pow_add]
     exact Nat.mul_le_mul_right _ ht
    exact (Nat.pow_lt_pow_iff_right (by decide)).1 h3
   have hB : mkB (limbs S) x = true := by
    unfold mkB
    rw [val_limbs']
    exact decide_eq_true ⟨chk_limbs hl, h0, by omega, by omega, by omega, by omega⟩
   exact (mk_yes s hB).2.2.2
theorem Wo.bd {d : Ds} {b W : Int} {K : Nat} (h : Wo d b W) (hW : W.natAbs < 2 ^ K) : Bd d.N d.x b K :=
 ⟨h.low, by have := h.wo; unfold wI at this; rw [← sgI_abs d.s (upW d.N d.x b), this]; exact hW⟩
theorem wI_abs (s : Bool) (N : Nat) (x b : Int) : (wI s N x b).natAbs = upW N x b := sgI_abs _ _
theorem addA_ok {s t : Bool} {N M : Nat} {x y b : Int} {K : Nat} (h1 : Dy s N x) (h2 : Dy t M y) (g1 : Bd N x b K) (g2 : Bd M y b K) (hK : K + 1 ≤ 524288) (hb1 : -1073741824 ≤ b) (hb2 : b + K + 1 ≤ 1073741824) :
 (addA s (limbs N) x t (limbs M) y).e = 0 := by
 rw [addA_dy h1 h2]
 by_cases hN : N = 0
 · rw [if_pos hN]
 · rw [if_neg hN]
   by_cases hM : M = 0
   · rw [if_pos hM]
   · rw [if_neg hM]
     have gx := g1.low hN
     have gy := g2.low hM
     have t1 := g1.top
     have t2 := g2.top
     rw [lvN_up gx gy] at t1
     rw [lvN_up gy gx, Int.min_comm] at t2
     have hm : b ≤ min x y := by omega
     have hp := Nat.two_pow_pos (min x y - b).toNat
     have k1 : (limbs (lvN N x y)).length ≤ 16384 := (mkA_ok (s := true) hm t1 (by omega) hb1 (by omega)).1
     have k2 : (limbs (lvN M y x)).length ≤ 16384 := (mkA_ok (s := true) hm t2 (by omega) hb1 (by omega)).1
     rw [if_neg (by simp [(bigE_ok k1).1, (bigE_ok k2).1])]
     have t3 : upW (lvN N x y + lvN M y x) (min x y) b < 2 ^ (K + 1) := by
      unfold upW
      rw [Nat.add_mul, Nat.pow_succ]
      omega
     by_cases hst : s = t
     · rw [if_pos hst]
       obtain ⟨k3, k4⟩ := mkA_ok (s := s) hm t3 (by omega) hb1 (by omega)
       rw [if_neg (by simp [(bigE_ok k3).1])]
       exact k4
     · rw [if_neg hst]
       split
       · exact (mkA_ok hm (Nat.lt_of_le_of_lt (Nat.mul_le_mul_right _ (by omega)) t3) (by omega) hb1 (by omega)).2
       · exact (mkA_ok hm (Nat.lt_of_le_of_lt (Nat.mul_le_mul_right _ (by omega)) t3) (by omega) hb1 (by omega)).2
theorem mulA_ok {s t : Bool} {N M : Nat} {x y b c : Int} {K L : Nat} (h1 : Dy s N x) (h2 : Dy t M y) (g1 : Bd N x b K) (g2 : Bd M y c L) (hK : K + L ≤ 524288) (hb1 : -1073741824 ≤ b + c) (hb2 : b + c + K + L ≤ 1073741824) :
 (mulA s (limbs N) x t (limbs M) y).e = 0 := by
 rw [mulA_dy h1 h2]
 by_cases h0 : N = 0 ∨ M = 0
 · rw [if_pos h0]
   rfl
 · rw [if_neg h0]
   have gx := g1.low (fun h => h0 (.inl h))
   have gy := g2.low (fun h => h0 (.inr h))
   have tw : upW (N * M) (x + y) (b + c) < 2 ^ (K + L) := by
    have : upW (N * M) (x + y) (b + c) = upW N x b * upW M y c := by
     unfold upW
     rw [show (x + y - (b + c)).toNat = (x - b).toNat + (y - c).toNat by omega, Nat.pow_add]
     exact (Nat.mul_mul_mul_comm _ _ _ _).symm
    rw [this, Nat.pow_add]
    exact Nat.mul_lt_mul_of_lt_of_lt g1.top g2.top
   obtain ⟨k3, k4⟩ := mkA_ok (s := (s != t)) (by omega : b + c ≤ x + y) tw hK hb1 (by omega)
   rw [if_neg (by simp [(bigE_ok k3).1])]
   exact k4
end Go.Proofs.YtfjgmpfpadfknaaGreatDoor
