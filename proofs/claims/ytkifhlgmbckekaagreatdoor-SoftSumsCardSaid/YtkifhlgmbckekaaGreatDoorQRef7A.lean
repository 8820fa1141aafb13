/-
  The reference's rounding of layer 7: higher, cut, rounded, beyond.
-/
import Derived.Test.YtkifhlgmbckekaaGreatDoorQMS9
import Derived.Test.YtkifhlgmbckekaaGreatDoorQRfs
import Derived.Test.YtkifhlgmbckekaaGreatDoorVals
import Derived.Deep.CutRange
namespace Go.Proofs.YtkifhlgmbckekaaGreatDoor

open Go.RowKit Go.Lb

attribute [local go_sem] Go.World.cell?_alloc_some

set_option maxRecDepth 100000 in
set_option maxHeartbeats 2000000 in
theorem higher7_any (neg odd left : Bool) (c : Int) (m : Nat) (hm : m < 5) (w : World) :
    Calls Tryz.prog 264 #[.bool neg, .bool odd, .int .i64 c, .bool left, .int .u8 (m : Int)] w fun en w' => en = .returned (.bool (hgB neg odd c left m)) ∧ Below w.heap.size w w' := by
  have hb := Below.refl w.heap.size w
  have hmm : m = 0 ∨ m = 1 ∨ m = 2 ∨ m = 3 ∨ m = 4 := by omega
  rcases hmm with rfl | rfl | rfl | rfl | rfl
  · rcases Int.lt_trichotomy c 0 with hc | hc | hc
    · have g1 : ¬ c > 0 := by omega
      have g2 : ¬ c = 0 := by omega
      have hR : Hid (hgB neg odd c left 0 = false) := Lib.hid (by unfold hgB; rw [if_pos rfl]; exact decide_eq_false (by omega))
      clear hc
      go_enter Tryz.func264, Tryz.ntmps264
      go_wp2
      go_ret
      exact ⟨by rw [hR.out]; rfl, hb⟩
    · subst hc
      have hR : Hid (hgB neg odd 0 left 0 = odd) := Lib.hid (by unfold hgB; rw [if_pos rfl]; cases odd <;> simp)
      cases odd
      all_goals
        go_enter Tryz.func264, Tryz.ntmps264
        go_wp2
        go_ret
        exact ⟨by rw [hR.out]; rfl, hb⟩
    · have g1 : c > 0 := hc
      have hR : Hid (hgB neg odd c left 0 = true) := Lib.hid (by unfold hgB; rw [if_pos rfl]; exact decide_eq_true (.inl hc))
      clear hc
      go_enter Tryz.func264, Tryz.ntmps264
      go_wp2
      go_ret
      exact ⟨by rw [hR.out]; rfl, hb⟩
  · by_cases hc : 0 ≤ c
    · have g1 : c ≥ 0 := hc
      have hR : Hid (hgB neg odd c left 1 = true) := Lib.hid (by unfold hgB; rw [if_neg (by decide), if_pos rfl]; exact decide_eq_true hc)
      clear hc
      go_enter Tryz.func264, Tryz.ntmps264
      go_wp2
      go_ret
      exact ⟨by rw [hR.out]; simp, hb⟩
    · have g1 : ¬ c ≥ 0 := hc
      have hR : Hid (hgB neg odd c left 1 = false) := Lib.hid (by unfold hgB; rw [if_neg (by decide), if_pos rfl]; exact decide_eq_false hc)
      clear hc
      go_enter Tryz.func264, Tryz.ntmps264
      go_wp2
      go_ret
      exact ⟨by rw [hR.out]; simp, hb⟩
  · go_enter Tryz.func264, Tryz.ntmps264
    go_wp2
    go_ret
    exact ⟨rfl, hb⟩
  · cases left <;> cases neg
    all_goals
      go_enter Tryz.func264, Tryz.ntmps264
      go_wp2
      go_ret
      exact ⟨rfl, hb⟩
  · cases left <;> cases neg
    all_goals
      go_enter Tryz.func264, Tryz.ntmps264
      go_wp2
      go_ret
      exact ⟨rfl, hb⟩

theorem chk_lm7 {N : Nat} (h : (limbs N).length ≤ 16384) : chk (limbs N) = 0 := by
  unfold chk
  rw [if_neg (by omega), if_neg]
  rintro ⟨h1, h2⟩
  exact fine_top (fine_limbs N) (by omega) h2

theorem up7_any (ao : Option Addr) (k c N : Nat) (j : Int) (hj : 0 ≤ j) (w : World) (h : Sl w ao k c (limbs N)) (h1 : (limbs N).length ≤ 16384) (h2 : (limbs (N * 2 ^ j.toNat)).length ≤ 16384) :
    Calls Tryz.prog 149 #[.agg #[.slice ao k c], .int .i64 j] w (Numb w (N * 2 ^ j.toNat) 0) := by
  have := refUp_i ao k c j hj _ w h (chk_lm7 h1)
  rw [val_limbs', (bigE_ok h2).1, (bigE_ok h2).2] at this
  exact this

theorem dn7_any (ao : Option Addr) (k c N : Nat) (j : Int) (hj : 0 ≤ j) (hj2 : j ≤ 1000000) (w : World) (h : Sl w ao k c (limbs N)) (h1 : (limbs N).length ≤ 16384) :
    Calls Tryz.prog 321 #[.agg #[.slice ao k c], .int .i64 j] w (Numb w (N / 2 ^ j.toNat) 0) := by
  obtain ⟨i, rfl⟩ := Int.eq_ofNat_of_zero_le hj
  have := refDown_any ao k c i _ w h (chk_lm7 h1) (by omega)
  rw [val_limbs'] at this
  exact this

theorem len_mono7 {A B : Nat} (h : B ≤ A) : (limbs B).length ≤ (limbs A).length := limbs_length_le (Nat.lt_of_le_of_lt h (lt_of_limbs_length (Nat.le_refl _)))

set_option maxRecDepth 100000 in
set_option maxHeartbeats 4000000 in
theorem cut7_any (neg : Bool) (ao : Option Addr) (k c N : Nat) (X n : Int) (w : World) (h : Sl w ao k c (limbs N)) (hn1 : -100000 ≤ n) (hn2 : n ≤ 100000) (l1 : (limbs N).length ≤ 10000) (l2 : (limbs (N * 2 ^ (-n).toNat)).length ≤ 16384) :
    Calls Tryz.prog 262 #[.agg #[.bool neg, .slice ao k c, .int .i64 X, .bool false], .int .i64 n] w fun en w' => ∃ a' k' c', en = .returned (.tuple #[.agg #[.slice a' k' c'], .int .i64 (ctC N n false), .bool (ctL N n false)]) ∧ Fr 150 w' w.heap.size a' k' c' (limbs (ctN N n)) ∧ Below w.heap.size w w' := by
  obtain ⟨W2, hW2⟩ : ∃ W2 : World, W2 = (w.alloc (.cells #[.bool neg, .slice ao k c, .int .i64 X, .bool false] 189)).alloc (.cells #[.slice none 0 0] 69) := ⟨_, rfl⟩
  have hb2 : Below w.heap.size w W2 := hW2 ▸ Lb.more (Lb.more (Below.refl _ _) _) _
  have x1 : W2.cell? ⟨w.heap.size, 1, none⟩ = some (.slice ao k c) := by rw [hW2]; simp [World.cell?_alloc_some]
  have x3 : W2.cell? ⟨w.heap.size, 3, none⟩ = some (.bool false) := by rw [hW2]; simp [World.cell?_alloc_some]
  have R2 : Box1 W2 (w.heap.size + 1) (.slice none 0 0) := by
    have := box1_new (w.alloc (.cells #[.bool neg, .slice ao k c, .int .i64 X, .bool false] 189)) (.slice none 0 0) 69
    rw [World.size_alloc] at this
    exact hW2 ▸ this
  by_cases hn : n ≤ 0
  · have e1 : ctN N n = N * 2 ^ (-n).toNat := by unfold ctN; rw [if_pos hn]
    have e2 : ctC N n false = -1 := by unfold ctC; rw [if_pos hn]
    have e3 : ctL N n false = false := by unfold ctL; simp [hn]
    rw [e1, e2, e3]
    have kU := up7_any ao k c N (-n) (by omega) W2 (h.below hb2) (by omega) l2
    have hz0 := hb2.size
    have R2lt := R2.lt
    clear e1 e2 e3 l2 h
    generalize N * 2 ^ (-n).toNat = M at *
    go_enter Tryz.func262, Tryz.ntmps262
    go_upto_region 1 with fail
    rw [← hW2]
    clear hW2
    go_wp2_with fail
    refine kU.mono ?_
    rintro en w3 ⟨a3, k3, c3, rfl, F3, hb3⟩
    have h34 := Lb.more hb3 (.cells #[.slice a3 k3 c3] 69)
    have V4 := next hb2 h34
    have R4 := R2.stay h34
    have N4 := box1_new w3 (.slice a3 k3 c3) 69
    have G3 := F3.alloc (.cells #[.slice a3 k3 c3] 69)
    replace x3 := cellStay x3 h34
    clear x1 R2 hb2 h34 F3 kU
    go_upto_region 3 with fail
    have hYz : w.heap.size + 1 < w3.heap.size := Nat.lt_of_lt_of_le R2lt hb3.size
    obtain ⟨Y, hY⟩ : ∃ q, q = w3.heap.size := ⟨_, rfl⟩
    rw [← hY] at N4 hYz ⊢
    clear hY hb3
    generalize w3.alloc (.cells #[.slice a3 k3 c3] 69) = w4 at *
    have ⟨n0, n1⟩ := N4
    have ⟨r0, r1⟩ := R4
    have kS : ∀ v : Value, (w4.setCell ⟨w.heap.size + 1, 0, none⟩ v).cell? ⟨w.heap.size, 3, none⟩ = some (.bool false) ∧ (w4.setCell ⟨w.heap.size + 1, 0, none⟩ v).cell? ⟨Y, 0, none⟩ = some (.slice a3 k3 c3) := fun v =>
      ⟨(World.cell?_setCell_other _ _ _ _ (fun e => by have := congrArg Addr.block e; simp at this)).trans x3, (World.cell?_setCell_other _ _ _ _ (fun e => by have : w.heap.size + 1 = Y := congrArg Addr.block e; omega)).trans n0⟩
    go_region_held3 (fun w' => w'.cell? ⟨w.heap.size, 3, none⟩ = some (.bool false) ∧ w'.cell? ⟨Y, 0, none⟩ = some (.slice a3 k3 c3))
      ((first | exact ⟨x3, n0⟩ | exact kS _))
      (fail)
    go_wp2
    have t0 := R4.set (.slice a3 k3 c3)
    refine bodyPost_ret (v := .tuple #[.agg #[.slice a3 k3 c3], .int .i64 (-1), .bool false]) (by simp [results, Tryz.results262, go_sem, t0]) rfl ⟨a3, k3, c3, rfl, ((G3.setCell R2lt _).drew).mono hz0, (V4.setCell (by simp) _).drew⟩
  · have e1 : ctN N n = N / 2 ^ n.toNat := by unfold ctN; rw [if_neg hn]
    have hback : N / 2 ^ n.toNat * 2 ^ n.toNat ≤ N := Nat.div_mul_le_self _ _
    have hrest : N - N / 2 ^ n.toNat * 2 ^ n.toNat = N % 2 ^ n.toNat := by
      have := Nat.div_add_mod N (2 ^ n.toNat)
      rw [Nat.mul_comm] at this
      omega
    have hq : (limbs (N / 2 ^ n.toNat)).length ≤ 10000 := Nat.le_trans (len_mono7 (Nat.div_le_self _ _)) l1
    have hbk : (limbs (N / 2 ^ n.toNat * 2 ^ n.toNat)).length ≤ 10000 := Nat.le_trans (len_mono7 hback) l1
    have hrs : (limbs (N % 2 ^ n.toNat)).length ≤ 10000 := Nat.le_trans (len_mono7 (Nat.mod_le _ _)) l1
    have hhf : (limbs (2 ^ (n - 1).toNat)).length ≤ 10000 := by
      refine Nat.le_trans (len_mono7 (Nat.le_refl _)) ?_
      have := ln_two (n - 1).toNat
      unfold ln at this
      omega
    have cD : ∀ W, Below w.heap.size w W → Calls Tryz.prog 321 #[.agg #[.slice ao k c], .int .i64 n] W (Numb W (N / 2 ^ n.toNat) 0) := fun W hW => dn7_any ao k c N n (by omega) (by omega) W (h.below hW) (by omega)
    have cU : ∀ W a' k' c', Sl W a' k' c' (limbs (N / 2 ^ n.toNat)) → Calls Tryz.prog 149 #[.agg #[.slice a' k' c'], .int .i64 n] W (Numb W (N / 2 ^ n.toNat * 2 ^ n.toNat) 0) := fun W a' k' c' j => up7_any a' k' c' _ n (by omega) W j (by omega) (by omega)
    have cS : ∀ W a' k' c', Below w.heap.size w W → Sl W a' k' c' (limbs (N / 2 ^ n.toNat * 2 ^ n.toNat)) → Calls Tryz.prog 267 #[.agg #[.slice ao k c], .agg #[.slice a' k' c']] W (Subs W (N % 2 ^ n.toNat) true) := fun W a' k' c' hW j => by
      have := refSub_any ao a' k k' c c' _ _ W (h.below hW) j (chk_lm7 (by omega)) (chk_lm7 (by omega)) (by rw [val_limbs', val_limbs']; exact hback)
      rw [val_limbs', val_limbs', hrest] at this
      exact this
    have cH : ∀ W a' k' c' (z : Int), z = n - 1 → Sl W a' k' c' (limbs 1) → Calls Tryz.prog 149 #[.agg #[.slice a' k' c'], .int .i64 z] W (Numb W (2 ^ (n - 1).toNat) 0) := fun W a' k' c' z hz j => by
      subst hz
      have := up7_any a' k' c' 1 (n - 1) (by omega) W j (by rw [limbs_pos (by decide)]; decide) (by rw [Nat.one_mul]; omega)
      rw [Nat.one_mul] at this
      exact this
    have cC : ∀ W a' k' c' a2 k2 c2, Sl W a' k' c' (limbs (N % 2 ^ n.toNat)) → Sl W a2 k2 c2 (limbs (2 ^ (n - 1).toNat)) → Calls Tryz.prog 152 #[.agg #[.slice a' k' c'], .agg #[.slice a2 k2 c2]] W fun e w' => e = .returned (.tuple #[.int .i64 (cmpN (N % 2 ^ n.toNat) (2 ^ (n - 1).toNat)), .int .i64 0]) ∧ Below W.heap.size W w' := fun W a' k' c' a2 k2 c2 j j2 => by
      have := refCmp_any a' a2 k' k2 c' c2 _ _ W j j2 (chk_lm7 (by omega)) (chk_lm7 (by omega))
      rw [val_limbs', val_limbs'] at this
      exact this
    have cO : ∀ W, Calls Tryz.prog 242 #[.int .u64 1] W _ := fun W => refOf_i 1 1 rfl W (by decide)
    have e2 : ctC N n false = cmpN (N % 2 ^ n.toNat) (2 ^ (n - 1).toNat) := by unfold ctC; rw [if_neg hn, if_neg (by simp)]
    have e3 : ctL N n false = decide (N % 2 ^ n.toNat ≠ 0) := by unfold ctL; simp [hn]
    rw [e1, e2, e3]
    have hln : ∀ k', k' = (limbs (N % 2 ^ n.toNat)).length → decide ((k' : Int) > 0) = decide (N % 2 ^ n.toNat ≠ 0) := fun k' hk' => by
      subst hk'
      by_cases h0 : N % 2 ^ n.toNat = 0
      · rw [h0, limbs_zero]; rfl
      · rw [limbs_pos h0, decide_eq_true h0]
        exact decide_eq_true (by simp)
    have hn0 : ¬ n ≤ 0 := hn
    have HLN := Lib.hid hln
    have R2lt := R2.lt
    have hz0 := hb2.size
    clear hln e1 e2 e3 hback hrest hq hbk hrs hhf h l1 l2
    generalize N / 2 ^ n.toNat * 2 ^ n.toNat = B at *
    generalize N / 2 ^ n.toNat = Q at *
    generalize N % 2 ^ n.toNat = P at *
    generalize 2 ^ (n - 1).toNat = H at *
    generalize cmpN P H = cv at *
    go_enter Tryz.func262, Tryz.ntmps262
    go_upto_region 1 with fail
    rw [← hW2]
    clear hW2
    go_wp2_with fail
    refine (cD W2 hb2).mono ?_
    rintro en wA ⟨qa, qk, qc, rfl, qF, hb⟩
    have hqz : w.heap.size + 1 < wA.heap.size := Nat.lt_of_lt_of_le R2lt hb.size
    have hs := Lb.more hb (.cells #[.slice qa qk qc] 69)
    have qN := box1_new wA (.slice qa qk qc) 69
    have qG := qF.alloc (.cells #[.slice qa qk qc] 69)
    have V4 := next hb2 hs
    have R4 := R2.stay hs
    replace x1 := cellStay x1 hs
    replace x3 := cellStay x3 hs
    replace qG := qG.mono (Nat.le_refl _)
    clear R2 hb2 hb hs qF cD
    go_upto_region 5 with fail
    obtain ⟨qZ, hZ⟩ : ∃ q, q = wA.heap.size := ⟨_, rfl⟩
    rw [← hZ] at qN hqz ⊢
    clear hZ
    generalize wA.alloc (.cells #[.slice qa qk qc] 69) = w4 at *
    have ⟨q0, _⟩ := qN
    go_wp2_with fail
    with_reducible refine (cU w4 _ _ _ qG.sl).mono ?_
    rintro en wA ⟨ba, bk, bc, rfl, bF, hb⟩
    have hs := Lb.more hb (.cells #[.slice ba bk bc] 69)
    have bN := box1_new wA (.slice ba bk bc) 69
    have bG := bF.alloc (.cells #[.slice ba bk bc] 69)
    replace V4 := next V4 hs
    replace R4 := R4.stay hs
    replace x1 := cellStay x1 hs
    replace x3 := cellStay x3 hs
    replace qN := qN.stay hs
    replace qG := qG.below hs
    clear q0 hb hs bF cU
    go_upto_region 6 with fail
    obtain ⟨bZ, hZ⟩ : ∃ q, q = wA.heap.size := ⟨_, rfl⟩
    rw [← hZ] at bN ⊢
    clear hZ
    generalize wA.alloc (.cells #[.slice ba bk bc] 69) = w5 at *
    have ⟨b0, _⟩ := bN
    go_wp2_with fail
    with_reducible refine (cS w5 _ _ _ V4 bG.sl).mono ?_
    rintro en wA ⟨ra, rk, rc, rfl, rF, hb⟩
    have hrz : w.heap.size + 1 < wA.heap.size := Nat.lt_of_lt_of_le R4.lt hb.size
    have hs := Lb.more hb (.cells #[.slice ra rk rc] 69)
    have rN := box1_new wA (.slice ra rk rc) 69
    have rG := rF.alloc (.cells #[.slice ra rk rc] 69)
    replace V4 := next V4 hs
    replace R4 := R4.stay hs
    replace x1 := cellStay x1 hs
    replace x3 := cellStay x3 hs
    replace qN := qN.stay hs
    replace qG := qG.below hs
    clear b0 bN bG hb hs rF cS
    go_upto_region 7 with fail
    obtain ⟨rZ, hZ⟩ : ∃ q, q = wA.heap.size := ⟨_, rfl⟩
    rw [← hZ] at rN hrz ⊢
    clear hZ
    generalize wA.alloc (.cells #[.slice ra rk rc] 69) = w6 at *
    go_wp2_with fail
    with_reducible refine (cO w6).mono ?_
    rintro en w7 ⟨oa, ok, oc, rfl, oF, hb7⟩
    replace V4 := next V4 hb7
    replace R4 := R4.stay hb7
    replace x1 := cellStay x1 hb7
    replace x3 := cellStay x3 hb7
    replace qN := qN.stay hb7
    replace qG := qG.below hb7
    replace rN := rN.stay hb7
    replace rG := rG.below hb7
    clear hb7 cO
    go_wp2_with fail
    (with_reducible refine (cH w7 _ _ _ _ ?_ oF.sl).mono ?_)
    · go_num
    rintro en wA ⟨ha, hk, hc, rfl, hF, hb⟩
    have hs := Lb.more hb (.cells #[.slice ha hk hc] 69)
    have hN := box1_new wA (.slice ha hk hc) 69
    have hG := hF.alloc (.cells #[.slice ha hk hc] 69)
    replace V4 := next V4 hs
    replace R4 := R4.stay hs
    replace x1 := cellStay x1 hs
    replace x3 := cellStay x3 hs
    replace qN := qN.stay hs
    replace qG := qG.below hs
    replace rN := rN.stay hs
    replace rG := rG.below hs
    clear oF hb hs hF cH
    go_upto_region 8 with fail
    obtain ⟨hZ, hZ⟩ : ∃ q, q = wA.heap.size := ⟨_, rfl⟩
    rw [← hZ] at hN ⊢
    clear hZ
    generalize wA.alloc (.cells #[.slice ha hk hc] 69) = w8 at *
    have ⟨r0, _⟩ := rN
    have ⟨h0, _⟩ := hN
    go_wp2_with fail
    with_reducible refine (cC w8 _ _ _ _ _ _ rG.sl hG.sl).mono ?_
    rintro en w9 ⟨rfl, hb⟩
    replace V4 := next V4 hb
    replace R4 := R4.stay hb
    replace x3 := cellStay x3 hb
    replace qN := qN.stay hb
    replace qG := qG.below hb
    replace rN := rN.stay hb
    replace rG := rG.below hb
    clear r0 h0 hN hG x1 hb cC
    have ⟨q0, _⟩ := qN
    have ⟨r0, _⟩ := rN
    have hrl := HLN.out rk rG.sl.len.symm
    have HRL := Lib.hid hrl
    clear hrl HLN
    go_upto_region 9 with fail
    go_cut [72] from 67 to 72 (fun v72 wx => wx = w9 ∧ v72 = .bool false)
    case first => as_aux_lemma =>
      by_cases h0 : cv = 0
      · subst h0
        go_wp2
        go_meet
        exact ⟨rfl, rfl⟩
      · go_wp2
        go_meet
        exact ⟨rfl, rfl⟩
    case rest => as_aux_lemma =>
      obtain ⟨rfl, rfl⟩ := hcut
      generalize wc = w9 at *
      have ⟨z0, z1⟩ := R4
      have hn1' : ∀ b : Nat, w.heap.size + 1 < b → (⟨w.heap.size + 1, 0, none⟩ : Addr) ≠ ⟨b, 0, none⟩ := fun b hb e => by
        have : w.heap.size + 1 = b := congrArg Addr.block e
        omega
      have kS : ∀ (W : World) (v : Value), W.cell? ⟨w.heap.size, 3, none⟩ = some (.bool false) ∧ W.cell? ⟨qZ, 0, none⟩ = some (.slice qa qk qc) ∧ W.cell? ⟨rZ, 0, none⟩ = some (.slice ra rk rc) → (W.setCell ⟨w.heap.size + 1, 0, none⟩ v).cell? ⟨w.heap.size, 3, none⟩ = some (.bool false) ∧ (W.setCell ⟨w.heap.size + 1, 0, none⟩ v).cell? ⟨qZ, 0, none⟩ = some (.slice qa qk qc) ∧ (W.setCell ⟨w.heap.size + 1, 0, none⟩ v).cell? ⟨rZ, 0, none⟩ = some (.slice ra rk rc) := fun W v h =>
        ⟨(World.cell?_setCell_other _ _ _ _ (fun e => by have := congrArg Addr.block e; simp at this)).trans h.1, (World.cell?_setCell_other _ _ _ _ (hn1' _ hqz)).trans h.2.1, (World.cell?_setCell_other _ _ _ _ (hn1' _ hrz)).trans h.2.2⟩
      go_upto_region 11 with fail
      go_region_held3 (fun w' => w'.cell? ⟨w.heap.size, 3, none⟩ = some (.bool false) ∧ w'.cell? ⟨qZ, 0, none⟩ = some (.slice qa qk qc) ∧ w'.cell? ⟨rZ, 0, none⟩ = some (.slice ra rk rc))
        ((first | exact ⟨x3, q0, r0⟩ | exact kS _ _ ⟨x3, q0, r0⟩))
        (fail)
      go_wp2
      have t0 := World.cell?_setCell_same w9 ⟨w.heap.size + 1, 0, none⟩ (.slice qa qk qc) z0
      refine bodyPost_ret (v := .tuple #[.agg #[.slice qa qk qc], .int .i64 cv, .bool (decide ((rk : Int) > 0))]) (by simp [results, Tryz.results262, go_sem, t0]) rfl ⟨qa, qk, qc, by rw [HRL.out], ((qG.setCell R2lt _).drew).mono hz0, (V4.setCell (by simp) _).drew⟩

end Go.Proofs.YtkifhlgmbckekaaGreatDoor

