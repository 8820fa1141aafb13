/-
  The reference's rounding of layer 7, further: rounded, beyond, dyadic.
-/
import Derived.Test.YtkifhlgmbckekaaGreatDoorQRef7A
namespace Go.Proofs.YtkifhlgmbckekaaGreatDoor

open Go.RowKit Go.Lb

attribute [local go_sem] Go.World.cell?_alloc_some

theorem ctN_len {N : Nat} {n : Int} (l1 : (limbs N).length ≤ 5000) (l2 : (limbs (N * 2 ^ (-n).toNat)).length ≤ 10000) : (limbs (ctN N n)).length ≤ 10000 := by
  unfold ctN
  split
  · exact l2
  · exact Nat.le_trans (len_mono7 (Nat.div_le_self _ _)) (by omega)

theorem len_up7 (A : Nat) : (limbs (A + 1)).length ≤ (limbs A).length + 1 := by
  refine limbs_length_le ?_
  have h := lt_of_limbs_length (Nat.le_refl (limbs A).length)
  have h2 : 0 < 4294967296 ^ (limbs A).length := Nat.pow_pos (by decide)
  rw [Nat.pow_succ]
  omega

theorem box1_put7 {w : World} {b : Nat} {u : Value} (h : Box1 w b u) (v : Value) : Box1 (w.setCell ⟨b, 0, none⟩ v) b v := ⟨h.set v, by simp [h.z0]⟩

theorem box1_off7 {w : World} {b L : Nat} {u : Value} (h : Box1 w b u) (hne : b ≠ L) (p : Nat) (y : Value) : Box1 (w.setCell ⟨L, p, none⟩ y) b u :=
  ⟨(World.cell?_setCell_other _ _ _ _ (fun e => hne (congrArg Addr.block e).symm)).trans h.c0, by simp [h.z0]⟩

set_option maxRecDepth 100000 in
set_option maxHeartbeats 4000000 in
theorem rounded7_any (neg : Bool) (ao : Option Addr) (k c N m : Nat) (hm : m < 5) (X last : Int) (w : World) (h : Sl w ao k c (limbs N)) (hx1 : -30000 ≤ X) (hx2 : X ≤ 30000) (hl1 : -30000 ≤ last) (hl2 : last ≤ 30000) (l1 : (limbs N).length ≤ 5000) (l2 : (limbs (N * 2 ^ (-(last - X)).toNat)).length ≤ 10000) :
    Calls Tryz.prog 156 #[.agg #[.bool neg, .slice ao k c, .int .i64 X, .bool false], .int .i64 last, .int .u8 (m : Int)] w fun en w' => ∃ a' k' c', en = .returned (.tuple #[.agg #[.slice a' k' c'], .bool (ctL N (last - X) false)]) ∧ Fr 150 w' w.heap.size a' k' c' (limbs (r7N N (last - X) false neg m)) ∧ Below w.heap.size w w' := by
  obtain ⟨W2, hW2⟩ : ∃ W2 : World, W2 = (w.alloc (.cells #[.bool neg, .slice ao k c, .int .i64 X, .bool false] 189)).alloc (.cells #[.slice none 0 0] 69) := ⟨_, rfl⟩
  have hb2 : Below w.heap.size w W2 := hW2 ▸ more (more (Below.refl _ _) _) _
  have x0 : W2.cell? ⟨w.heap.size, 0, none⟩ = some (.bool neg) := by rw [hW2]; simp [World.cell?_alloc_some]
  have x1 : W2.cell? ⟨w.heap.size, 1, none⟩ = some (.slice ao k c) := by rw [hW2]; simp [World.cell?_alloc_some]
  have x2 : W2.cell? ⟨w.heap.size, 2, none⟩ = some (.int .i64 X) := by rw [hW2]; simp [World.cell?_alloc_some]
  have x3 : W2.cell? ⟨w.heap.size, 3, none⟩ = some (.bool false) := by rw [hW2]; simp [World.cell?_alloc_some]
  have R2 : Box1 W2 (w.heap.size + 1) (.slice none 0 0) := by
    have := box1_new (w.alloc (.cells #[.bool neg, .slice ao k c, .int .i64 X, .bool false] 189)) (.slice none 0 0) 69
    rw [World.size_alloc] at this
    exact hW2 ▸ this
  obtain ⟨n, hn⟩ : ∃ n, n = last - X := ⟨_, rfl⟩
  rw [← hn] at l2 ⊢
  have hq := ctN_len l1 l2
  have cC : ∀ z : Int, z = last - X → Calls Tryz.prog 262 #[.agg #[.bool neg, .slice ao k c, .int .i64 X, .bool false], .int .i64 z] W2 (fun en w' => ∃ a' k' c', en = .returned (.tuple #[.agg #[.slice a' k' c'], .int .i64 (ctC N n false), .bool (ctL N n false)]) ∧ Fr 150 w' W2.heap.size a' k' c' (limbs (ctN N n)) ∧ Below W2.heap.size W2 w') := fun z hz => by
    rw [hz, ← hn]
    exact cut7_any neg ao k c N X n W2 (h.below hb2) (by omega) (by omega) (by omega) (by omega)
  have cB : ∀ W a' k' c', Sl W a' k' c' (limbs (ctN N n)) → Calls Tryz.prog 263 #[.agg #[.slice a' k' c'], .int .i64 0] W fun e w' => e = .returned (.tuple #[.bool (decide (ctN N n % 2 = 1)), .int .i64 0]) ∧ Below W.heap.size W w' := fun W a' k' c' j => by
    have := refBit_any a' k' c' 0 _ W j (chk_lm7 (by omega)) (by decide)
    rw [bitL_eq j.ok, val_limbs', Nat.pow_zero, Nat.div_one] at this
    exact this
  have cH : ∀ W, Calls Tryz.prog 264 #[.bool neg, .bool (decide (ctN N n % 2 = 1)), .int .i64 (ctC N n false), .bool (ctL N n false), .int .u8 (m : Int)] W _ := fun W => higher7_any neg (decide (ctN N n % 2 = 1)) (ctL N n false) (ctC N n false) m hm W
  have cO : ∀ W, Calls Tryz.prog 242 #[.int .u64 1] W _ := fun W => refOf_i 1 1 rfl W (by decide)
  have cA : ∀ W a' k' c' a2 k2 c2, Sl W a' k' c' (limbs (ctN N n)) → Sl W a2 k2 c2 (limbs 1) → Calls Tryz.prog 253 #[.agg #[.slice a' k' c'], .agg #[.slice a2 k2 c2]] W (Numb W (ctN N n + 1) 0) := fun W a' k' c' a2 k2 c2 j j2 => by
    have := refAdd_any a' a2 k' k2 c' c2 _ _ W j j2 (chk_lm7 (by omega)) (by rw [limbs_pos (by decide)]; decide)
    have hb := bigE_ok (N := ctN N n + 1) (by have := len_up7 (ctN N n); omega)
    rw [val_limbs', val_limbs', hb.1, hb.2] at this
    exact this
  have hr : r7N N n false neg m = ctN N n + (if hgB neg (decide (ctN N n % 2 = 1)) (ctC N n false) (ctL N n false) m = true then 1 else 0) := rfl
  rw [hr]
  generalize hgB neg (decide (ctN N n % 2 = 1)) (ctC N n false) (ctL N n false) m = hb at *
  generalize decide (ctN N n % 2 = 1) = od at *
  generalize ctN N n = Q at *
  generalize ctC N n false = cv at *
  generalize ctL N n false = lf at *
  obtain ⟨M, hM⟩ : ∃ M, M = Q + (if hb = true then 1 else 0) := ⟨_, rfl⟩
  rw [← hM]
  have HM := Lib.hid hM
  clear hM
  have R2lt := R2.lt
  have hz0 := hb2.size
  clear hr hq l1 l2 h hn
  go_enter Tryz.func156, Tryz.ntmps156
  go_upto_region 1 with fail
  rw [← hW2]
  clear hW2
  go_wp2_with fail
  (refine (cC _ ?_).mono ?_)
  · go_num
  rintro en wA ⟨qa, qk, qc, rfl, qF, hbA⟩
  have hqz : w.heap.size + 1 < wA.heap.size := Nat.lt_of_lt_of_le R2lt hbA.size
  have hs := more hbA (.cells #[.slice qa qk qc] 69)
  have hz4 := hs.size
  have V4 := next hb2 hs
  have R4 := R2.stay hs
  replace x0 := cellStay x0 hs
  have qN := box1_new wA (.slice qa qk qc) 69
  have qG := qF.alloc (.cells #[.slice qa qk qc] 69)
  clear x1 x2 x3 R2 hb2 hbA hs qF cC
  go_upto_region 2 with fail
  obtain ⟨qZ, hZ⟩ : ∃ q, q = wA.heap.size := ⟨_, rfl⟩
  rw [← hZ] at qN hqz ⊢
  clear hZ
  generalize wA.alloc (.cells #[.slice qa qk qc] 69) = w4 at *
  have ⟨q0, _⟩ := qN
  go_wp2_with fail
  with_reducible refine (cB w4 _ _ _ qG.sl).mono ?_
  rintro en w5 ⟨rfl, hb5⟩
  have hz5 := Nat.le_trans hz4 hb5.size
  replace V4 := next V4 hb5
  replace R4 := R4.stay hb5
  replace x0 := cellStay x0 hb5
  replace qN := qN.stay hb5
  replace qG := qG.below hb5
  clear q0 hb5 cB
  go_wp2_with fail
  with_reducible refine (cH w5).mono ?_
  rintro en w6 ⟨rfl, hb6⟩
  have hz6 := Nat.le_trans hz5 hb6.size
  replace V4 := next V4 hb6
  replace R4 := R4.stay hb6
  replace qN := qN.stay hb6
  replace qG := qG.below hb6
  clear x0 hb6 cH
  go_upto_if 34 with fail
  go_cut [11] from 35 to 40 (fun v11 wx => v11 = .bool od ∧ ∃ ra rk rc, Box1 wx qZ (.slice ra rk rc) ∧ Fr 150 wx W2.heap.size ra rk rc (limbs M) ∧ Below w.heap.size w wx ∧ Box1 wx (w.heap.size + 1) (.slice none 0 0))
  case first => as_aux_lemma =>
    cases hb
    · go_wp2
      go_meet
      exact ⟨rfl, qa, qk, qc, qN, by rw [show M = Q by simpa using HM.out]; exact qG, V4, R4⟩
    · have ⟨q0, q1⟩ := qN
      have hb0 := Below.refl w6.heap.size w6
      go_upto_region 4 with fail
      go_region_with (first
        | (go_at_call 242; (with_reducible refine (cO _).mono ?_); rintro en wX ⟨oa, ok, oc, rfl, oF, hbX⟩; have hWX : Below w6.heap.size w6 wX := (by first | exact hbX | exact undrew hbX | exact next (drewn (Below.refl _ _) _) hbX | exact next (drewn (Below.refl _ _) _).drew hbX); have qNX := qN.stay hWX; have ⟨g0, g1⟩ := qNX)
        | (go_at_call 253; (with_reducible refine (cA _ _ _ _ _ _ _ ?_ ?_).mono ?_); (focus (first | exact (qG.below hWX).sl | exact (qG.below hWX).drew.sl)); (focus (first | exact oF.sl | exact oF.drew.sl)); rintro en wY ⟨sa, sk, sc, rfl, sF, hbY⟩; have hXY : Below wX.heap.size wX wY := (by first | exact hbY | exact undrew hbY | exact next (drewn (Below.refl _ _) _) hbY | exact next (drewn (Below.refl _ _) _).drew hbY); have qNY := qNX.stay hXY; have ⟨u0, u1⟩ := qNY))
      all_goals go_wp2
      all_goals go_meet
      all_goals exact ⟨rfl, sa, sk, sc, box1_put7 qNY _, by rw [show M = Q + 1 by simpa using HM.out]; exact (sF.setCell qNX.lt _).mono (Nat.le_trans hz6 hWX.size), (next (next V4 hWX) hXY).setCell (by show w.heap.size ≤ qZ; omega) _, box1_off7 ((R4.stay hWX).stay hXY) (by omega) _ _⟩
  case rest => as_aux_lemma =>
    obtain ⟨rfl, ra, rk, rc, qN', qG', V5, R5⟩ := hcut
    clear qN qG V4 R4
    have ⟨q0, _⟩ := qN'
    have ⟨z0, _⟩ := R5
    go_wp2
    have t0 := World.cell?_setCell_same wc ⟨w.heap.size + 1, 0, none⟩ (.slice ra rk rc) z0
    refine bodyPost_ret (v := .tuple #[.agg #[.slice ra rk rc], .bool lf]) (by simp [results, Tryz.results156, go_sem, t0]) rfl ⟨ra, rk, rc, rfl, (qG'.setCell R2lt _).mono hz0, V5.setCell (by simp) _⟩

theorem bl_len7 {Q j : Nat} (h : (limbs Q).length ≤ j) : blN Q ≤ 32 * j := by
  by_cases h0 : Q = 0
  · subst h0
    simp [blN, limbs_zero, szN]
  · obtain ⟨g1, g2, _⟩ := bl_spec h0
    have g3 := lt_of_limbs_length h
    rw [pow32] at g3
    have := (Nat.pow_lt_pow_iff_right (by decide : 1 < 2)).1 (Nat.lt_of_le_of_lt g2 g3)
    omega

set_option maxRecDepth 100000 in
set_option maxHeartbeats 2000000 in
theorem beyond7_any (E F : Nat) (ao : Option Addr) (k c Q : Nat) (last : Int) (w : World) (hE : 2 ≤ E) (hE2 : E ≤ 11) (h : Sl w ao k c (limbs Q)) (l1 : (limbs Q).length ≤ 10001) (hl1 : -30000 ≤ last) (hl2 : last ≤ 30000) :
    Calls Tryz.prog 259 #[.agg #[.int .i64 (E : Int), .int .i64 (F : Int)], .agg #[.slice ao k c], .int .i64 last] w fun en w' => en = .returned (.bool (decide ((bsN E : Int) + 1 < (blN Q : Int) + last))) ∧ Below w.heap.size w w' := by
  obtain ⟨W2, hW2⟩ : ∃ W2 : World, W2 = (w.alloc (.cells #[.int .i64 (E : Int), .int .i64 (F : Int)] 23)).alloc (.cells #[.slice ao k c] 69) := ⟨_, rfl⟩
  have hb2 : Below w.heap.size w W2 := hW2 ▸ more (more (Below.refl _ _) _) _
  have f0 : W2.cell? ⟨w.heap.size, 0, none⟩ = some (.int .i64 (E : Int)) := by rw [hW2]; simp [World.cell?_alloc_some]
  have f1 : W2.cell? ⟨w.heap.size, 1, none⟩ = some (.int .i64 (F : Int)) := by rw [hW2]; simp [World.cell?_alloc_some]
  have R2 : Box1 W2 (w.heap.size + 1) (.slice ao k c) := by
    have := box1_new (w.alloc (.cells #[.int .i64 (E : Int), .int .i64 (F : Int)] 23)) (.slice ao k c) 69
    rw [World.size_alloc] at this
    exact hW2 ▸ this
  have kB := refBits_any ao k c _ W2 (h.below hb2)
  have hbl : bitsN (limbs Q) = (blN Q : Int) := by unfold bitsN blN; rw [if_pos (chk_lm7 (by omega))]
  rw [hbl] at kB
  have hbb := bl_len7 l1
  have hBi := fun W => bias_any E F W hE hE2
  have hmb : maskN E = 2 * biasN E + 1 := by
    unfold maskN biasN
    have h1 : 2 ^ E = 2 * 2 ^ (E - 1) := by
      rw [show 2 * 2 ^ (E - 1) = 2 ^ (E - 1) * 2 by omega, ← Nat.pow_succ]
      congr 1
      omega
    have := Nat.two_pow_pos (E - 1)
    omega
  have hbe : bsN E = biasN E := by unfold biasN bsN; rfl
  rw [hbe]
  have hple := pw_le (show E ≤ 11 by omega)
  rw [show pw 11 = 2048 by unfold pw; rfl] at hple
  have hpe := pw_pos E
  have hmk := maskN_eq E
  have hx1 : IntKind.u64.wrap (E : Int) = (E : Int) := by rw [IntKind.wrap_u64]; omega
  have hm1 : min E 64 = E := by omega
  have hw1 : IntKind.i64.wrap (2 ^ E) = ((pw E : Nat) : Int) := by
    rw [show (2 : Int) ^ E = ((pw E : Nat) : Int) by unfold pw; rw [Int.natCast_pow]; rfl]
    exact IntWalk.i64_in _ (by constructor <;> omega)
  have hw3 : IntKind.i64.wrap (((pw E : Nat) : Int) - 1) = ((maskN E : Nat) : Int) := by
    rw [IntWalk.i64_in _ (by constructor <;> omega)]
    omega
  have hw4 : IntKind.i64.wrap (((maskN E : Nat) : Int) - (biasN E : Int)) = (biasN E : Int) + 1 := by
    rw [IntWalk.i64_in _ (by constructor <;> omega)]
    omega
  have hw5 : IntKind.i64.wrap ((blN Q : Int) + last) = (blN Q : Int) + last := IntWalk.i64_in _ (by constructor <;> omega)
  clear hmb hbe hple hpe hmk hbb hbl h l1
  generalize blN Q = n at *
  generalize biasN E = bi at *
  generalize maskN E = M at *
  generalize pw E = P at *
  have ⟨r0, _⟩ := R2
  go_enter Tryz.func259, Tryz.ntmps259
  go_upto_region 1 with fail
  rw [← hW2]
  clear hW2
  go_wp2_with fail
  refine kB.mono ?_
  rintro en w3 ⟨rfl, hb3⟩
  have V3 := next hb2 hb3
  replace f0 := cellStay f0 hb3
  replace f1 := cellStay f1 hb3
  clear r0 R2 hb2 hb3 kB
  have hb0 := Below.refl w3.heap.size w3
  have kS : ∀ w' : World, Below w3.heap.size w3 w' → (w'.cell? ⟨w.heap.size, 0, none⟩ = some (.int .i64 (E : Int)) ∧ w'.cell? ⟨w.heap.size, 1, none⟩ = some (.int .i64 (F : Int)) ∧ Below w3.heap.size w3 w') := fun w' hb => ⟨cellStay f0 hb, cellStay f1 hb, hb⟩
  go_upto_region 2 with fail
  go_region_held3 (fun w' => w'.cell? ⟨w.heap.size, 0, none⟩ = some (.int .i64 (E : Int)) ∧ w'.cell? ⟨w.heap.size, 1, none⟩ = some (.int .i64 (F : Int)) ∧ Below w3.heap.size w3 w')
    ((refine kS _ ?_; (repeat (with_reducible (first | assumption | exact Below.refl _ _ | refine Below.drew ?_))); done))
    (first | (go_at_call 258; (with_reducible refine (hBi _).mono ?_); rintro en wB ⟨rfl, hbB⟩; have hWB : Below w3.heap.size w3 wB := (by go_split_ands; exact next (by assumption) hbB)))
  go_split_ands
  go_wp2
  go_ret
  exact ⟨by simp, next V3 (by assumption)⟩

set_option maxRecDepth 100000 in
set_option maxHeartbeats 2000000 in
theorem dyadic7_any (neg : Bool) (ao : Option Addr) (k c : Nat) (x : Int) (xs : List Nat) (w : World) (h : Sl w ao k c xs) :
    Calls Tryz.prog 261 #[.bool neg, .agg #[.slice ao k c], .int .i64 x] w fun en w' => ∃ a' k' c', en = .returned (.agg #[.bool (mkS neg xs x), .slice a' k' c', .int .i64 (mkX xs x)]) ∧ Fr 150 w' w.heap.size a' k' c' (limbs (mkN xs x)) ∧ Below w.heap.size w w' := by
  obtain ⟨W2, hW2⟩ : ∃ W2 : World, W2 = (w.alloc (.cells #[.slice ao k c] 69)).alloc (.cells #[.bool false, .slice none 0 0, .int .i64 0] 81) := ⟨_, rfl⟩
  have hb2 : Below w.heap.size w W2 := hW2 ▸ more (more (Below.refl _ _) _) _
  have x0 : W2.cell? ⟨w.heap.size, 0, none⟩ = some (.slice ao k c) := by rw [hW2]; simp [World.cell?_alloc_some]
  have R2 : Box3 W2 (w.heap.size + 1) (.bool false) (.slice none 0 0) (.int .i64 0) := by
    have := box3_new (w.alloc (.cells #[.slice ao k c] 69)) (.bool false) (.slice none 0 0) (.int .i64 0) 81
    rw [World.size_alloc] at this
    exact hW2 ▸ this
  have kM := rfMake_any neg ao k c xs x W2 (h.below hb2)
  unfold Made at kM
  generalize mkS neg xs x = S at *
  generalize mkX xs x = X at *
  generalize mkN xs x = N at *
  generalize mkE xs x = er at *
  have hz0 := hb2.size
  have R2lt := R2.lt
  clear h
  go_enter Tryz.func261, Tryz.ntmps261
  go_upto_region 1 with fail
  rw [← hW2]
  clear hW2
  go_wp2_with fail
  refine kM.mono ?_
  rintro en w3 ⟨a3, k3, c3, rfl, F3, hb3⟩
  have hs := more hb3 (.cells #[.bool S, .slice a3 k3 c3, .int .i64 X] 81)
  have V4 := next hb2 hs
  have R4 := R2.stay hs
  have N4 := box3_new w3 (.bool S) (.slice a3 k3 c3) (.int .i64 X) 81
  have G3 := F3.alloc (.cells #[.bool S, .slice a3 k3 c3, .int .i64 X] 81)
  clear x0 R2 hb2 hs hb3 F3 kM
  go_upto_region 2 with fail
  obtain ⟨Y, hY⟩ : ∃ q, q = w3.heap.size := ⟨_, rfl⟩
  rw [← hY] at N4 ⊢
  clear hY
  generalize w3.alloc (.cells #[.bool S, .slice a3 k3 c3, .int .i64 X] 81) = w4 at *
  have ⟨n0, n1, n2, _, _, _⟩ := N4
  have ⟨r0, r1, r2, _, _, _⟩ := R4
  go_wp2
  obtain ⟨t0, t1, t2⟩ := R4.set (.bool S) (.slice a3 k3 c3) (.int .i64 X)
  refine bodyPost_ret (v := .agg #[.bool S, .slice a3 k3 c3, .int .i64 X]) (by simp [results, Tryz.results261, go_sem, t0, t1, t2]) rfl ⟨a3, k3, c3, rfl, (((G3.setCell R2lt _).setCell R2lt _).setCell R2lt _).mono hz0, ((V4.setCell (by simp) _).setCell (by simp) _).setCell (by simp) _⟩

end Go.Proofs.YtkifhlgmbckekaaGreatDoor

