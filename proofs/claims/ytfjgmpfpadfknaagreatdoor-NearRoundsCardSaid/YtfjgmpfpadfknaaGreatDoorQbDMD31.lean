/-
  The walks of near.Up and Down; of the reference's Higher and Lower.
-/
import Derived.Test.YtfjgmpfpadfknaaGreatDoorQbDMD30
import Derived.Test.YtfjgmpfpadfknaaGreatDoorQbDMD29
import Derived.Laws.StructEq
import Derived.Test.YtfjgmpfpadfknaaGreatDoorQbDWorth
import Derived.Test.YtfjgmpfpadfknaaGreatDoorQbDMD27
import Derived.Test.YtfjgmpfpadfknaaGreatDoorQbDSumNs
namespace Go.Proofs.YtfjgmpfpadfknaaGreatDoor

open Go.RowKit Go.Lb

attribute [local go_sem] Go.World.cell?_alloc_some

theorem eqArr1 {P : Program} (d : Nat) (t e : TypeId) (p q : Int) (W : World) (h : P.underlying t = some (.array 1 e)) (he : P.underlying e = some (.int .u64)) (hs : (P.info? e).map (·.size) = some 1) : (Op.equalIn (d + 1 + 1) t (.agg #[.int .u64 p]) (.agg #[.int .u64 q])).run P W = .ok (p == q) W := by
  obtain ⟨i, hi, hz⟩ := Option.map_eq_some_iff.1 hs
  have hI := run_equalIn_int W d e .u64 .u64 p q he
  rw [Op.equalIn]
  simp [run_underlying h, Go.sizeOf, typeInfo, hi, hz, part, isAgg, run_underlying he, hI]
  by_cases hpq : p = q
  · simp [hpq]
  · simp [hpq]

theorem eqArr (p q : Int) (W : World) : (Op.equalIn 10000 146 (.agg #[.int .u64 p]) (.agg #[.int .u64 q])).run Tryz.prog W = .ok (p == q) W :=
  eqArr1 9998 146 24 p q W Tryz.underlying146 Tryz.underlying24 (by kernel_rfl)

theorem one_cells {pl b : Nat} (hb : b < 18446744073709551616) {W : World} (c0 : W.cell? ⟨pl, 0, none⟩ = some (.int .u64 (b : Int))) : ∀ j, (h : j < [b].length) → [b][j] < 18446744073709551616 ∧ W.cell? ⟨pl, j, none⟩ = some (.int .u64 ([b][j] : Nat)) := by
  intro j hj
  match j, hj with
  | 0, _ => exact ⟨hb, c0⟩

theorem askL_one (e f : Int) (b : Nat) : askL e f [b] = fitsE e f b := by
  show (if fitsE e f b ≠ 0 then fitsE e f b else 0) = _
  by_cases h : fitsE e f b = 0
  · rw [if_neg (by simp [h]), h]
  · rw [if_pos h]

theorem anN_one (e f b : Nat) : anN e f [b] = nanB e f b := by unfold anN; simp

set_option maxRecDepth 100000 in
set_option maxHeartbeats 2000000 in
theorem nearUp0_any (e f : Int) (b : Nat) (w : World) (hb : b < 18446744073709551616) :
    Calls Tryz.prog 63 #[.agg #[.int .i64 e, .int .i64 f], .int .u64 (b : Int), .bool true] w fun en w' => en = .returned (.tuple #[.int .u64 (hiB e f b : Int), .int .i64 (hiE e f b)]) ∧ Below w.heap.size w w' := by
  have cN := fun W hv => nearNumber_any (w.heap.size + 1) e f [b] W (by simp) (by simp) hv
  rw [askL_one, anN_one] at cN
  have A0 := (box2_new w (.int .i64 e) (.int .i64 f) 23).alloc (.cells #[.int .u64 (b : Int)] 24)
  have hW0 := more (more (Below.refl w.heap.size w) (.cells #[.int .i64 e, .int .i64 f] 23)) (.cells #[.int .u64 (b : Int)] 24)
  by_cases h0 : fitsE e f b = 0
  · obtain ⟨h1, hp⟩ := fitsE_parts h0
    obtain ⟨q1, q2, q3, q4⟩ := formE_ok h1
    obtain ⟨e, rfl⟩ := Int.eq_ofNat_of_zero_le (by omega : 0 ≤ e)
    obtain ⟨f, rfl⟩ := Int.eq_ofNat_of_zero_le (by omega : 0 ≤ f)
    replace hp : b < pw (1 + e + f) := hp
    rw [h0] at cN
    have hE : hiE (e : Int) (f : Int) b = if nanB e f b = true then 2 else if sgB e f b = true ∧ mgN e f b ≠ 0 then 0 else if infB e f b = true then 60 else 0 := if_neg (by simp [h0])
    have hB : hiB (e : Int) (f : Int) b = if hiE (e : Int) (f : Int) b = 0 then hiN e f b else 0 := rfl
    replace cN : ∀ W, (∀ j, (h : j < [b].length) → [b][j] < 18446744073709551616 ∧ W.cell? ⟨w.heap.size + 1, j, none⟩ = some (.int .u64 ([b][j] : Nat))) → Calls Tryz.prog 47 #[.agg #[.int .i64 (e : Int), .int .i64 (f : Int)], .slice (some ⟨w.heap.size + 1, 0, none⟩) 1 1] W fun en w' => en = .returned (.tuple #[.int .i64 0, .bool (!nanB e f b)]) ∧ Below W.heap.size W w' := cN
    cases hn : nanB e f b
    · rw [hn] at cN hE
      have he1 := up_end h1 hp hn
      have cI := fun W => formsInf_any e f false W h1
      obtain ⟨J, hJ⟩ : ∃ J, J = joinN e f false (maskN e) 0 := ⟨_, rfl⟩
      have hJp : J < pw (1 + e + f) := by rw [hJ, jn_inf]; exact (sg_mk (if_lt h1).2 false).1
      have cP := fun W => nearPlace_any e f b W h1 hp
      have cQ := fun W => nearPlace_any e f J W h1 hJp
      rw [← hJ] at cI he1
      have hpl : plN e f b < 18446744073709551616 := by
        have := pw_one_more e f
        have := (top63 h1).2
        unfold plN
        split <;> omega
      cases hi : (!sgB e f b && infB e f b)
      · obtain ⟨ha, hl⟩ := up_at h1 hp hn hi
        have hne : hiE (e : Int) (f : Int) b = 0 := by
          rw [hE, if_neg (by decide)]
          split
          · rfl
          · rename_i hh
            rw [if_neg]
            intro hI
            rw [hI] at hi
            rw [inf_iff] at hI
            have := (if_lt h1).1
            have := of_decide_eq_true hI
            cases hs : sgB e f b
            · rw [hs] at hi; cases hi
            · exact hh ⟨hs, by omega⟩
        rw [hB, hne, if_pos rfl]
        rw [hi] at he1
        have he2 := of_decide_eq_false he1
        have cA := fun W => nearAt_any e f ((plN e f b + 1) % 18446744073709551616) true W h1 (Nat.mod_lt _ (by decide)) hl
        rw [ha] at cA
        have hw1 : IntKind.u64.wrap ((plN e f b : Int) + 1) = (((plN e f b + 1) % 18446744073709551616 : Nat) : Int) := by rw [IntKind.wrap_u64]; omega
        generalize plN e f b = p at *
        generalize plN e f J = q at *
        generalize (p + 1) % 18446744073709551616 = r at *
        generalize hiN e f b = H at *
        have he3 : ((p : Int) == (q : Int)) = false := by simp; omega
        have he4 : ¬ ((p : Int) = (q : Int)) := by omega
        have hq := fun W => eqArr (p : Int) (q : Int) W
        clear hB hE hne ha hl he1 hn hi hJ h0 hJp
        go_enter Tryz.func63, Tryz.ntmps63
        go_wp2_with (first
          | (go_at_call 47; (with_reducible refine (cN _ (one_cells hb (by simp))).mono ?_); rintro en w1 ⟨rfl, hb1⟩; have A1 := A0.stay hb1; have ⟨a0, a1⟩ := A1; have hW1 := next hW0 hb1)
          | (go_at_call 114; (with_reducible refine (cI _).mono ?_); rintro en w3 ⟨rfl, hb3⟩; have A3 := A2.stay hb3; have ⟨c0, c1⟩ := A3; have hW3 := next hW2 hb3)
          | (go_at_call 77; (with_reducible refine (cP _).mono ?_); rintro en w2 ⟨rfl, hb2⟩; have A2 := A1.stay hb2; have ⟨b0, b1⟩ := A2; have hW2 := next hW1 hb2)
          | (go_at_call 77; (with_reducible refine (cQ _).mono ?_); rintro en w4 ⟨rfl, hb4⟩; have A4 := A3.stay hb4; have ⟨d0, d1⟩ := A4; have hW4 := next hW3 hb4)
          | (go_at_call 115; (with_reducible refine (cA _).mono ?_); rintro en w5 ⟨rfl, hb5⟩; have hW5 := next hW4 hb5))
        refine bodyPost_ret (v := .tuple #[.int .u64 (H : Int), .int .i64 0]) (by simp [results, Tryz.results63, go_sem]) rfl ⟨rfl, hW5⟩
      · have hne : hiE (e : Int) (f : Int) b = 60 := by
          rw [hE, if_neg (by decide)]
          have hs : sgB e f b = false ∧ infB e f b = true := by simpa using hi
          rw [if_neg (by rw [hs.1]; simp), if_pos hs.2]
        rw [hB, hne, if_neg (by decide)]
        rw [hi] at he1
        have he2 := of_decide_eq_true he1
        rw [← he2] at cQ
        generalize plN e f b = p at *
        have hq := fun W => eqArr (p : Int) (p : Int) W
        clear hB hE hne he1 hn hi hJ h0 hJp he2
        go_enter Tryz.func63, Tryz.ntmps63
        go_wp2_with (first
          | (go_at_call 47; (with_reducible refine (cN _ (one_cells hb (by simp))).mono ?_); rintro en w1 ⟨rfl, hb1⟩; have A1 := A0.stay hb1; have ⟨a0, a1⟩ := A1; have hW1 := next hW0 hb1)
          | (go_at_call 114; (with_reducible refine (cI _).mono ?_); rintro en w3 ⟨rfl, hb3⟩; have A3 := A2.stay hb3; have ⟨c0, c1⟩ := A3; have hW3 := next hW2 hb3)
          | (go_at_call 77; (with_reducible refine (cP _).mono ?_); rintro en w2 ⟨rfl, hb2⟩; have A2 := A1.stay hb2; have ⟨b0, b1⟩ := A2; have hW2 := next hW1 hb2)
          | (go_at_call 77; (with_reducible refine (cQ _).mono ?_); rintro en w4 ⟨rfl, hb4⟩; have A4 := A3.stay hb4; have ⟨d0, d1⟩ := A4; have hW4 := next hW3 hb4))
        refine bodyPost_ret (v := .tuple #[.int .u64 0, .int .i64 60]) (by simp [results, Tryz.results63, go_sem]) rfl ⟨rfl, hW4⟩
    · rw [hn] at cN hE
      have hne : hiE (e : Int) (f : Int) b = 2 := by rw [hE, if_pos rfl]
      rw [hB, hne, if_neg (by decide)]
      clear hB hE hne hn h0
      go_enter Tryz.func63, Tryz.ntmps63
      go_wp2_with (go_at_call 47; (with_reducible refine (cN _ (one_cells hb (by simp))).mono ?_); rintro en w1 ⟨rfl, hb1⟩; have A1 := A0.stay hb1; have ⟨a0, a1⟩ := A1; have hW1 := next hW0 hb1)
      refine bodyPost_ret (v := .tuple #[.int .u64 0, .int .i64 2]) (by simp [results, Tryz.results63, go_sem]) rfl ⟨rfl, hW1⟩
  · have hE : hiE e f b = fitsE e f b := if_pos h0
    have hB : hiB e f b = 0 := if_neg (by rw [hE]; exact h0)
    rw [hB, hE]
    have hBB : (fitsE e f b != 0) = true := by simp [h0]
    clear hE hB
    generalize (decide (fitsE e f b = 0) && !nanB e.toNat f.toNat b) = is at cN
    generalize fitsE e f b = E at *
    go_enter Tryz.func63, Tryz.ntmps63
    go_wp2_with (go_at_call 47; refine (cN _ (one_cells hb (by simp))).mono ?_; rintro en w1 ⟨rfl, hb1⟩; have hW1 := next hW0 hb1)
    refine bodyPost_ret (v := .tuple #[.int .u64 0, .int .i64 E]) (by simp [results, Tryz.results63, go_sem]) rfl ⟨rfl, hW1⟩

-- PRINTED by wip/gen/neardn.py

set_option maxRecDepth 100000 in
theorem nearUp_any (e f : Int) (b : Nat) (w : World) (hb : b < 18446744073709551616) :
    Calls Tryz.prog 16 #[.agg #[.int .i64 e, .int .i64 f], .int .u64 (b : Int)] w fun en w' => en = .returned (.tuple #[.int .u64 (hiB e f b : Int), .int .i64 (hiE e f b)]) ∧ Below w.heap.size w w' := by
  have cB := fun W => nearUp0_any e f b W hb
  generalize hiB e f b = B at *
  generalize hiE e f b = E at *
  go_enter Tryz.func16, Tryz.ntmps16
  go_wp2_with (go_at_call 63; refine (cB _).mono ?_; rintro en w1 ⟨rfl, hb1⟩)
  refine bodyPost_ret (v := .tuple #[.int .u64 (B : Int), .int .i64 E]) (by simp [results, Tryz.results16, go_sem]) rfl ⟨rfl, next (more (Below.refl _ _) _) hb1⟩

/-! The reference's side. -/

end Go.Proofs.YtfjgmpfpadfknaaGreatDoor

/-
  The walks of near.unit, Ulp, Steps; of the reference's unit, power, Ulp.
-/
namespace Go.Proofs.YtfjgmpfpadfknaaGreatDoor

open Go.RowKit Go.Lb

attribute [local go_sem] Go.World.cell?_alloc_some

set_option maxRecDepth 100000 in
theorem formsRange_any (e f : Nat) (w : World) (h : formE (e : Int) (f : Int) = 0) :
    Calls Tryz.prog 122 #[.agg #[.int .i64 (e : Int), .int .i64 (f : Int)]] w fun en w' => en = .returned (.tuple #[.int .i64 (baseI e f), .int .i64 (biasN e : Int), .int .i64 0]) ∧ Below w.heap.size w w' := by
  obtain ⟨q1, q2, q3, q4⟩ := formE_ok h
  have cC := fun W => formCheck_any (e : Int) (f : Int) W
  rw [h] at cC
  have hb := bias_small (e := e) (by omega)
  have cM := fun W => mask_any (e - 1) W (by omega)
  have hme : maskN (e - 1) = biasN e := by unfold maskN biasN; rfl
  rw [hme] at cM
  have hB : baseI e f = 1 - (biasN e : Int) - f := rfl
  have he1 : (e : Int) - 1 = ((e - 1 : Nat) : Int) := by omega
  have hw1 : IntKind.i64.wrap (biasN e : Int) = (biasN e : Int) := by rw [IntKind.wrap_i64]; omega
  have hw2 : IntKind.i64.wrap (1 - (biasN e : Int)) = 1 - (biasN e : Int) := by rw [IntKind.wrap_i64]; omega
  have hw3 : IntKind.i64.wrap (1 - (biasN e : Int) - (f : Int)) = baseI e f := by rw [IntKind.wrap_i64, hB]; omega
  clear hB hme
  generalize baseI e f = R at *
  generalize biasN e = B at *
  have A0 := box2_new w (.int .i64 (e : Int)) (.int .i64 (f : Int)) 23
  have hW0 := more (Below.refl w.heap.size w) (.cells #[.int .i64 (e : Int), .int .i64 (f : Int)] 23)
  go_enter Tryz.func122, Tryz.ntmps122
  go_wp2_with (first
    | (go_at_call 127; refine (cC _).mono ?_; rintro en w1 ⟨rfl, hb1⟩; have A1 := A0.stay hb1; have ⟨a0, a1⟩ := A1; have hW1 := next hW0 hb1)
    | (go_at_call 72; refine (cM _).mono ?_; rintro en w2 ⟨rfl, rfl⟩))
  refine bodyPost_ret (v := .tuple #[.int .i64 R, .int .i64 (B : Int), .int .i64 0]) (by simp [results, Tryz.results122, go_sem]) rfl ⟨rfl, hW1⟩

/-- The exponent of two of a finite float's unit. -/
def unI (e f b : Nat) : Int := baseI e f + ((max (exN e f b) 1 : Nat) : Int) - 1

theorem un_small {e f b : Nat} (h : formE (e : Int) (f : Int) = 0) : -1200 ≤ unI e f b ∧ unI e f b ≤ 2100 := by
  obtain ⟨q1, q2, q3, q4⟩ := formE_ok h
  have hb := bias_small (e := e) (by omega)
  have hx := ex_mask e f b
  have hm : maskN e ≤ 2047 := maskN_lt11 (by omega)
  unfold unI baseI
  omega

set_option maxRecDepth 100000 in
theorem nearUnit_any (e f b : Nat) (w : World) (h : formE (e : Int) (f : Int) = 0) (hb : b < 18446744073709551616) (hp : b < pw (1 + e + f)) :
    Calls Tryz.prog 69 #[.agg #[.int .i64 (e : Int), .int .i64 (f : Int)], .int .u64 (b : Int)] w fun en w' => en = .returned (.int .i64 (unI e f b)) ∧ Below w.heap.size w w' := by
  obtain ⟨q1, q2, q3, q4⟩ := formE_ok h
  have cS := fun W => split_any e f b W h hb hp
  have cR := fun W => formsRange_any e f W h
  obtain ⟨u1, u2⟩ := un_small (b := b) h
  have hbs := bias_small (e := e) (by omega)
  have hB : baseI e f = 1 - (biasN e : Int) - f := rfl
  have hx := ex_mask e f b
  have hm : maskN e ≤ 2047 := maskN_lt11 (by omega)
  have hU : unI e f b = baseI e f + ((max (exN e f b) 1 : Nat) : Int) - 1 := rfl
  have hmx : max ((exN e f b : Nat) : Int) 1 = ((max (exN e f b) 1 : Nat) : Int) := by omega
  have hw1 : IntKind.i64.wrap (baseI e f + ((max (exN e f b) 1 : Nat) : Int)) = baseI e f + ((max (exN e f b) 1 : Nat) : Int) := by rw [IntKind.wrap_i64]; omega
  have hw2 : IntKind.i64.wrap (baseI e f + ((max (exN e f b) 1 : Nat) : Int) - 1) = unI e f b := by rw [IntKind.wrap_i64, hU]; omega
  clear hU hB
  generalize max (exN e f b) 1 = M at *
  generalize exN e f b = X at *
  generalize baseI e f = B at *
  generalize unI e f b = U at *
  have A0 := box2_new w (.int .i64 (e : Int)) (.int .i64 (f : Int)) 23
  have hW0 := more (Below.refl w.heap.size w) (.cells #[.int .i64 (e : Int), .int .i64 (f : Int)] 23)
  go_enter Tryz.func69, Tryz.ntmps69
  go_wp2_with (first
    | (go_at_call 40; refine (cS _).mono ?_; rintro en w1 ⟨rfl, hb1⟩; have A1 := (A0.stay hb1).alloc (.cells #[.bool (sgB e f b), .int .i64 (X : Int), .int .u64 (frN f b)] 68); have ⟨a0, a1⟩ := A1; have P1 := box3_new w1 (.bool (sgB e f b)) (.int .i64 (X : Int)) (.int .u64 (frN f b)) 68; have hW1 := more (next hW0 hb1) (.cells #[.bool (sgB e f b), .int .i64 (X : Int), .int .u64 (frN f b)] 68))
    | (go_at_call 122; refine (cR _).mono ?_; rintro en w2 ⟨rfl, hb2⟩; have P2 := P1.stay hb2; have ⟨p0, p1, p2, _, _, _⟩ := P2; have hW2 := next hW1 hb2))
  refine bodyPost_ret (v := .int .i64 U) (by simp [results, Tryz.results69, go_sem]) rfl ⟨rfl, hW2⟩

/-- One times a power of two. -/
theorem mk_one (s : Bool) {x : Int} (h1 : -100000 ≤ x) (h2 : x ≤ 100000) : mkS s (limbs 1) x = s ∧ mkN (limbs 1) x = 1 ∧ mkX (limbs 1) x = x ∧ mkE (limbs 1) x = 0 := by
  have h := mkA_ok (s := s) (S := 1) (x := x) (b := x) (K := 1) (Int.le_refl _) (by unfold upW; simp) (by decide) (by omega) (by omega)
  have htz : tz 1 = 0 := by decide +kernel
  have hB : mkB (limbs 1) x = true := by
    unfold mkB
    rw [val_limbs']
    exact decide_eq_true ⟨chk_limbs h.1, by decide, by omega, by omega, by rw [htz]; omega, by rw [htz]; omega⟩
  obtain ⟨k1, k2, k3, k4⟩ := mk_yes s hB
  rw [val_limbs', htz] at k1 k2
  exact ⟨k3, by simpa using k1, by simpa using k2, k4⟩

/-- What Ulp answers. -/
def ulD (e f : Int) (b : Nat) : Ds := if fnE e f [b] = 0 then ⟨false, 1, unI e.toNat f.toNat b, 0⟩ else noA (fnE e f [b])

theorem anI_one (e f b : Nat) : anI e f [b] = decide (exN e f b = maskN e) := by unfold anI; simp

theorem fn_ok {e f : Int} {b : Nat} (h : fnE e f [b] = 0) : fitsE e f b = 0 ∧ exN e.toNat f.toNat b ≠ maskN e.toNat := by
  unfold fnE at h
  rw [askL_one, anI_one] at h
  by_cases h0 : fitsE e f b = 0
  · rw [if_neg (by simp [h0])] at h
    refine ⟨h0, fun hx => ?_⟩
    rw [decide_eq_true hx, if_pos rfl] at h
    cases h
  · rw [if_pos h0] at h
    exact absurd h h0

end Go.Proofs.YtfjgmpfpadfknaaGreatDoor

/-
  The walks of near.Ulp, Steps; of the reference's unit, power, Ulp.
-/
namespace Go.Proofs.YtfjgmpfpadfknaaGreatDoor

open Go.RowKit Go.Lb

attribute [local go_sem] Go.World.cell?_alloc_some

set_option maxRecDepth 100000 in
set_option maxHeartbeats 2000000 in
theorem nearUlp_any (e f : Int) (b : Nat) (w : World) (hb : b < 18446744073709551616) (hT : Tab w) :
    Calls Tryz.prog 20 #[.agg #[.int .i64 e, .int .i64 f], .int .u64 (b : Int)] w (Dyn (ulD e f b) w) := by
  obtain ⟨W2, hW2⟩ : ∃ W2 : World, W2 = (w.alloc (.cells #[.int .i64 e, .int .i64 f] 23)).alloc (.cells #[.bool false, .slice none 0 0, .int .i64 0] 41) := ⟨_, rfl⟩
  have hb2 : Below w.heap.size w W2 := hW2 ▸ more (more (Below.refl _ _) _) _
  have f0 : W2.cell? ⟨w.heap.size, 0, none⟩ = some (.int .i64 e) := by rw [hW2]; simp
  have f1 : W2.cell? ⟨w.heap.size, 1, none⟩ = some (.int .i64 f) := by rw [hW2]; simp
  have R2 : Box3 W2 (w.heap.size + 1) (.bool false) (.slice none 0 0) (.int .i64 0) := by
    have := box3_new (w.alloc (.cells #[.int .i64 e, .int .i64 f] 23)) (.bool false) (.slice none 0 0) (.int .i64 0) 41
    rw [World.size_alloc] at this
    exact hW2 ▸ this
  obtain ⟨W3, hW3⟩ : ∃ W3 : World, W3 = W2.alloc (.cells #[.int .u64 (b : Int)] 24) := ⟨_, rfl⟩
  have hb3 : Below W2.heap.size W2 W3 := hW3 ▸ more (Below.refl _ _) _
  have v0 : W3.cell? ⟨W2.heap.size, 0, none⟩ = some (.int .u64 (b : Int)) := by rw [hW3]; simp
  have cF := nearFinite_any W2.heap.size e f [b] W3 (by simp) (by simp) (one_cells hb v0)
  have hT3 := (hT.below hb2).below hb3
  by_cases h0 : fnE e f [b] = 0
  · obtain ⟨h1, hx⟩ := fn_ok h0
    obtain ⟨hf, hp⟩ := fitsE_parts h1
    obtain ⟨q1, q2, q3, q4⟩ := formE_ok hf
    obtain ⟨e, rfl⟩ := Int.eq_ofNat_of_zero_le (by omega : 0 ≤ e)
    obtain ⟨f, rfl⟩ := Int.eq_ofNat_of_zero_le (by omega : 0 ≤ f)
    replace hp : b < pw (1 + e + f) := hp
    have hD : ulD (e : Int) (f : Int) b = ⟨false, 1, unI e f b, 0⟩ := if_pos h0
    rw [hD]
    rw [h0] at cF
    have cO : ∀ W, Calls Tryz.prog 68 #[.int .u64 1] W _ := fun W => natOf_any 1 W (by decide)
    have cU := fun W => nearUnit_any e f b W hf hb hp
    obtain ⟨u1, u2⟩ := un_small (b := b) hf
    obtain ⟨k1, k2, k3, k4⟩ := mk_one false (x := unI e f b) (by omega) (by omega)
    have cM := fun ao n c W (j : Sl W ao n c (limbs 1)) hT => exMake_any false ao n c (limbs 1) (unI e f b) W j hT
    unfold Made at cM
    rw [k1, k2, k3, k4] at cM
    generalize unI e f b = U at *
    clear hD h0 h1 hx hf hp q1 q2 q3 q4 u1 u2 k1 k2 k3 k4 hT
    go_enter Tryz.func20, Tryz.ntmps20
    go_upto_region 1 with fail
    rw [← hW2]
    clear hW2
    go_wp2_with fail
    rw [← hW3]
    refine cF.mono ?_
    rintro en w4 ⟨rfl, hb4⟩
    have hs := next hb3 hb4
    have hT4 := hT3.below hb4
    have V4 := next hb2 hs
    replace f0 := cellStay f0 hs
    replace f1 := cellStay f1 hs
    have R4 := R2.stay hs
    clear R2 hb2 hb3 hb4 hs v0 cF hT3 hW3
    go_upto_region 4 with fail
    have hbb := Below.refl w4.heap.size w4
    go_region_held3 (fun w' => w'.cell? ⟨w.heap.size, 0, none⟩ = some (.int .i64 (e : Int)) ∧ w'.cell? ⟨w.heap.size, 1, none⟩ = some (.int .i64 (f : Int)) ∧ Below w.heap.size w w')
      ((go_split_ands; refine ⟨?_, ?_, ?_⟩ <;> (first | assumption | exact Below.drew (by assumption) | exact cellStay (by assumption) hbX | exact next (by assumption) hbX | (exact Below.setCell (Below.setCell (Below.setCell (by assumption) (by simp) _) (by simp) _) (by simp) _) | (go_keep; done))))
      (first
        | (go_at_call 68; (with_reducible refine (cO _).mono ?_); rintro en wX ⟨oa, ok, oc, rfl, oF, hbX⟩; have hAX : Below w4.heap.size w4 wX := (by first | exact hbX | exact undrew hbX); have oG := oF.sl; have hTX := hT4.below hAX)
        | (go_at_call 69; (with_reducible refine (cU _).mono ?_); rintro en wY ⟨rfl, hbX⟩; have hAY : Below w4.heap.size w4 wY := (by first | exact hbX | exact undrew hbX | exact next hAX hbX | exact next hAX.drew hbX); have hTY := hT4.below hAY; (try have oG2 := oG.below hbX))
        | (go_at_call 67; (with_reducible refine (cM _ _ _ _ oG2 hTY).mono ?_); rintro en wZ ⟨ma, mk, mc, rfl, mF, hbX⟩; have hAZ : Below w4.heap.size w4 wZ := next hAY hbX; have RZ := R4.stay hAZ; have ⟨r0, r1, r2, rz0, rz1, rz2⟩ := RZ))
    go_split_ands
    obtain ⟨t0, t1, t2⟩ := RZ.set (.bool false) (.slice ma mk mc) (.int .i64 U)
    go_wp2
    refine bodyPost_ret (v := .tuple #[.agg #[.bool false, .slice ma mk mc, .int .i64 U], .int .i64 0]) (by simp [results, Tryz.results20, go_sem, t0, t1, t2]) rfl ⟨ma, mk, mc, rfl, ?_, by assumption⟩
    have hl : w.heap.size + 1 < w4.heap.size := World.block_lt_of_cell? w4 ⟨w.heap.size + 1, 0, none⟩ R4.c0
    exact ((((mF.mono hAY.size).setCell (by simpa using hl) _).setCell (by simpa using hl) _).setCell (by simpa using hl) _).mono (by omega)
  · have hD : ulD e f b = noA (fnE e f [b]) := if_neg h0
    rw [hD]
    have hB : (fnE e f [b] != 0) = true := by simp [h0]
    clear hD
    generalize fnE e f [b] = E at *
    go_enter Tryz.func20, Tryz.ntmps20
    go_upto_region 1 with fail
    rw [← hW2]
    clear hW2
    go_wp2_with fail
    rw [← hW3]
    refine cF.mono ?_
    rintro en w4 ⟨rfl, hb4⟩
    have hs := next hb3 hb4
    have V4 := next hb2 hs
    have R4 := R2.stay hs
    have ⟨r0, r1, r2, rz0, rz1, rz2⟩ := R4
    go_wp2
    obtain ⟨t0, t1, t2⟩ := R4.set (.bool false) (.slice none 0 0) (.int .i64 0)
    refine bodyPost_ret (v := .tuple #[.agg #[.bool false, .slice none 0 0, .int .i64 0], .int .i64 E]) (by simp [results, Tryz.results20, go_sem, t0, t1, t2]) rfl (dyn_no (((V4.setCell (by simp) _).setCell (by simp) _).setCell (by simp) _))

end Go.Proofs.YtfjgmpfpadfknaaGreatDoor

/-
  The walks of near.Steps; of the reference's Ulp.
-/
namespace Go.Proofs.YtfjgmpfpadfknaaGreatDoor

open Go.RowKit Go.Lb

attribute [local go_sem] Go.World.cell?_alloc_some

/-- Steps: the error; downward?; how many. -/
def stE (e f : Int) (a b : Nat) : Int := if twoE e f a b ≠ 0 then twoE e f a b else if (nanB e.toNat f.toNat a || nanB e.toNat f.toNat b) = true then 2 else 0

def stD (e f a b : Nat) : Bool := decide (IntKind.i64.wrap (plN e f b : Int) < IntKind.i64.wrap (plN e f a : Int))

def stI (e f a b : Nat) : Int := if stD e f a b = true then IntKind.u64.wrap ((plN e f a : Int) - (plN e f b : Int)) else IntKind.u64.wrap ((plN e f b : Int) - (plN e f a : Int))

theorem two_cells {pl a b : Nat} (ha : a < 18446744073709551616) (hb : b < 18446744073709551616) {W : World} (c0 : W.cell? ⟨pl, 0, none⟩ = some (.int .u64 (a : Int))) (c1 : W.cell? ⟨pl, 1, none⟩ = some (.int .u64 (b : Int))) : ∀ j, (h : j < [a, b].length) → [a, b][j] < 18446744073709551616 ∧ W.cell? ⟨pl, j, none⟩ = some (.int .u64 ([a, b][j] : Nat)) := by
  intro j hj
  match j, hj with
  | 0, _ => exact ⟨ha, c0⟩
  | 1, _ => exact ⟨hb, c1⟩

theorem anN_two (e f a b : Nat) : anN e f [a, b] = (nanB e f a || nanB e f b) := by unfold anN; simp

set_option maxRecDepth 100000 in
set_option maxHeartbeats 2000000 in
theorem nearSteps_ok (e f a b : Nat) (w : World) (h : stE (e : Int) (f : Int) a b = 0) (ha : a < 18446744073709551616) (hb : b < 18446744073709551616) :
    Calls Tryz.prog 26 #[.agg #[.int .i64 (e : Int), .int .i64 (f : Int)], .int .u64 (a : Int), .int .u64 (b : Int)] w fun en w' => en = .returned (.tuple #[.bool (stD e f a b), .int .u64 (stI e f a b), .int .i64 0]) ∧ Below w.heap.size w w' := by
  have cN := fun W hv => nearNumber_any (w.heap.size + 1) (e : Int) (f : Int) [a, b] W (by simp) (by simp) hv
  rw [askL_two, anN_two] at cN
  have h0 : twoE (e : Int) (f : Int) a b = 0 := by
    by_cases h0 : twoE (e : Int) (f : Int) a b = 0
    · exact h0
    · unfold stE at h
      rw [if_pos h0] at h
      exact absurd h h0
  have hn : (nanB e f a || nanB e f b) = false := by
    unfold stE at h
    rw [if_neg (by simp [h0])] at h
    cases hh : (nanB e f a || nanB e f b)
    · rfl
    · have : (if (nanB (e : Int).toNat (f : Int).toNat a || nanB (e : Int).toNat (f : Int).toNat b) = true then (2 : Int) else 0) = 2 := if_pos hh
      rw [this] at h
      cases h
  replace cN : ∀ W, (∀ j, (h : j < [a, b].length) → [a, b][j] < 18446744073709551616 ∧ W.cell? ⟨w.heap.size + 1, j, none⟩ = some (.int .u64 ([a, b][j] : Nat))) → Calls Tryz.prog 47 #[.agg #[.int .i64 (e : Int), .int .i64 (f : Int)], .slice (some ⟨w.heap.size + 1, 0, none⟩) 2 2] W fun en w' => en = .returned (.tuple #[.int .i64 (twoE (e : Int) (f : Int) a b), .bool (decide (twoE (e : Int) (f : Int) a b = 0) && !(nanB e f a || nanB e f b))]) ∧ Below W.heap.size W w' := cN
  rw [h0, hn] at cN
  obtain ⟨p1, p2⟩ := twoE_ok h0
  have hf := (fitsE_parts p1).1
  have l1 : a < pw (1 + e + f) := (fitsE_parts p1).2
  have l2 : b < pw (1 + e + f) := (fitsE_parts p2).2
  have cP := fun W => nearPlace_any e f a W hf l1
  have cQ := fun W => nearPlace_any e f b W hf l2
  have hS : stI e f a b = if stD e f a b = true then IntKind.u64.wrap ((plN e f a : Int) - (plN e f b : Int)) else IntKind.u64.wrap ((plN e f b : Int) - (plN e f a : Int)) := rfl
  have hD : stD e f a b = decide (IntKind.i64.wrap (plN e f b : Int) < IntKind.i64.wrap (plN e f a : Int)) := rfl
  have HS := Lib.hid hS
  have HD := Lib.hid hD
  clear hS hD h h0 hn p1 p2 hf l1 l2
  generalize stI e f a b = I at *
  generalize stD e f a b = D at *
  generalize plN e f a = x at *
  generalize plN e f b = y at *
  have A0 := (box2_new w (.int .i64 (e : Int)) (.int .i64 (f : Int)) 23).alloc (.cells #[.int .u64 (a : Int), .int .u64 (b : Int)] 24)
  have hW0 := more (more (Below.refl w.heap.size w) (.cells #[.int .i64 (e : Int), .int .i64 (f : Int)] 23)) (.cells #[.int .u64 (a : Int), .int .u64 (b : Int)] 24)
  go_enter Tryz.func26, Tryz.ntmps26
  go_upto_region 1 with fail
  go_wp2_with fail
  refine (cN _ (two_cells ha hb (by simp) (by simp))).mono ?_
  rintro en w1 ⟨rfl, hb1⟩
  have A1 := A0.stay hb1
  have ⟨a0, a1⟩ := A1
  have hW1 := next hW0 hb1
  clear A0 hW0 hb1
  go_upto_region 6 with fail
  have hbb := Below.refl w1.heap.size w1
  go_region_held3 (fun w' => w'.cell? ⟨w.heap.size, 0, none⟩ = some (.int .i64 (e : Int)) ∧ w'.cell? ⟨w.heap.size, 1, none⟩ = some (.int .i64 (f : Int)) ∧ Below w1.heap.size w1 w')
    ((go_split_ands; refine ⟨?_, ?_, ?_⟩ <;> (first | assumption | exact Below.drew (by assumption) | exact cellStay (by assumption) hbX | exact next (by assumption) hbX | (go_keep; done))))
    (first | (go_at_call 77; (with_reducible refine (cP _).mono ?_); rintro en wX ⟨rfl, hbX⟩) | (go_at_call 77; (with_reducible refine (cQ _).mono ?_); rintro en wX ⟨rfl, hbX⟩))
  all_goals go_split_ands
  all_goals
    cases D
    · have h1 := HD.out
      have h2 : ¬ (wrap64 (y : Int) < wrap64 (x : Int)) := by have := of_decide_eq_false h1.symm; rwa [IntWalk.i64_left, IntWalk.i64_left] at this
      have h3 := HS.out
      rw [if_neg (by decide)] at h3
      subst h3
      clear HD HS h1
      go_wp2
      refine bodyPost_ret (v := .tuple #[.bool false, .int .u64 (IntKind.u64.wrap ((y : Int) - (x : Int))), .int .i64 0]) (by simp [results, Tryz.results26, go_sem]) rfl ⟨rfl, next hW1 (by assumption)⟩
    · have h1 := HD.out
      have h2 : wrap64 (y : Int) < wrap64 (x : Int) := by have := of_decide_eq_true h1.symm; rwa [IntWalk.i64_left, IntWalk.i64_left] at this
      have h3 := HS.out
      rw [if_pos rfl] at h3
      subst h3
      clear HD HS h1
      go_wp2
      refine bodyPost_ret (v := .tuple #[.bool true, .int .u64 (IntKind.u64.wrap ((x : Int) - (y : Int))), .int .i64 0]) (by simp [results, Tryz.results26, go_sem]) rfl ⟨rfl, next hW1 (by assumption)⟩

end Go.Proofs.YtfjgmpfpadfknaaGreatDoor

