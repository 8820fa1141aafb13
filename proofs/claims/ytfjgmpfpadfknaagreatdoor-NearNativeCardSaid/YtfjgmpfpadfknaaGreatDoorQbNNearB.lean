/-
  The walks of near.Up and Down; of the reference's Higher and Lower.
-/
import Derived.Test.YtfjgmpfpadfknaaGreatDoorQbNNearA
import Derived.Test.YtfjgmpfpadfknaaGreatDoorQbNNearM
set_option maxHeartbeats 2000000
set_option maxRecDepth 100000
namespace Go.Proofs.YtfjgmpfpadfknaaGreatDoor
open Go.RowKit Go.Lb
attribute [local go_sem] Go.World.cell?_alloc_some
theorem eqArr1 {P : Program} (d : Nat) (t e : TypeId) (p q : Int) (W : World) (h : P.underlying t = some (.array 1 e)) (he : P.underlying e = some (.int .u64)) (hs : (P.info? e).map (·.size) = some 1) : (Op.equalIn (d + 1 + 1) t (.agg #[.int .u64 p]) (.agg #[.int .u64 q])).run P W = .ok (p == q) W := by
 obtain ⟨i, hi, hz⟩ := Option.map_eq_some_iff.1 hs
 have hI := run_equalIn_int W d e .u64 .u64 p q he
 rw [Op.equalIn]
 simp [run_underlying h, Go.sizeOf, typeInfo, hi, hz, part, isAgg, run_underlying he, hI]
 by_cases hpq : p = q
 · simp [hpq]
 · simp [hpq]
theorem eqArr (p q : Int) (W : World) : (Op.equalIn 10000 146 (.agg #[.int .u64 p]) (.agg #[.int .u64 q])).run Tryz.prog W = .ok (p == q) W :=
 eqArr1 9998 146 24 p q W Tryz.underlying146 Tryz.underlying24 (by kernel_rfl)
theorem one_cells {pl b : Nat} (hb : b < 18446744073709551616) {W : World} (c0 : W.cell? ⟨pl, 0, none⟩ = some (.int .u64 (b : Int))) : ∀ j, (h : j < [b].length) → [b][j] < 18446744073709551616 ∧ W.cell? ⟨pl, j, none⟩ = some (.int .u64 ([b][j] : Nat)) := by
 intro j hj
 match j, hj with
 | 0, _ => exact ⟨hb, c0⟩
theorem askL_one (e f : Int) (b : Nat) : askL e f [b] = fitsE e f b := by
 show (if fitsE e f b ≠ 0 then fitsE e f b else 0) = _
 by_cases h : fitsE e f b = 0
 · rw [if_neg (by simp [h]), h]
 · rw [if_pos h]
theorem anN_one (e f b : Nat) : anN e f [b] = nanB e f b := by unfold anN; simp
theorem nearUp0_any (e f : Int) (b : Nat) (w : World) (hb : b < 18446744073709551616) :
 Calls Tryz.prog 63 #[.agg #[.int .i64 e, .int .i64 f], .int .u64 (b : Int), .bool true] w fun en w' => en = .returned (.tuple #[.int .u64 (hiB e f b : Int), .int .i64 (hiE e f b)]) ∧ Below w.heap.size w w' := by
 have cN := fun W hv => nearNumber_any (w.heap.size + 1) e f [b] W (by simp) (by simp) hv
 rw [askL_one, anN_one] at cN
 have A0 := (box2_new w (.int .i64 e) (.int .i64 f) 23).alloc (.cells #[.int .u64 (b : Int)] 24)
 have hW0 := more (more (Below.refl w.heap.size w) (.cells #[.int .i64 e, .int .i64 f] 23)) (.cells #[.int .u64 (b : Int)] 24)
 by_cases h0 : fitsE e f b = 0
 · obtain ⟨h1, hp⟩ := fitsE_parts h0
   obtain ⟨q1, q2, q3, q4⟩ := formE_ok h1
   obtain ⟨e, rfl⟩ := Int.eq_ofNat_of_zero_le (by omega : 0 ≤ e)
   obtain ⟨f, rfl⟩ := Int.eq_ofNat_of_zero_le (by omega : 0 ≤ f)
   replace hp : b < pw (1 + e + f) := hp
   rw [h0] at cN
   have hE : hiE (e : Int) (f : Int) b = if nanB e f b = true then 2 else if sgB e f b = true ∧ mgN e f b ≠ 0 then 0 else if infB e f b = true then 60 else 0 := if_neg (by simp [h0])
   have hB : hiB (e : Int) (f : Int) b = if hiE (e : Int) (f : Int) b = 0 then hiN e f b else 0 := rfl
   replace cN : ∀ W, (∀ j, (h : j < [b].length) → [b][j] < 18446744073709551616 ∧ W.cell? ⟨w.heap.size + 1, j, none⟩ = some (.int .u64 ([b][j] : Nat))) → Calls Tryz.prog 47 #[.agg #[.int .i64 (e : Int), .int .i64 (f : Int)], .slice (some ⟨w.heap.size + 1, 0, none⟩) 1 1] W fun en w' => en = .returned (.tuple #[.int .i64 0, .bool (!nanB e f b)]) ∧ Below W.heap.size W w' := cN
   cases hn : nanB e f b
   · rw [hn] at cN hE
     have he1 := up_end h1 hp hn
     have cI := fun W => formsInf_any e f false W h1
     obtain ⟨J, hJ⟩ : ∃ J, J = joinN e f false (maskN e) 0 := ⟨_, rfl⟩
     have hJp : J < pw (1 + e + f) := by rw [hJ, jn_inf]; exact (sg_mk (if_lt h1).2 false).1
     have cP := fun W => nearPlace_any e f b W h1 hp
     have cQ := fun W => nearPlace_any e f J W h1 hJp
     rw [← hJ] at cI he1
     have hpl : plN e f b < 18446744073709551616 := by
      have := pw_one_more e f
      have := (top63 h1).2
      unfold plN
      split <;> omega
     cases hi : (!sgB e f b && infB e f b)
     · obtain ⟨ha, hl⟩ := up_at h1 hp hn hi
       have hne : hiE (e : Int) (f : Int) b = 0 := by
        rw [hE, if_neg (by decide)]
        split
        · rfl
        · rename_i hh
          rw [if_neg]
          intro hI
          rw [hI] at hi
          rw [inf_iff] at hI
          have := (if_lt h1).1
          have := of_decide_eq_true hI
          cases hs : sgB e f b
          · rw [hs] at hi; cases hi
          · exact hh ⟨hs, by omega⟩
       rw [hB, hne, if_pos rfl]
       rw [hi] at he1
       have he2 := of_decide_eq_false he1
       have cA := fun W => nearAt_any e f ((plN e f b + 1) % 18446744073709551616) true W h1 (Nat.mod_lt _ (by decide)) hl
       rw [ha] at cA
       have hw1 : IntKind.u64.wrap ((plN e f b : Int) + 1) = (((plN e f b + 1) % 18446744073709551616 : Nat) : Int) := by rw [IntKind.wrap_u64]; omega
       generalize plN e f b = p at *
       generalize plN e f J = q at *
       generalize (p + 1) % 18446744073709551616 = r at *
       generalize hiN e f b = H at *
       have he3 : ((p : Int) == (q : Int)) = false := by simp; omega
       have he4 : ¬ ((p : Int) = (q : Int)) := by omega
       have hq := fun W => eqArr (p : Int) (q : Int) W
       clear hB hE hne ha hl he1 hn hi hJ h0 hJp
       go_enter Tryz.func63, Tryz.ntmps63
       go_wp2_with (first
        | (go_at_call 47; (with_reducible refine (cN _ (one_cells hb (by simp))).mono ?_); rintro en w1 ⟨rfl, hb1⟩; have A1 := A0.stay hb1; have ⟨a0, a1⟩ := A1; have hW1 := next hW0 hb1)
        | (go_at_call 114; (with_reducible refine (cI _).mono ?_); rintro en w3 ⟨rfl, hb3⟩; have A3 := A2.stay hb3; have ⟨c0, c1⟩ := A3; have hW3 := next hW2 hb3)
        | (go_at_call 77; (with_reducible refine (cP _).mono ?_); rintro en w2 ⟨rfl, hb2⟩; have A2 := A1.stay hb2; have ⟨b0, b1⟩ := A2; have hW2 := next hW1 hb2)
        | (go_at_call 77; (with_reducible refine (cQ _).mono ?_); rintro en w4 ⟨rfl, hb4⟩; have A4 := A3.stay hb4; have ⟨d0, d1⟩ := A4; have hW4 := next hW3 hb4)
        | (go_at_call 115; (with_reducible refine (cA _).mono ?_); rintro en w5 ⟨rfl, hb5⟩; have hW5 := next hW4 hb5))
       refine bodyPost_ret (v := .tuple #[.int .u64 (H : Int), .int .i64 0]) (by simp [results, Tryz.results63, go_sem]) rfl ⟨rfl, hW5⟩
     · have hne : hiE (e : Int) (f : Int) b = 60 := by
        rw [hE, if_neg (by decide)]
        have hs : sgB e f b = false ∧ infB e f b = true := by simpa using hi
        rw [if_neg (by rw [hs.1]; simp), if_pos hs.2]
       rw [hB, hne, if_neg (by decide)]
       rw [hi] at he1
       have he2 := of_decide_eq_true he1
       rw [← he2] at cQ
       generalize plN e f b = p at *
       have hq := fun W => eqArr (p : Int) (p : Int) W
       clear hB hE hne he1 hn hi hJ h0 hJp he2
       go_enter Tryz.func63, Tryz.ntmps63
       go_wp2_with (first
        | (go_at_call 47; (with_reducible refine (cN _ (one_cells hb (by simp))).mono ?_); rintro en w1 ⟨rfl, hb1⟩; have A1 := A0.stay hb1; have ⟨a0, a1⟩ := A1; have hW1 := next hW0 hb1)
        | (go_at_call 114; (with_reducible refine (cI _).mono ?_); rintro en w3 ⟨rfl, hb3⟩; have A3 := A2.stay hb3; have ⟨c0, c1⟩ := A3; have hW3 := next hW2 hb3)
        | (go_at_call 77; (with_reducible refine (cP _).mono ?_); rintro en w2 ⟨rfl, hb2⟩; have A2 := A1.stay hb2; have ⟨b0, b1⟩ := A2; have hW2 := next hW1 hb2)
        | (go_at_call 77; (with_reducible refine (cQ _).mono ?_); rintro en w4 ⟨rfl, hb4⟩; have A4 := A3.stay hb4; have ⟨d0, d1⟩ := A4; have hW4 := next hW3 hb4))
       refine bodyPost_ret (v := .tuple #[.int .u64 0, .int .i64 60]) (by simp [results, Tryz.results63, go_sem]) rfl ⟨rfl, hW4⟩
   · rw [hn] at cN hE
     have hne : hiE (e : Int) (f : Int) b = 2 := by rw [hE, if_pos rfl]
     rw [hB, hne, if_neg (by decide)]
     clear hB hE hne hn h0
     go_enter Tryz.func63, Tryz.ntmps63
     go_wp2_with (go_at_call 47; (with_reducible refine (cN _ (one_cells hb (by simp))).mono ?_); rintro en w1 ⟨rfl, hb1⟩; have A1 := A0.stay hb1; have ⟨a0, a1⟩ := A1; have hW1 := next hW0 hb1)
     refine bodyPost_ret (v := .tuple #[.int .u64 0, .int .i64 2]) (by simp [results, Tryz.results63, go_sem]) rfl ⟨rfl, hW1⟩
 · have hE : hiE e f b = fitsE e f b := if_pos h0
   have hB : hiB e f b = 0 := if_neg (by rw [hE]; exact h0)
   rw [hB, hE]
   have hBB : (fitsE e f b != 0) = true := by simp [h0]
   clear hE hB
   generalize (decide (fitsE e f b = 0) && !nanB e.toNat f.toNat b) = is at cN
   generalize fitsE e f b = E at *
   go_enter Tryz.func63, Tryz.ntmps63
   go_wp2_with (go_at_call 47; refine (cN _ (one_cells hb (by simp))).mono ?_; rintro en w1 ⟨rfl, hb1⟩; have hW1 := next hW0 hb1)
   refine bodyPost_ret (v := .tuple #[.int .u64 0, .int .i64 E]) (by simp [results, Tryz.results63, go_sem]) rfl ⟨rfl, hW1⟩
-- PRINTED by wip/gen/neardn.py
theorem nearDn0_any (e f : Int) (b : Nat) (w : World) (hb : b < 18446744073709551616) :
 Calls Tryz.prog 63 #[.agg #[.int .i64 e, .int .i64 f], .int .u64 (b : Int), .bool false] w fun en w' => en = .returned (.tuple #[.int .u64 (loB e f b : Int), .int .i64 (loE e f b)]) ∧ Below w.heap.size w w' := by
 have cN := fun W hv => nearNumber_any (w.heap.size + 1) e f [b] W (by simp) (by simp) hv
 rw [askL_one, anN_one] at cN
 have A0 := (box2_new w (.int .i64 e) (.int .i64 f) 23).alloc (.cells #[.int .u64 (b : Int)] 24)
 have hW0 := more (more (Below.refl w.heap.size w) (.cells #[.int .i64 e, .int .i64 f] 23)) (.cells #[.int .u64 (b : Int)] 24)
 by_cases h0 : fitsE e f b = 0
 · obtain ⟨h1, hp⟩ := fitsE_parts h0
   obtain ⟨q1, q2, q3, q4⟩ := formE_ok h1
   obtain ⟨e, rfl⟩ := Int.eq_ofNat_of_zero_le (by omega : 0 ≤ e)
   obtain ⟨f, rfl⟩ := Int.eq_ofNat_of_zero_le (by omega : 0 ≤ f)
   replace hp : b < pw (1 + e + f) := hp
   rw [h0] at cN
   have hE : loE (e : Int) (f : Int) b = if nanB e f b = true then 2 else if (!sgB e f b) = true ∧ mgN e f b ≠ 0 then 0 else if infB e f b = true then 60 else 0 := by
    obtain ⟨g1, g2, g3, g4, g5⟩ := fl_bits hp
    have k1 : loE (e : Int) (f : Int) b = hiE (e : Int) (f : Int) (flN e f b) := if_neg (by simp [h0])
    have k2 : fitsE (e : Int) (f : Int) (flN e f b) = 0 := fits_of h1 g1
    have k3 : hiE (e : Int) (f : Int) (flN e f b) = if nanB e f (flN e f b) = true then 2 else if sgB e f (flN e f b) = true ∧ mgN e f (flN e f b) ≠ 0 then 0 else if infB e f (flN e f b) = true then 60 else 0 := if_neg (by simp [k2])
    rw [k1, k3, g2, g3, g4, g5]
   have hB : loB (e : Int) (f : Int) b = if loE (e : Int) (f : Int) b = 0 then flN e f (hiN e f (flN e f b)) else 0 := by
    have k1 : loE (e : Int) (f : Int) b = hiE (e : Int) (f : Int) (flN e f b) := if_neg (by simp [h0])
    by_cases k : loE (e : Int) (f : Int) b = 0
    · rw [if_pos k]
      have : loB (e : Int) (f : Int) b = flN e f (hiB (e : Int) (f : Int) (flN e f b)) := if_pos k
      rw [this]
      have : hiB (e : Int) (f : Int) (flN e f b) = hiN e f (flN e f b) := if_pos (by rw [← k1]; exact k)
      rw [this]
    · rw [if_neg k]
      exact if_neg k
   replace cN : ∀ W, (∀ j, (h : j < [b].length) → [b][j] < 18446744073709551616 ∧ W.cell? ⟨w.heap.size + 1, j, none⟩ = some (.int .u64 ([b][j] : Nat))) → Calls Tryz.prog 47 #[.agg #[.int .i64 (e : Int), .int .i64 (f : Int)], .slice (some ⟨w.heap.size + 1, 0, none⟩) 1 1] W fun en w' => en = .returned (.tuple #[.int .i64 0, .bool (!nanB e f b)]) ∧ Below W.heap.size W w' := cN
   cases hn : nanB e f b
   · rw [hn] at cN hE
     have he1 := dn_end h1 hp hn
     have cI := fun W => formsInf_any e f true W h1
     obtain ⟨J, hJ⟩ : ∃ J, J = joinN e f true (maskN e) 0 := ⟨_, rfl⟩
     have hJp : J < pw (1 + e + f) := by rw [hJ, jn_inf]; exact (sg_mk (if_lt h1).2 true).1
     have cP := fun W => nearPlace_any e f b W h1 hp
     have cQ := fun W => nearPlace_any e f J W h1 hJp
     rw [← hJ] at cI he1
     have hpl : plN e f b < 18446744073709551616 := by
      have := pw_one_more e f
      have := (top63 h1).2
      unfold plN
      split <;> omega
     cases hi : (sgB e f b && infB e f b)
     · obtain ⟨ha, hl⟩ := dn_at h1 hp hn hi
       have hne : loE (e : Int) (f : Int) b = 0 := by
        rw [hE, if_neg (by decide)]
        split
        · rfl
        · rename_i hh
          rw [if_neg]
          intro hI
          rw [hI] at hi
          rw [inf_iff] at hI
          have := (if_lt h1).1
          have := of_decide_eq_true hI
          cases hs : sgB e f b
          · exact hh ⟨by rw [hs]; rfl, by omega⟩
          · rw [hs] at hi; cases hi
       rw [hB, hne, if_pos rfl]
       rw [hi] at he1
       have he2 := of_decide_eq_false he1
       have cA := fun W => nearAt_any e f ((plN e f b + 18446744073709551615) % 18446744073709551616) false W h1 (Nat.mod_lt _ (by decide)) hl
       rw [ha] at cA
       have hw1 : IntKind.u64.wrap ((plN e f b : Int) + IntKind.u64.wrap (-1)) = (((plN e f b + 18446744073709551615) % 18446744073709551616 : Nat) : Int) := by rw [IntKind.wrap_u64, IntKind.wrap_u64]; omega
       generalize plN e f b = p at *
       generalize plN e f J = q at *
       generalize (p + 18446744073709551615) % 18446744073709551616 = r at *
       generalize flN e f (hiN e f (flN e f b)) = H at *
       have he3 : ((p : Int) == (q : Int)) = false := by simp; omega
       have he4 : ¬ ((p : Int) = (q : Int)) := by omega
       have hq := fun W => eqArr (p : Int) (q : Int) W
       clear hB hE hne ha hl he1 hn hi hJ h0 hJp
       go_enter Tryz.func63, Tryz.ntmps63
       go_wp2_with (first
        | (go_at_call 47; (with_reducible refine (cN _ (one_cells hb (by simp))).mono ?_); rintro en w1 ⟨rfl, hb1⟩; have A1 := A0.stay hb1; have ⟨a0, a1⟩ := A1; have hW1 := next hW0 hb1)
        | (go_at_call 114; (with_reducible refine (cI _).mono ?_); rintro en w3 ⟨rfl, hb3⟩; have A3 := A2.stay hb3; have ⟨c0, c1⟩ := A3; have hW3 := next hW2 hb3)
        | (go_at_call 77; (with_reducible refine (cP _).mono ?_); rintro en w2 ⟨rfl, hb2⟩; have A2 := A1.stay hb2; have ⟨b0, b1⟩ := A2; have hW2 := next hW1 hb2)
        | (go_at_call 77; (with_reducible refine (cQ _).mono ?_); rintro en w4 ⟨rfl, hb4⟩; have A4 := A3.stay hb4; have ⟨d0, d1⟩ := A4; have hW4 := next hW3 hb4)
        | (go_at_call 115; (with_reducible refine (cA _).mono ?_); rintro en w5 ⟨rfl, hb5⟩; have hW5 := next hW4 hb5))
       refine bodyPost_ret (v := .tuple #[.int .u64 (H : Int), .int .i64 0]) (by simp [results, Tryz.results63, go_sem]) rfl ⟨rfl, hW5⟩
     · have hne : loE (e : Int) (f : Int) b = 60 := by
        rw [hE, if_neg (by decide)]
        have hs : sgB e f b = true ∧ infB e f b = true := by simpa using hi
        rw [if_neg (by rw [hs.1]; simp), if_pos hs.2]
       rw [hB, hne, if_neg (by decide)]
       rw [hi] at he1
       have he2 := of_decide_eq_true he1
       rw [← he2] at cQ
       generalize plN e f b = p at *
       have hq := fun W => eqArr (p : Int) (p : Int) W
       clear hB hE hne he1 hn hi hJ h0 hJp he2
       go_enter Tryz.func63, Tryz.ntmps63
       go_wp2_with (first
        | (go_at_call 47; (with_reducible refine (cN _ (one_cells hb (by simp))).mono ?_); rintro en w1 ⟨rfl, hb1⟩; have A1 := A0.stay hb1; have ⟨a0, a1⟩ := A1; have hW1 := next hW0 hb1)
        | (go_at_call 114; (with_reducible refine (cI _).mono ?_); rintro en w3 ⟨rfl, hb3⟩; have A3 := A2.stay hb3; have ⟨c0, c1⟩ := A3; have hW3 := next hW2 hb3)
        | (go_at_call 77; (with_reducible refine (cP _).mono ?_); rintro en w2 ⟨rfl, hb2⟩; have A2 := A1.stay hb2; have ⟨b0, b1⟩ := A2; have hW2 := next hW1 hb2)
        | (go_at_call 77; (with_reducible refine (cQ _).mono ?_); rintro en w4 ⟨rfl, hb4⟩; have A4 := A3.stay hb4; have ⟨d0, d1⟩ := A4; have hW4 := next hW3 hb4))
       refine bodyPost_ret (v := .tuple #[.int .u64 0, .int .i64 60]) (by simp [results, Tryz.results63, go_sem]) rfl ⟨rfl, hW4⟩
   · rw [hn] at cN hE
     have hne : loE (e : Int) (f : Int) b = 2 := by rw [hE, if_pos rfl]
     rw [hB, hne, if_neg (by decide)]
     clear hB hE hne hn h0
     go_enter Tryz.func63, Tryz.ntmps63
     go_wp2_with (go_at_call 47; (with_reducible refine (cN _ (one_cells hb (by simp))).mono ?_); rintro en w1 ⟨rfl, hb1⟩; have A1 := A0.stay hb1; have ⟨a0, a1⟩ := A1; have hW1 := next hW0 hb1)
     refine bodyPost_ret (v := .tuple #[.int .u64 0, .int .i64 2]) (by simp [results, Tryz.results63, go_sem]) rfl ⟨rfl, hW1⟩
 · have hE : loE e f b = fitsE e f b := if_pos h0
   have hB : loB e f b = 0 := if_neg (by rw [hE]; exact h0)
   rw [hB, hE]
   have hBB : (fitsE e f b != 0) = true := by simp [h0]
   clear hE hB
   generalize (decide (fitsE e f b = 0) && !nanB e.toNat f.toNat b) = is at cN
   generalize fitsE e f b = E at *
   go_enter Tryz.func63, Tryz.ntmps63
   go_wp2_with (go_at_call 47; refine (cN _ (one_cells hb (by simp))).mono ?_; rintro en w1 ⟨rfl, hb1⟩; have hW1 := next hW0 hb1)
   refine bodyPost_ret (v := .tuple #[.int .u64 0, .int .i64 E]) (by simp [results, Tryz.results63, go_sem]) rfl ⟨rfl, hW1⟩
theorem nearUp_any (e f : Int) (b : Nat) (w : World) (hb : b < 18446744073709551616) :
 Calls Tryz.prog 16 #[.agg #[.int .i64 e, .int .i64 f], .int .u64 (b : Int)] w fun en w' => en = .returned (.tuple #[.int .u64 (hiB e f b : Int), .int .i64 (hiE e f b)]) ∧ Below w.heap.size w w' := by
 have cB := fun W => nearUp0_any e f b W hb
 generalize hiB e f b = B at *
 generalize hiE e f b = E at *
 go_enter Tryz.func16, Tryz.ntmps16
 go_wp2_with (go_at_call 63; refine (cB _).mono ?_; rintro en w1 ⟨rfl, hb1⟩)
 refine bodyPost_ret (v := .tuple #[.int .u64 (B : Int), .int .i64 E]) (by simp [results, Tryz.results16, go_sem]) rfl ⟨rfl, next (more (Below.refl _ _) _) hb1⟩
theorem nearDown_any (e f : Int) (b : Nat) (w : World) (hb : b < 18446744073709551616) :
 Calls Tryz.prog 18 #[.agg #[.int .i64 e, .int .i64 f], .int .u64 (b : Int)] w fun en w' => en = .returned (.tuple #[.int .u64 (loB e f b : Int), .int .i64 (loE e f b)]) ∧ Below w.heap.size w w' := by
 have cB := fun W => nearDn0_any e f b W hb
 generalize loB e f b = B at *
 generalize loE e f b = E at *
 go_enter Tryz.func18, Tryz.ntmps18
 go_wp2_with (go_at_call 63; refine (cB _).mono ?_; rintro en w1 ⟨rfl, hb1⟩)
 refine bodyPost_ret (v := .tuple #[.int .u64 (B : Int), .int .i64 E]) (by simp [results, Tryz.results18, go_sem]) rfl ⟨rfl, next (more (Below.refl _ _) _) hb1⟩

theorem half6_any (e f : Nat) (w : World) (h : formE (e : Int) (f : Int) = 0) :
 Calls Tryz.prog 56 #[.agg #[.int .i64 (e : Int), .int .i64 (f : Int)]] w fun en w' => en = .returned (.int .u64 (pw (e + f) : Int)) ∧ Below w.heap.size w w' := by
 obtain ⟨q1, q2, q3, q4⟩ := formE_ok h
 have hw : IntKind.i64.wrap ((e : Int) + (f : Int)) = (e : Int) + (f : Int) := by rw [IntKind.wrap_i64]; omega
 have cP := fun W => pow3_b (e + f) ((e : Int) + (f : Int)) (by omega) W (by omega)
 generalize pw (e + f) = P at *
 go_enter Tryz.func56, Tryz.ntmps56
 go_wp2_with (go_at_call 108; refine (cP _).mono ?_; rintro en w1 ⟨rfl, hb1⟩)
 refine bodyPost_ret (v := .int .u64 (P : Int)) (by simp [results, Tryz.results56, go_sem]) rfl ⟨rfl, next (more (Below.refl _ _) _) hb1⟩
theorem class6_any (e f b : Nat) (w : World) (h : formE (e : Int) (f : Int) = 0) (hb : b < 18446744073709551616) (hp : b < pw (1 + e + f)) :
 Calls Tryz.prog 64 #[.agg #[.int .i64 (e : Int), .int .i64 (f : Int)], .int .u64 (b : Int)] w fun en w' => en = .returned (.int .u8 (classN e (exN e f b) (frN f b) : Int)) ∧ Below w.heap.size w w' := by
 have cC := fun W => refClass3_any e f b W h hb hp
 generalize classN e (exN e f b) (frN f b) = cc at *
 go_enter Tryz.func64, Tryz.ntmps64
 go_wp2_with (go_at_call 109; refine (cC _).mono ?_; rintro en w1 ⟨rfl, hb1⟩)
 refine bodyPost_ret (v := .int .u8 (cc : Int)) (by simp [results, Tryz.results64, go_sem]) rfl ⟨rfl, next (more (Below.refl _ _) _) hb1⟩
theorem place6_any (e f b : Nat) (w : World) (h : formE (e : Int) (f : Int) = 0) (hb : b < 18446744073709551616) (hp : b < pw (1 + e + f)) :
 Calls Tryz.prog 65 #[.agg #[.int .i64 (e : Int), .int .i64 (f : Int)], .int .u64 (b : Int)] w fun en w' => en = .returned (.tuple #[.bool (sgB e f b && decide (mgN e f b ≠ 0)), .int .u64 (mgN e f b : Int)]) ∧ Below w.heap.size w w' := by
 have cH := fun W => half6_any e f W h
 have hpos := pw_pos (e + f)
 have hP := (top63 h).2
 have hm : (b : Int).tmod (pw (e + f) : Int) = (mgN e f b : Int) := by
  rw [Int.tmod_eq_emod_of_nonneg (by omega)]
  exact (Int.natCast_emod b (pw (e + f))).symm
 have hmw : IntKind.u64.wrap (mgN e f b : Int) = (mgN e f b : Int) := by
  have := mg_lt e f b
  rw [IntKind.wrap_u64]
  omega
 have hz : ¬ ((pw (e + f) : Int) = 0) := by omega
 rw [sg_iff hp]
 generalize mgN e f b = M at *
 generalize pw (e + f) = P at *
 have A0 := box2_new w (.int .i64 (e : Int)) (.int .i64 (f : Int)) 23
 have hW0 := more (Below.refl w.heap.size w) (.cells #[.int .i64 (e : Int), .int .i64 (f : Int)] 23)
 by_cases h1 : P ≤ b
 · have h1' : (P : Int) ≤ (b : Int) := by omega
   rw [decide_eq_true h1]
   by_cases h2 : M = 0
   · subst h2
     go_enter Tryz.func65, Tryz.ntmps65
     go_wp2_with (first
      | (go_at_call 56; (with_reducible refine (cH (w.alloc _)).mono ?_); rintro en w1 ⟨rfl, hb1⟩; have A1 := A0.stay hb1; have ⟨a0, a1⟩ := A1; have hW1 := next hW0 hb1)
      | (go_at_call 56; (with_reducible refine (cH _).mono ?_); rintro en w2 ⟨rfl, hb2⟩; have hW2 := next hW1 hb2))
     refine bodyPost_ret (v := .tuple #[.bool false, .int .u64 0]) (by simp [results, Tryz.results65, go_sem]) rfl ⟨rfl, hW2⟩
   · have h2' : (0 : Int) < (M : Int) := by omega
     rw [decide_eq_true h2]
     go_enter Tryz.func65, Tryz.ntmps65
     go_wp2_with (first
      | (go_at_call 56; (with_reducible refine (cH (w.alloc _)).mono ?_); rintro en w1 ⟨rfl, hb1⟩; have A1 := A0.stay hb1; have ⟨a0, a1⟩ := A1; have hW1 := next hW0 hb1)
      | (go_at_call 56; (with_reducible refine (cH _).mono ?_); rintro en w2 ⟨rfl, hb2⟩; have hW2 := next hW1 hb2))
     refine bodyPost_ret (v := .tuple #[.bool true, .int .u64 (M : Int)]) (by simp [results, Tryz.results65, go_sem]; omega) rfl ⟨rfl, hW2⟩
 · have h1' : ¬ (P : Int) ≤ (b : Int) := by omega
   rw [decide_eq_false h1]
   go_enter Tryz.func65, Tryz.ntmps65
   go_wp2_with (first
    | (go_at_call 56; (with_reducible refine (cH (w.alloc _)).mono ?_); rintro en w1 ⟨rfl, hb1⟩; have A1 := A0.stay hb1; have ⟨a0, a1⟩ := A1; have hW1 := next hW0 hb1)
    | (go_at_call 56; (with_reducible refine (cH _).mono ?_); rintro en w2 ⟨rfl, hb2⟩; have hW2 := next hW1 hb2))
   refine bodyPost_ret (v := .tuple #[.bool false, .int .u64 (M : Int)]) (by simp [results, Tryz.results65, go_sem]) rfl ⟨rfl, hW2⟩
theorem flip6_any (e f b : Nat) (w : World) (h : formE (e : Int) (f : Int) = 0) (hp : b < pw (1 + e + f)) :
 Calls Tryz.prog 66 #[.agg #[.int .i64 (e : Int), .int .i64 (f : Int)], .int .u64 (b : Int)] w fun en w' => en = .returned (.int .u64 (flN e f b : Int)) ∧ Below w.heap.size w w' := by
 have cH := fun W => half6_any e f W h
 have hP := (top63 h).2
 rw [pw_one_more] at hp
 have A0 := box2_new w (.int .i64 (e : Int)) (.int .i64 (f : Int)) 23
 have hW0 := more (Below.refl w.heap.size w) (.cells #[.int .i64 (e : Int), .int .i64 (f : Int)] 23)
 by_cases h1 : pw (e + f) ≤ b
 · have hv : flN e f b = b - pw (e + f) := if_pos h1
   have hw : IntKind.u64.wrap ((b : Int) - (pw (e + f) : Int)) = (flN e f b : Int) := by rw [IntKind.wrap_u64, hv]; omega
   have h1' : (pw (e + f) : Int) ≤ (b : Int) := by omega
   clear hv
   generalize flN e f b = R at *
   generalize pw (e + f) = P at *
   go_enter Tryz.func66, Tryz.ntmps66
   go_wp2_with (first
    | (go_at_call 56; (with_reducible refine (cH (w.alloc _)).mono ?_); rintro en w1 ⟨rfl, hb1⟩; have A1 := A0.stay hb1; have ⟨a0, a1⟩ := A1; have hW1 := next hW0 hb1)
    | (go_at_call 56; (with_reducible refine (cH _).mono ?_); rintro en w2 ⟨rfl, hb2⟩; have hW2 := next hW1 hb2))
   refine bodyPost_ret (v := .int .u64 (R : Int)) (by simp [results, Tryz.results66, go_sem]) rfl ⟨rfl, hW2⟩
 · have hv : flN e f b = b + pw (e + f) := if_neg h1
   have hw : IntKind.u64.wrap ((b : Int) + (pw (e + f) : Int)) = (flN e f b : Int) := by rw [IntKind.wrap_u64, hv]; omega
   have h1' : ¬ (pw (e + f) : Int) ≤ (b : Int) := by omega
   clear hv
   generalize flN e f b = R at *
   generalize pw (e + f) = P at *
   go_enter Tryz.func66, Tryz.ntmps66
   go_wp2_with (first
    | (go_at_call 56; (with_reducible refine (cH (w.alloc _)).mono ?_); rintro en w1 ⟨rfl, hb1⟩; have A1 := A0.stay hb1; have ⟨a0, a1⟩ := A1; have hW1 := next hW0 hb1)
    | (go_at_call 56; (with_reducible refine (cH _).mono ?_); rintro en w2 ⟨rfl, hb2⟩; have hW2 := next hW1 hb2))
   refine bodyPost_ret (v := .int .u64 (R : Int)) (by simp [results, Tryz.results66, go_sem]) rfl ⟨rfl, hW2⟩
theorem class_inf {e f b : Nat} (he : 2 ≤ e) : ((classN e (exN e f b) (frN f b) : Int) == 4) = infB e f b := by
 have h1 : maskN e ≠ 0 := by
  unfold maskN
  have : 2 ^ 2 ≤ 2 ^ e := Nat.pow_le_pow_right (by decide) he
  omega
 unfold classN infB
 by_cases h0 : exN e f b = 0
 · rw [if_pos h0, decide_eq_false (fun hh => h1 (hh.1.symm.trans h0))]
   split <;> rfl
 · rw [if_neg h0]
   by_cases hm : exN e f b = maskN e
   · rw [if_pos hm]
     by_cases hf : frN f b = 0
     · rw [if_pos hf, decide_eq_true ⟨hm, hf⟩]; rfl
     · rw [if_neg hf, decide_eq_false (fun hh => hf hh.2)]; rfl
   · rw [if_neg hm, decide_eq_false (fun hh => hm hh.1)]; rfl
theorem higher6_any (e f : Int) (b : Nat) (w : World) (hb : b < 18446744073709551616) :
 Calls Tryz.prog 17 #[.agg #[.int .i64 e, .int .i64 f], .int .u64 (b : Int)] w fun en w' => en = .returned (.tuple #[.int .u64 (hiB e f b : Int), .int .i64 (hiE e f b)]) ∧ Below w.heap.size w w' := by
 have cF := fun W => refFits3_any e f b W hb
 have A0 := box2_new w (.int .i64 e) (.int .i64 f) 23
 have hW0 := more (Below.refl w.heap.size w) (.cells #[.int .i64 e, .int .i64 f] 23)
 by_cases h0 : fitsE e f b = 0
 · obtain ⟨h1, hp⟩ := fitsE_parts h0
   obtain ⟨q1, q2, q3, q4⟩ := formE_ok h1
   obtain ⟨e, rfl⟩ := Int.eq_ofNat_of_zero_le (by omega : 0 ≤ e)
   obtain ⟨f, rfl⟩ := Int.eq_ofNat_of_zero_le (by omega : 0 ≤ f)
   replace hp : b < pw (1 + e + f) := hp
   have hE : hiE (e : Int) (f : Int) b = if nanB e f b = true then 2 else if sgB e f b = true ∧ mgN e f b ≠ 0 then 0 else if infB e f b = true then 60 else 0 := if_neg (by simp [h0])
   have hB : hiB (e : Int) (f : Int) b = if hiE (e : Int) (f : Int) b = 0 then hiN e f b else 0 := rfl
   rw [h0] at cF
   have cC := fun W => class6_any e f b W h1 hb hp
   have cP := fun W => place6_any e f b W h1 hb hp
   have cH := fun W => half6_any e f W h1
   have hc5 := class_nan (f := f) (b := b) (show 2 ≤ e by omega)
   have hc4 := class_inf (f := f) (b := b) (show 2 ≤ e by omega)
   have hml := mg_lt e f b
   have hP := (top63 h1).2
   have hH : hiN e f b = if sgB e f b = true ∧ mgN e f b ≠ 0 then pw (e + f) + mgN e f b - 1 else mgN e f b + 1 := rfl
   generalize classN e (exN e f b) (frN f b) = cc at *
   generalize mgN e f b = M at *
   generalize hiN e f b = R at *
   generalize pw (e + f) = P at *
   cases hn : nanB e f b
   · rw [hn] at hE hc5
     by_cases hs : sgB e f b = true ∧ M ≠ 0
     · rw [if_neg (by decide), if_pos hs] at hE
       rw [if_pos hs] at hH
       rw [hE, if_pos rfl] at hB
       rw [hB, hE]
       rw [hs.1, decide_eq_true hs.2] at cP
       have hw1 : IntKind.u64.wrap ((P : Int) + (M : Int)) = (P : Int) + (M : Int) := by rw [IntKind.wrap_u64]; omega
       have hw2 : IntKind.u64.wrap ((P : Int) + (M : Int) - 1) = (R : Int) := by rw [IntKind.wrap_u64, hH]; omega
       clear hE hB hH hn hs hc4
       go_enter Tryz.func17, Tryz.ntmps17
       go_wp2_with (first
        | (go_at_call 54; (with_reducible refine (cF _).mono ?_); rintro en w1 ⟨rfl, hb1⟩; have A1 := A0.stay hb1; have ⟨a0, a1⟩ := A1; have hW1 := next hW0 hb1)
        | (go_at_call 64; (with_reducible refine (cC _).mono ?_); rintro en w2 ⟨rfl, hb2⟩; have A2 := A1.stay hb2; have ⟨b0, b1⟩ := A2; have hW2 := next hW1 hb2)
        | (go_at_call 65; (with_reducible refine (cP _).mono ?_); rintro en w3 ⟨rfl, hb3⟩; have A3 := A2.stay hb3; have ⟨c0, c1⟩ := A3; have hW3 := next hW2 hb3)
        | (go_at_call 56; (with_reducible refine (cH _).mono ?_); rintro en w4 ⟨rfl, hb4⟩; have hW4 := next hW3 hb4))
       refine bodyPost_ret (v := .tuple #[.int .u64 (R : Int), .int .i64 0]) (by simp [results, Tryz.results17, go_sem]) rfl ⟨rfl, hW4⟩
     · rw [if_neg (by decide), if_neg hs] at hE
       rw [if_neg hs] at hH
       have hs' : (sgB e f b && decide (M ≠ 0)) = false := by
        cases h9 : sgB e f b
        · rfl
        · by_cases h8 : M = 0
          · simp [h8]
          · exact absurd ⟨h9, h8⟩ hs
       rw [hs'] at cP
       cases hi : infB e f b
       · rw [hi] at hE hc4
         rw [if_neg (by decide)] at hE
         rw [hE, if_pos rfl] at hB
         rw [hB, hE]
         have hw2 : IntKind.u64.wrap ((M : Int) + 1) = (R : Int) := by rw [IntKind.wrap_u64, hH]; omega
         clear hE hB hH hn hs hs' hi
         go_enter Tryz.func17, Tryz.ntmps17
         go_wp2_with (first
          | (go_at_call 54; (with_reducible refine (cF _).mono ?_); rintro en w1 ⟨rfl, hb1⟩; have A1 := A0.stay hb1; have ⟨a0, a1⟩ := A1; have hW1 := next hW0 hb1)
          | (go_at_call 65; (with_reducible refine (cP _).mono ?_); rintro en w3 ⟨rfl, hb3⟩; have A3 := A2.stay hb3; have ⟨c0, c1⟩ := A3; have hW3 := next hW2 hb3)
          | (go_at_call 64; (with_reducible refine (cC w1).mono ?_); rintro en w2 ⟨rfl, hb2⟩; have A2 := A1.stay hb2; have ⟨b0, b1⟩ := A2; have hW2 := next hW1 hb2)
          | (go_at_call 64; (with_reducible refine (cC _).mono ?_); rintro en w4 ⟨rfl, hb4⟩; have hW4 := next hW3 hb4))
         refine bodyPost_ret (v := .tuple #[.int .u64 (R : Int), .int .i64 0]) (by simp [results, Tryz.results17, go_sem]) rfl ⟨rfl, hW4⟩
       · rw [hi] at hE hc4
         rw [if_pos rfl] at hE
         rw [hE, if_neg (by decide)] at hB
         rw [hB, hE]
         clear hE hB hH hn hs hs' hi
         go_enter Tryz.func17, Tryz.ntmps17
         go_wp2_with (first
          | (go_at_call 54; (with_reducible refine (cF _).mono ?_); rintro en w1 ⟨rfl, hb1⟩; have A1 := A0.stay hb1; have ⟨a0, a1⟩ := A1; have hW1 := next hW0 hb1)
          | (go_at_call 65; (with_reducible refine (cP _).mono ?_); rintro en w3 ⟨rfl, hb3⟩; have A3 := A2.stay hb3; have ⟨c0, c1⟩ := A3; have hW3 := next hW2 hb3)
          | (go_at_call 64; (with_reducible refine (cC w1).mono ?_); rintro en w2 ⟨rfl, hb2⟩; have A2 := A1.stay hb2; have ⟨b0, b1⟩ := A2; have hW2 := next hW1 hb2)
          | (go_at_call 64; (with_reducible refine (cC _).mono ?_); rintro en w4 ⟨rfl, hb4⟩; have hW4 := next hW3 hb4))
         refine bodyPost_ret (v := .tuple #[.int .u64 0, .int .i64 60]) (by simp [results, Tryz.results17, go_sem]) rfl ⟨rfl, hW4⟩
   · rw [hn] at hE hc5
     rw [if_pos rfl] at hE
     rw [hE, if_neg (by decide)] at hB
     rw [hB, hE]
     clear hE hB hH hn hc4
     go_enter Tryz.func17, Tryz.ntmps17
     go_wp2_with (first
      | (go_at_call 54; (with_reducible refine (cF _).mono ?_); rintro en w1 ⟨rfl, hb1⟩; have A1 := A0.stay hb1; have ⟨a0, a1⟩ := A1; have hW1 := next hW0 hb1)
      | (go_at_call 64; (with_reducible refine (cC _).mono ?_); rintro en w2 ⟨rfl, hb2⟩; have hW2 := next hW1 hb2))
     refine bodyPost_ret (v := .tuple #[.int .u64 0, .int .i64 2]) (by simp [results, Tryz.results17, go_sem]) rfl ⟨rfl, hW2⟩
 · have hE : hiE e f b = fitsE e f b := if_pos h0
   have hB : hiB e f b = 0 := if_neg (by rw [hE]; exact h0)
   rw [hB, hE]
   have hBB : (fitsE e f b != 0) = true := by simp [h0]
   clear hE hB
   generalize fitsE e f b = E at *
   go_enter Tryz.func17, Tryz.ntmps17
   go_wp2_with (go_at_call 54; refine (cF _).mono ?_; rintro en w1 ⟨rfl, hb1⟩; have hW1 := next hW0 hb1)
   refine bodyPost_ret (v := .tuple #[.int .u64 0, .int .i64 E]) (by simp [results, Tryz.results17, go_sem]) rfl ⟨rfl, hW1⟩
end Go.Proofs.YtfjgmpfpadfknaaGreatDoor
