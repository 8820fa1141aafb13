/-
  Contracts of numeral/round: times, log, between's methods, modes, whole.
-/
import Derived.Test.YtoiifhmepniniaaGreatDoorQbCMC10
import Derived.Test.YtoiifhmepniniaaGreatDoorQbCMC11
import Derived.Laws.EntriesVeiled
import Derived.Outline
set_option maxHeartbeats 6000000
set_option maxRecDepth 100000
namespace Go.Proofs.YtoiifhmepniniaaGreatDoor
open Go.RowKit Go.Lb
section
attribute [local go_sem ↓] Go.wp_at_zero Go.wp_at_succ
theorem qrz_inq {e : TypeId} {b br base : Nat} {q r : Int} {w w' : World} {en : Ending} (h : QrZ e b br q r w en w') (hz : Zc w b) (hr : Zc w br) (ne : br ≠ b) (h0 : base ≤ w.heap.size) (h1 : base ≤ b) :
 ∃ aq kq cq, In e w' base b (decide (q < 0)) aq kq cq q.natAbs ∧ ∀ p, p < w.heap.size → blkOf aq ≠ some p := by
 obtain ⟨aq, kq, cq, ar, kr, cr, w1, he, hb, fq, fr, rfl⟩ := h
 have fq1 := fr_grown fq (setIn_grown w1 br (decide (r < 0)) (.slice ar kr cr)) hr.lt
 have iq := setIn_in ((hz.stay hb).setOther (Ne.symm ne) (decide (r < 0)) (.slice ar kr cr)) (decide (q < 0)) (fq1.mono h0) (fr_ne fq hz.lt) h1
 exact ⟨aq, kq, cq, iq, fun p hp => fr_ne fq hp⟩
def TmP (A B : Nat) (w : World) (e : Ending) (w' : World) : Prop :=
 ∃ c1 c2, e = .returned (.tuple #[.pointer (some ⟨c1, 0, none⟩), .pointer (some ⟨c2, 0, none⟩)]) ∧ Iz 23 w' 0 c1 (A : Int) ∧ Iz 23 w' 0 c2 (B : Int) ∧ Below w.heap.size w w'
theorem rdTimes_pos (B1 B2 b1 b2 N D k : Nat) (w : World) (h1 : Iz 23 w B1 b1 (N : Int)) (h2 : Iz 23 w B2 b2 (D : Int)) (l1 : ln N ≤ 16777216) (hk : k ≤ 16777216) :
 Calls Tryz.prog 119 #[.agg #[.pointer (some ⟨b1, 0, none⟩), .pointer (some ⟨b2, 0, none⟩)], .int .i64 (k : Int)] w (TmP (N * 2 ^ k) D w) := by
 have hwk : IntKind.u64.wrap (k : Int) = (k : Int) := by rw [IntKind.wrap_u64]; omega
 have j1 : (k : Int) ≥ 0 := by omega
 obtain ⟨W1, hW1⟩ : ∃ W1 : World, W1 = w.alloc (.cells #[.pointer (some ⟨b1, 0, none⟩), .pointer (some ⟨b2, 0, none⟩)] 176) := ⟨_, rfl⟩
 have hb1 : Below w.heap.size w W1 := hW1 ▸ more (Below.refl _ _) _
 have c0 : W1.cell? ⟨w.heap.size, 0, none⟩ = some (.pointer (some ⟨b1, 0, none⟩)) := by rw [hW1]; simp
 have c1 : W1.cell? ⟨w.heap.size, 1, none⟩ = some (.pointer (some ⟨b2, 0, none⟩)) := by rw [hW1]; simp
 have hL : Calls Tryz.prog 171 #[.pointer (some ⟨W1.heap.size, 0, none⟩), .pointer (some ⟨b1, 0, none⟩), .int .u64 (k : Int)] (W1.alloc (.cells #[.bool false, .slice none 0 0] 221)).drew (fun e w' => e = .returned (.pointer (some ⟨W1.heap.size, 0, none⟩)) ∧ Iz 23 w' W1.heap.size W1.heap.size ((N * 2 ^ k : Nat) : Int) ∧ Below W1.heap.size W1 w') := by
  have hbn := (more (Below.refl W1.heap.size W1) (.cells #[.bool false, .slice none 0 0] 221)).drew
  have hzn := (zc_new W1 221 (.bool false) (.slice none 0 0)).stay (Below.refl _ _).drew
  have := bgLsh_any W1.heap.size W1.heap.size B1 b1 k (N : Int) _ hzn (by simp) ((h1.stay hb1).stay hbn) (by rw [Int.natAbs_natCast]; omega) (by omega)
  rw [show (N : Int) * 2 ^ k = ((N * 2 ^ k : Nat) : Int) by simp] at this
  refine this.mono fun e w' h => ?_
  obtain ⟨he, hi, _⟩ := h.in_ hzn (Nat.le_refl _)
  exact ⟨he, hi, h.below hbn (by simp) (Nat.le_refl _)⟩
 generalize N * 2 ^ k = M at *
 clear l1 hk
 go_enter Tryz.func119, Tryz.ntmps119
 go_wp2
 rw [← hW1]
 clear hW1
 go_region_held3 (fun w' => w'.cell? ⟨w.heap.size, 0, none⟩ = some (.pointer (some ⟨b1, 0, none⟩)) ∧ w'.cell? ⟨w.heap.size, 1, none⟩ = some (.pointer (some ⟨b2, 0, none⟩)))
  ((first | exact ⟨cellStay c0 hbB, cellStay c1 hbB⟩ | (go_keep; done)))
  (first
    | (go_at_call 171; (with_reducible refine hL.mono ?_); rintro en wB ⟨rfl, hI, hbB⟩))
 all_goals go_wp2
 all_goals go_ret2
 all_goals exact ⟨_, b2, rfl, hI.mono (Nat.zero_le _), ((h2.stay hb1).stay hbB).mono (Nat.zero_le _), next hb1 hbB⟩
theorem rdTimes_neg (B1 B2 b1 b2 N D k : Nat) (w : World) (h1 : Iz 23 w B1 b1 (N : Int)) (h2 : Iz 23 w B2 b2 (D : Int)) (l1 : ln D ≤ 16777216) (hk0 : 0 < k) (hk : k ≤ 16777216) :
 Calls Tryz.prog 119 #[.agg #[.pointer (some ⟨b1, 0, none⟩), .pointer (some ⟨b2, 0, none⟩)], .int .i64 (-(k : Int))] w (TmP N (D * 2 ^ k) w) := by
 have hwk : IntKind.u64.wrap (k : Int) = (k : Int) := by rw [IntKind.wrap_u64]; omega
 have j1 : ¬ -(k : Int) ≥ 0 := by omega
 have hwi : IntKind.i64.wrap (k : Int) = (k : Int) := IntWalk.i64_in _ (by omega)
 obtain ⟨W1, hW1⟩ : ∃ W1 : World, W1 = w.alloc (.cells #[.pointer (some ⟨b1, 0, none⟩), .pointer (some ⟨b2, 0, none⟩)] 176) := ⟨_, rfl⟩
 have hb1 : Below w.heap.size w W1 := hW1 ▸ more (Below.refl _ _) _
 have c0 : W1.cell? ⟨w.heap.size, 0, none⟩ = some (.pointer (some ⟨b1, 0, none⟩)) := by rw [hW1]; simp
 have c1 : W1.cell? ⟨w.heap.size, 1, none⟩ = some (.pointer (some ⟨b2, 0, none⟩)) := by rw [hW1]; simp
 have hL : Calls Tryz.prog 171 #[.pointer (some ⟨W1.heap.size, 0, none⟩), .pointer (some ⟨b2, 0, none⟩), .int .u64 (k : Int)] (W1.alloc (.cells #[.bool false, .slice none 0 0] 221)).drew (fun e w' => e = .returned (.pointer (some ⟨W1.heap.size, 0, none⟩)) ∧ Iz 23 w' W1.heap.size W1.heap.size ((D * 2 ^ k : Nat) : Int) ∧ Below W1.heap.size W1 w') := by
  have hbn := (more (Below.refl W1.heap.size W1) (.cells #[.bool false, .slice none 0 0] 221)).drew
  have hzn := (zc_new W1 221 (.bool false) (.slice none 0 0)).stay (Below.refl _ _).drew
  have := bgLsh_any W1.heap.size W1.heap.size B2 b2 k (D : Int) _ hzn (by simp) ((h2.stay hb1).stay hbn) (by rw [Int.natAbs_natCast]; omega) (by omega)
  rw [show (D : Int) * 2 ^ k = ((D * 2 ^ k : Nat) : Int) by simp] at this
  refine this.mono fun e w' h => ?_
  obtain ⟨he, hi, _⟩ := h.in_ hzn (Nat.le_refl _)
  exact ⟨he, hi, h.below hbn (by simp) (Nat.le_refl _)⟩
 generalize D * 2 ^ k = M at *
 clear l1 hk
 go_enter Tryz.func119, Tryz.ntmps119
 go_wp2
 rw [← hW1]
 clear hW1
 go_region_held3 (fun w' => w'.cell? ⟨w.heap.size, 0, none⟩ = some (.pointer (some ⟨b1, 0, none⟩)) ∧ w'.cell? ⟨w.heap.size, 1, none⟩ = some (.pointer (some ⟨b2, 0, none⟩)))
  ((first | exact ⟨cellStay c0 hbB, cellStay c1 hbB⟩ | (go_keep; done)))
  (first
    | (go_at_call 171; (with_reducible refine hL.mono ?_); rintro en wB ⟨rfl, hI, hbB⟩))
 all_goals go_wp2
 all_goals go_ret2
 all_goals exact ⟨b1, _, rfl, ((h1.stay hb1).stay hbB).mono (Nat.zero_le _), hI.mono (Nat.zero_le _), next hb1 hbB⟩
theorem rdTimes_any (B1 B2 b1 b2 N D : Nat) (k : Int) (w : World) (h1 : Iz 23 w B1 b1 (N : Int)) (h2 : Iz 23 w B2 b2 (D : Int)) (l1 : ln N ≤ 16777216) (l2 : ln D ≤ 16777216) (hk1 : -16777216 ≤ k) (hk2 : k ≤ 16777216) :
 Calls Tryz.prog 119 #[.agg #[.pointer (some ⟨b1, 0, none⟩), .pointer (some ⟨b2, 0, none⟩)], .int .i64 k] w (TmP (scN N k) (scD D k) w) := by
 unfold scN scD
 by_cases h : 0 ≤ k
 · obtain ⟨j, rfl⟩ : ∃ j : Nat, k = (j : Int) := ⟨k.toNat, by omega⟩
   rw [Int.toNat_natCast, show (-(j : Int)).toNat = 0 by omega, Nat.pow_zero, Nat.mul_one]
   exact rdTimes_pos B1 B2 b1 b2 N D j w h1 h2 l1 (by omega)
 · obtain ⟨j, rfl⟩ : ∃ j : Nat, k = -(j : Int) := ⟨(-k).toNat, by omega⟩
   rw [Int.neg_neg, Int.toNat_natCast, show (-(j : Int)).toNat = 0 by omega, Nat.pow_zero, Nat.mul_one]
   exact rdTimes_neg B1 B2 b1 b2 N D j w h1 h2 l2 (by omega) (by omega)
theorem bl_le (N : Nat) : blN N ≤ 32 * ln N := by
 by_cases h : N = 0
 · subst h; decide
 · obtain ⟨h1, h2, _⟩ := bl_spec h
   have h3 := ln_lt N
   rw [show (4294967296 : Nat) = 2 ^ 32 from rfl, ← Nat.pow_mul] at h3
   have := (Nat.pow_lt_pow_iff_right (a := 2) (by decide)).1 (Nat.lt_of_le_of_lt h2 h3)
   omega
theorem rdLog_any (B1 B2 b1 b2 N D : Nat) (w : World) (h1 : Iz 23 w B1 b1 (N : Int)) (h2 : Iz 23 w B2 b2 (D : Int)) (l1 : ln N ≤ 262144) (l2 : ln D ≤ 262144) :
 Calls Tryz.prog 210 #[.agg #[.pointer (some ⟨b1, 0, none⟩), .pointer (some ⟨b2, 0, none⟩)]] w fun e w' => e = .returned (.int .i64 (lgE N D)) ∧ Below w.heap.size w w' := by
 have m1 := bl_le N
 have m2 := bl_le D
 obtain ⟨W1, hW1⟩ : ∃ W1 : World, W1 = w.alloc (.cells #[.pointer (some ⟨b1, 0, none⟩), .pointer (some ⟨b2, 0, none⟩)] 176) := ⟨_, rfl⟩
 have hb1 : Below w.heap.size w W1 := hW1 ▸ more (Below.refl _ _) _
 have c0 : W1.cell? ⟨w.heap.size, 0, none⟩ = some (.pointer (some ⟨b1, 0, none⟩)) := by rw [hW1]; simp
 have c1 : W1.cell? ⟨w.heap.size, 1, none⟩ = some (.pointer (some ⟨b2, 0, none⟩)) := by rw [hW1]; simp
 have i1 := h1.stay hb1
 have i2 := h2.stay hb1
 have hL1 : ∀ W, Below W1.heap.size W1 W → Calls Tryz.prog 121 #[.pointer (some ⟨b1, 0, none⟩)] W fun e w' => e = .returned (.int .i64 (blN N : Int)) ∧ W = w' := fun W hW => by
  have := bgBitLenZ_any b1 B1 _ W (i1.stay hW) (by rw [Int.natAbs_natCast]; omega)
  rwa [Int.natAbs_natCast] at this
 have hL2 : ∀ W, Below W1.heap.size W1 W → Calls Tryz.prog 121 #[.pointer (some ⟨b2, 0, none⟩)] W fun e w' => e = .returned (.int .i64 (blN D : Int)) ∧ W = w' := fun W hW => by
  have := bgBitLenZ_any b2 B2 _ W (i2.stay hW) (by rw [Int.natAbs_natCast]; omega)
  rwa [Int.natAbs_natCast] at this
 have hT : ∀ W, Below W1.heap.size W1 W → Calls Tryz.prog 119 #[.agg #[.pointer (some ⟨b1, 0, none⟩), .pointer (some ⟨b2, 0, none⟩)], .int .i64 (-((blN N : Int) - blN D))] W (TmP (scN N (-((blN N : Int) - blN D))) (scD D (-((blN N : Int) - blN D))) W) := fun W hW =>
  rdTimes_any B1 B2 b1 b2 N D _ W (i1.stay hW) (i2.stay hW) (by omega) (by omega) (by omega) (by omega)
 have hE : Hid (lgE N D = if scN N (-((blN N : Int) - blN D)) < scD D (-((blN N : Int) - blN D)) then (blN N : Int) - blN D - 1 else (blN N : Int) - blN D) := Lib.hid rfl
 obtain ⟨e, he⟩ : ∃ e, e = (blN N : Int) - blN D := ⟨_, rfl⟩
 rw [← he] at hT hE
 have he1 : -8388608 ≤ e := by omega
 have he2 : e ≤ 8388608 := by omega
 have hsub : (blN N : Int) - (blN D : Int) = e := he.symm
 have hwe : IntKind.i64.wrap e = e := IntWalk.i64_in _ (by omega)
 have q1 : blN N ≤ 8388608 := by omega
 have q2 : blN D ≤ 8388608 := by omega
 generalize scN N (-e) = P at *
 generalize scD D (-e) = Q at *
 generalize blN N = nb at *
 generalize blN D = db at *
 clear l1 l2 m1 m2 h1 h2 he i1 i2
 go_enter Tryz.func210, Tryz.ntmps210
 go_wp2
 rw [← hW1]
 clear hW1
 go_region_held3 (fun w' => w'.cell? ⟨w.heap.size, 0, none⟩ = some (.pointer (some ⟨b1, 0, none⟩)) ∧ w'.cell? ⟨w.heap.size, 1, none⟩ = some (.pointer (some ⟨b2, 0, none⟩)))
  ((go_keep; done))
  (first
    | (go_at_call 121; (with_reducible refine (hL1 _ ?_).mono ?_); (exact (Below.refl _ _).drew); rintro en wB ⟨rfl, rfl⟩)
    | (go_at_call 121; (with_reducible refine (hL2 _ ?_).mono ?_); (exact (Below.refl _ _).drew); rintro en wB ⟨rfl, rfl⟩))
 all_goals
  go_wp2_with fail
  refine (hT _ (Below.refl _ _).drew).mono ?_
  rintro en w2 ⟨t1, t2, rfl, it1, it2, hb2⟩
  have hC := bgCmpN_any 0 0 t1 t2 P Q w2 it1 it2
  have W2 := next hb1 (undrew hb2)
  clear hT it1 it2 hL1 hL2 hb2
  by_cases hlt : P < Q
  · have hE2 : Hid (lgE N D = e - 1) := Lib.hid (by rw [hE.out, if_pos hlt])
    have hc : cmpN P Q < 0 := by rw [cmpN_lt hlt]; decide
    generalize cmpN P Q = q at *
    clear hlt
    go_wp2_with fail
    refine hC.mono ?_
    rintro en w3 ⟨rfl, hb3⟩
    go_wp2
    go_ret
    exact ⟨by rw [hE2.out]; rfl, next W2 hb3⟩
  · have hE2 : Hid (lgE N D = e) := Lib.hid (by rw [hE.out, if_neg hlt])
    have hc : ¬ cmpN P Q < 0 := by unfold cmpN; rw [if_neg hlt]; split <;> decide
    generalize cmpN P Q = q at *
    clear hlt
    go_wp2_with fail
    refine hC.mono ?_
    rintro en w3 ⟨rfl, hb3⟩
    go_wp2
    go_ret
    exact ⟨by rw [hE2.out]; rfl, next W2 hb3⟩
theorem rdBetween0 (neg odd : Bool) (h : Int) (hh : h = -1 ∨ h = 0 ∨ h = 1) (w : World) :
 Calls Tryz.prog 220 #[.agg #[.bool neg, .bool odd, .int .i64 h]] w fun e w' => e = .returned (.bool (mdB 0 neg odd h)) ∧ Below w.heap.size w w' := by
 rcases hh with rfl | rfl | rfl <;> cases neg <;> cases odd
 all_goals
  go_enter Tryz.func220, Tryz.ntmps220
  go_wp2
  go_ret
  exact ⟨rfl, more (Below.refl _ _) _⟩
theorem rdBetween1 (neg odd : Bool) (h : Int) (hh : h = -1 ∨ h = 0 ∨ h = 1) (w : World) :
 Calls Tryz.prog 221 #[.agg #[.bool neg, .bool odd, .int .i64 h]] w fun e w' => e = .returned (.bool (mdB 1 neg odd h)) ∧ Below w.heap.size w w' := by
 rcases hh with rfl | rfl | rfl <;> cases neg <;> cases odd
 all_goals
  go_enter Tryz.func221, Tryz.ntmps221
  go_wp2
  go_ret
  exact ⟨rfl, more (Below.refl _ _) _⟩
theorem rdBetween2 (neg odd : Bool) (h : Int) (hh : h = -1 ∨ h = 0 ∨ h = 1) (w : World) :
 Calls Tryz.prog 222 #[.agg #[.bool neg, .bool odd, .int .i64 h]] w fun e w' => e = .returned (.bool (mdB 2 neg odd h)) ∧ Below w.heap.size w w' := by
 rcases hh with rfl | rfl | rfl <;> cases neg <;> cases odd
 all_goals
  go_enter Tryz.func222, Tryz.ntmps222
  go_wp2
  go_ret
  exact ⟨rfl, more (Below.refl _ _) _⟩
theorem rdBetween3 (neg odd : Bool) (h : Int) (hh : h = -1 ∨ h = 0 ∨ h = 1) (w : World) :
 Calls Tryz.prog 223 #[.agg #[.bool neg, .bool odd, .int .i64 h]] w fun e w' => e = .returned (.bool (mdB 3 neg odd h)) ∧ Below w.heap.size w w' := by
 rcases hh with rfl | rfl | rfl <;> cases neg <;> cases odd
 all_goals
  go_enter Tryz.func223, Tryz.ntmps223
  go_wp2
  go_ret
  exact ⟨rfl, more (Below.refl _ _) _⟩
theorem rdBetween4 (neg odd : Bool) (h : Int) (hh : h = -1 ∨ h = 0 ∨ h = 1) (w : World) :
 Calls Tryz.prog 224 #[.agg #[.bool neg, .bool odd, .int .i64 h]] w fun e w' => e = .returned (.bool (mdB 4 neg odd h)) ∧ Below w.heap.size w w' := by
 rcases hh with rfl | rfl | rfl <;> cases neg <;> cases odd
 all_goals
  go_enter Tryz.func224, Tryz.ntmps224
  go_wp2
  go_ret
  exact ⟨rfl, more (Below.refl _ _) _⟩
def mdF : Nat → FuncId
 | 0 => 220
 | 1 => 221
 | 2 => 222
 | 3 => 223
 | _ => 224
def mdArr : Value := .agg #[.func (.func 220) #[] #[], .func (.func 221) #[] #[], .func (.func 222) #[] #[], .func (.func 223) #[] #[], .func (.func 224) #[] #[]]
theorem rdModes_any (w : World) :
 Calls Tryz.prog 182 #[] w fun e w' => e = .returned mdArr ∧ Below w.heap.size w w' := by
 go_enter Tryz.func182, Tryz.ntmps182
 go_wp2
 exact bodyPost_ret (v := mdArr) (by unfold mdArr; simp [results, Tryz.results182, go_sem]) rfl ⟨rfl, more (Below.refl _ _) _⟩
theorem rdBetween_any (m : Nat) (hm : m < 5) (neg odd : Bool) (h : Int) (hh : h = -1 ∨ h = 0 ∨ h = 1) (w : World) :
 Calls Tryz.prog (mdF m) #[.agg #[.bool neg, .bool odd, .int .i64 h]] w fun e w' => e = .returned (.bool (mdB m neg odd h)) ∧ Below w.heap.size w w' := by
 rcases m with _ | _ | _ | _ | _ | m
 · exact rdBetween0 neg odd h hh w
 · exact rdBetween1 neg odd h hh w
 · exact rdBetween2 neg odd h hh w
 · exact rdBetween3 neg odd h hh w
 · exact rdBetween4 neg odd h hh w
 · omega
theorem rdIndex (m : Nat) (hm : m < 5) (w : World) : (Instr.index 236 mdArr (.int .u8 (m : Int))).run Tryz.prog w = .ok (.func (.func (mdF m)) #[] #[]) w := by
 rcases m with _ | _ | _ | _ | _ | m
 · kernel_rfl
 · kernel_rfl
 · kernel_rfl
 · kernel_rfl
 · kernel_rfl
 · omega
theorem rdEnter (m : Nat) (hm : m < 5) (args : Array Value) (w : World) : Sem.run Tryz.prog (callFunc (mdF m) args) w = .ok (.enter (mdF m) args) w := by
 rcases m with _ | _ | _ | _ | _ | m
 · kernel_rfl
 · kernel_rfl
 · kernel_rfl
 · kernel_rfl
 · kernel_rfl
 · omega
def WhP (N D : Nat) (neg : Bool) (m : Nat) (w : World) (e : Ending) (w' : World) : Prop :=
 ∃ c, e = .returned (.tuple #[.pointer (some ⟨c, 0, none⟩), .bool (exB N D)]) ∧ Iz 23 w' w.heap.size c ((rdN N D neg m : Nat) : Int) ∧ Below w.heap.size w w'
theorem rdWhole_any (B1 B2 b1 b2 N D m : Nat) (neg : Bool) (w : World) (h1 : Iz 23 w B1 b1 (N : Int)) (h2 : Iz 23 w B2 b2 (D : Int)) (hD : D ≠ 0) (hm : m < 5) (l1 : ln N ≤ 16777216) :
 Calls Tryz.prog 125 #[.pointer (some ⟨b1, 0, none⟩), .pointer (some ⟨b2, 0, none⟩), .bool neg, .int .u8 (m : Int)] w (WhP N D neg m w) := by
 obtain ⟨W2, hW2⟩ : ∃ W2 : World, W2 = (w.alloc (.cells #[.bool false, .slice none 0 0] 221)).alloc (.cells #[.bool false, .slice none 0 0] 221) := ⟨_, rfl⟩
 have hb2 : Below w.heap.size w W2 := hW2 ▸ more (more (Below.refl _ _) _) _
 have ZA : Zc W2 w.heap.size := by rw [hW2]; exact (zc_new w _ _ _).stay (more (Below.refl _ _) _)
 have ZB : Zc W2 (w.heap.size + 1) := by
  have := zc_new (w.alloc (.cells #[.bool false, .slice none 0 0] 221)) 221 (.bool false) (.slice none 0 0)
  rw [World.size_alloc] at this
  rw [hW2]
  exact this
 have hQ := bgQuoRem_any w.heap.size (w.heap.size + 1) B1 B2 b1 b2 (N : Int) (D : Int) W2 ZA ZB (Nat.succ_ne_self _) (h1.stay hb2) (h2.stay hb2) (by omega) (by rw [Int.natAbs_natCast]; omega)
 rw [← Int.ofNat_tdiv, ← Int.ofNat_tmod] at hQ
 have hx : Hid (exB N D = decide (N % D = 0)) := Lib.hid rfl
 have hr : Hid (rdN N D neg m = if N % D = 0 then N / D else N / D + (if mdB m neg (decide (N / D % 2 = 1)) (cmpN (2 * (N % D)) D) = true then 1 else 0)) := Lib.hid rfl
 have lq : Hid (ln (N / D) ≤ 16777216) := Lib.hid (Nat.le_trans (ln_div _ _) l1)
 have lr : Hid (ln (N % D) ≤ 16777216) := Lib.hid (Nat.le_trans (ln_mod _ _) l1)
 unfold WhP
 generalize exB N D = xb at *
 generalize rdN N D neg m = rn at *
 generalize N / D = Q at *
 generalize N % D = R at *
 clear l1 hD
 go_enter Tryz.func125, Tryz.ntmps125
 go_wp2_with fail
 rw [← hW2]
 clear hW2
 refine hQ.mono ?_
 rintro e w3 hS
 have hb3 := hS.below hb2 hb2.size (Nat.le_refl _) (Nat.le_succ _)
 obtain ⟨aq, kq, cq, iq, hpq⟩ := qrz_inq (base := w.heap.size) hS ZA ZB (Nat.succ_ne_self _) hb2.size (Nat.le_refl _)
 have hpq := hpq (w.heap.size + 1) ZB.lt
 obtain ⟨rfl, hIq, hIr⟩ := hS.in_ (base := w.heap.size) ZA ZB (Nat.succ_ne_self _) hb2.size (Nat.le_refl _) (Nat.le_succ _)
 clear hS hQ ZA ZB hb2
 have hSg := bgSignZ_any (w.heap.size + 1) w.heap.size (R : Int) w3 hIr
 by_cases hR : R = 0
 · have hr2 : Hid (rn = Q) := Lib.hid (by rw [hr.out, if_pos hR])
   have hx2 : Hid (xb = true) := Lib.hid (by rw [hx.out, decide_eq_true hR])
   subst hR
   clear hr hx
   go_wp2_with fail
   refine hSg.mono ?_
   rintro e w4 ⟨rfl, rfl⟩
   go_wp2
   go_ret2
   exact ⟨_, by rw [hx2.out]; rfl, by rw [hr2.out]; exact hIq, hb3⟩
 · have hx2 : Hid (xb = false) := Lib.hid (by rw [hx.out, decide_eq_false hR])
   have hr2 := hr.out
   rw [if_neg hR] at hr2
   obtain ⟨d, hd⟩ : ∃ d, Q % 2 = d := ⟨_, rfl⟩
   have hBit := bgBit0_any w.heap.size w.heap.size Q d w3 hIq hd
   have hLsh := bgLsh_any (w.heap.size + 1) w.heap.size w.heap.size (w.heap.size + 1) 1 (R : Int) w3 hIr.zc hb3.size hIr (by rw [Int.natAbs_natCast]; have := lr.out; omega) (by decide)
   rw [show (R : Int) * 2 ^ 1 = ((2 * R : Nat) : Int) by simp; omega] at hLsh
   have hsg : (R : Int).sign = 1 := Int.sign_eq_one_of_pos (by omega)
   rw [hsg] at hSg
   have ha2 := h2.stay hb3
   have hzr := hIr.zc
   have hC : ∀ w4, Below w.heap.size w w4 → Iz 23 w4 w.heap.size (w.heap.size + 1) ((2 * R : Nat) : Int) → Calls Tryz.prog 181 #[.pointer (some ⟨w.heap.size + 1, 0, none⟩), .pointer (some ⟨b2, 0, none⟩)] w4 fun e w' => e = .returned (.int .i64 (cmpN (2 * R) D)) ∧ Below w4.heap.size w4 w' := fun w4 hb hi => bgCmpN_any _ B2 _ b2 (2 * R) D w4 hi (h2.stay hb)
   have hcc : cmpN (2 * R) D = -1 ∨ cmpN (2 * R) D = 0 ∨ cmpN (2 * R) D = 1 := by unfold cmpN; split; exact .inl rfl; split; exact .inr (.inr rfl); exact .inr (.inl rfl)
   generalize 2 * R = R2 at *
   generalize cmpN R2 D = h at *
   have hodd : ∃ o : Bool, o = decide (Q % 2 = 1) ∧ ((d : Int) == 1) = o := by
    refine ⟨_, rfl, ?_⟩
    rw [hd]
    by_cases h1 : d = 1
    · subst h1; rfl
    · rw [decide_eq_false h1]; simp; omega
   obtain ⟨o, ho1, ho2⟩ := hodd
   rw [← ho1] at hr2
   have HR2 := Lib.hid hr2
   have hM := rdBetween_any m hm neg o h hcc
   have hX := rdIndex m hm
   have hEn := rdEnter m hm
   have HRZ := Lib.hid hR
   clear hr hx hr2 hR hd ho1 hcc hm hIq hIr hsg ha2
   generalize hmd : mdB m neg o h = more_ at *
   clear hmd
   go_wp2_with fail
   refine hSg.mono ?_
   rintro e w4 ⟨rfl, rfl⟩
   go_wp2_with fail
   refine hBit.mono ?_
   rintro e w4 ⟨rfl, rfl⟩
   clear hSg hBit
   go_wp2_with fail
   refine hLsh.mono ?_
   rintro e w4 hS
   obtain ⟨rfl, hI4, hg4⟩ := hS.in_ (base := w.heap.size) hzr (Nat.le_succ _)
   have hb4 := hS.below hb3 hb3.size (Nat.le_succ _)
   have iq4 := iq.other hg4 (by omega) hpq
   clear hS hLsh hzr iq hg4 hb3
   go_wp2_with fail
   refine (hC w4 hb4 hI4).mono ?_
   rintro e w5 ⟨rfl, hb5⟩
   have W5 := next hb4 hb5
   have iq5 := iq4.stay hb5
   clear hC hI4 iq4 hb5 hb4
   go_wp2_with fail
   obtain ⟨W6, hW6⟩ : ∃ W6 : World, W6 = w5.alloc (.cells #[.bool neg, .bool o, .int .i64 h] 234) := ⟨_, rfl⟩
   have c0 : W6.cell? ⟨w5.heap.size, 0, none⟩ = some (.bool neg) := by rw [hW6]; simp
   have c1 : W6.cell? ⟨w5.heap.size, 1, none⟩ = some (.bool o) := by rw [hW6]; simp
   have c2 : W6.cell? ⟨w5.heap.size, 2, none⟩ = some (.int .i64 h) := by rw [hW6]; simp
   have hb6 : Below w5.heap.size w5 W6 := hW6 ▸ more (Below.refl _ _) _
   rw [← hW6]
   clear hW6
   have W6b := next W5 hb6
   have iq6 := iq5.stay hb6
   go_region_held3 (fun w' => w'.cell? ⟨w5.heap.size, 0, none⟩ = some (.bool neg) ∧ w'.cell? ⟨w5.heap.size, 1, none⟩ = some (.bool o) ∧ w'.cell? ⟨w5.heap.size, 2, none⟩ = some (.int .i64 h))
    ((first | exact ⟨cellStay c0 VB, cellStay c1 VB, cellStay c2 VB⟩ | exact ⟨cellStay c0 VA, cellStay c1 VA, cellStay c2 VA⟩ | (go_keep; done)))
    (first
      | (go_at_call 182; (with_reducible refine (rdModes_any _).mono ?_); rintro en wA ⟨rfl, hbA⟩; have VA : Below W6.heap.size W6 wA := undrew hbA)
      | ((with_reducible refine (hM _).mono ?_); rintro en wB ⟨rfl, hbB⟩; have VB := next VA hbB))
   all_goals
    have W7 := next W6b VB
    have iq7 := iq6.stay VB
    clear iq6 iq5 c0 c1 c2 W5 hb6 W6b hbA hbB VA VB hM hX hEn
    cases more_
    · have hrn : Hid (rn = Q) := Lib.hid (by have := HR2.out; simpa using this)
      go_wp2
      go_ret2
      exact ⟨_, by rw [hx2.out]; rfl, ⟨aq, kq, cq, by rw [hrn.out]; exact iq7⟩, W7⟩
    · have hrn : Hid ((rn : Int) = (Q : Int) + 1) := Lib.hid (by have := HR2.out; simp at this; omega)
      have hA : ∀ W B bb, Below w.heap.size w W → In 23 W w.heap.size w.heap.size (decide ((Q : Int) < 0)) aq kq cq (Q : Int).natAbs → Iz 23 W B bb 1 → Calls Tryz.prog 183 #[.pointer (some ⟨w.heap.size, 0, none⟩), .pointer (some ⟨w.heap.size, 0, none⟩), .pointer (some ⟨bb, 0, none⟩)] W (StZ 23 w.heap.size w.heap.size ((Q : Int) + 1) W) := fun W B bb hW hi h1 =>
       bgIAdd_any w.heap.size w.heap.size w.heap.size B w.heap.size bb (Q : Int) 1 W hi.zc hW.size ⟨aq, kq, cq, hi⟩ h1 (by rw [Int.natAbs_natCast]; have := lq.out; omega) (by decide)
      have hN := bgNewZ_any 1
      go_wp2_with fail
      refine (hN _ (by decide)).mono ?_
      rintro en w8 ⟨b8, rfl, hI8, hb8⟩
      have iq8 := iq7.stay hb8
      have W8 := next W7 hb8
      go_wp2_with fail
      refine (hA _ _ _ W8 iq8 hI8).mono ?_
      rintro en w9 hS
      have W9 := hS.below W8 W8.size (Nat.le_refl _)
      obtain ⟨rfl, hI9, _⟩ := hS.in_ iq8.zc (Nat.le_refl _)
      go_wp2
      go_ret2
      exact ⟨_, by rw [hx2.out]; rfl, by rw [hrn.out]; exact hI9, W9⟩
end
section
attribute [local go_sem ↓] Go.wp_at_zero Go.wp_at_succ
theorem bsN_wrap {e : Nat} (h : e ≤ 11) : wrap64 (wrap64 (2 ^ (e - 1)) - 1) = (bsN e : Int) := by unfold bsN; exact bias_fin ⟨e, by omega⟩
theorem bsN_le {e : Nat} (h : e ≤ 11) : bsN e ≤ 1023 := by
 have : 2 ^ (e - 1) ≤ 2 ^ 10 := Nat.pow_le_pow_right (by decide) (by omega)
 unfold bsN; omega
theorem inf_wrap {E F : Nat} (h1 : 2 ≤ E) (h2 : E ≤ 11) (h4 : F ≤ 52) : 1 ≤ infN E F ∧ infN E F ≤ 9223372036854775808 ∧ IntKind.u64.wrap (IntKind.u64.wrap (2 ^ (E + F)) - IntKind.u64.wrap (2 ^ F)) = (infN E F : Int) := by
 have e1 : 2 ^ F < 2 ^ (E + F) := Nat.pow_lt_pow_right (by decide) (by omega)
 have e2 : 2 ^ (E + F) ≤ 2 ^ 63 := Nat.pow_le_pow_right (by decide) (by omega)
 have c1 : (2 : Int) ^ (E + F) = ((2 ^ (E + F) : Nat) : Int) := by simp
 have c2 : (2 : Int) ^ F = ((2 ^ F : Nat) : Int) := by simp
 rw [c1, c2]
 unfold infN
 generalize 2 ^ (E + F) = P at *
 generalize 2 ^ F = Q at *
 have e3 : (2 : Nat) ^ 63 = 9223372036854775808 := by decide
 refine ⟨by omega, by omega, ?_⟩
 rw [IntKind.wrap_u64, IntKind.wrap_u64, IntKind.wrap_u64]
 omega
theorem sB_wrap {F sM q Bs : Nat} (h4 : F ≤ 52) (hM : sM ≤ 2 ^ (F + 1)) (hB : Bs ≤ 1023) (hq : q ≤ 2 * Bs) : sM + q * 2 ^ F < 18446744073709551616 ∧ IntKind.u64.wrap ((sM : Int) + IntKind.u64.wrap ((q : Int) * 2 ^ F)) = ((sM + q * 2 ^ F : Nat) : Int) := by
 have e1 : 2 ^ (F + 1) ≤ 2 ^ 53 := Nat.pow_le_pow_right (by decide) (by omega)
 have e2 : 2 ^ F ≤ 2 ^ 52 := Nat.pow_le_pow_right (by decide) (by omega)
 have e3 : q * 2 ^ F ≤ 2046 * 2 ^ 52 := Nat.mul_le_mul (by omega) e2
 have c1 : (q : Int) * 2 ^ F = ((q * 2 ^ F : Nat) : Int) := by simp
 rw [c1]
 generalize q * 2 ^ F = P at *
 have e4 : (2 : Nat) ^ 53 = 9007199254740992 := by decide
 have e5 : (2046 : Nat) * 2 ^ 52 = 9214364837600034816 := by decide
 refine ⟨by omega, ?_⟩
 rw [IntKind.wrap_u64, IntKind.wrap_u64]
 omega
def fl0 (E F N D : Nat) (neg : Bool) (m : Nat) : Nat := if sgX E F N D = true then 0 else if tiny E F N D neg m = true then 5 else 1
theorem rdTo_any (B1 B2 b1 b2 N D E F m : Nat) (neg : Bool) (w : World) (h1 : Iz 23 w B1 b1 (N : Int)) (h2 : Iz 23 w B2 b2 (D : Int)) (hN : N ≠ 0) (hD : D ≠ 0) (hm : m < 5) (l1 : ln N ≤ 65536) (l2 : ln D ≤ 65536) (hE2 : 2 ≤ E) (hE11 : E ≤ 11) (hF1 : 1 ≤ F) (hF52 : F ≤ 52) :
 Calls Tryz.prog 175 #[.agg #[.pointer (some ⟨b1, 0, none⟩), .pointer (some ⟨b2, 0, none⟩)], .agg #[.int .i64 (E : Int), .int .i64 (F : Int)], .bool neg, .int .u8 (m : Int)] w fun e w' => e = .returned (.tuple #[.int .u64 (flB E F N D neg m : Int), .int .u8 (flG E F N D neg m : Int)]) ∧ Below w.heap.size w w' := by
 obtain ⟨W2, hW2⟩ : ∃ W2 : World, W2 = (w.alloc (.cells #[.pointer (some ⟨b1, 0, none⟩), .pointer (some ⟨b2, 0, none⟩)] 176)).alloc (.cells #[.int .i64 (E : Int), .int .i64 (F : Int)] 31) := ⟨_, rfl⟩
 have hb2 : Below w.heap.size w W2 := hW2 ▸ more (more (Below.refl _ _) _) _
 have c0 : W2.cell? ⟨w.heap.size, 0, none⟩ = some (.pointer (some ⟨b1, 0, none⟩)) := by rw [hW2]; simp [World.cell?_alloc_some]
 have c1 : W2.cell? ⟨w.heap.size, 1, none⟩ = some (.pointer (some ⟨b2, 0, none⟩)) := by rw [hW2]; simp [World.cell?_alloc_some]
 have c2 : W2.cell? ⟨w.heap.size + 1, 0, none⟩ = some (.int .i64 (E : Int)) := by rw [hW2]; simp
 have c3 : W2.cell? ⟨w.heap.size + 1, 1, none⟩ = some (.int .i64 (F : Int)) := by rw [hW2]; simp
 have i1 := h1.stay hb2
 have i2 := h2.stay hb2
 have hLog := rdLog_any B1 B2 b1 b2 N D W2 i1 i2 (by omega) (by omega)
 have hBs := Lib.hid (bsN_wrap hE11)
 have hBl := bsN_le hE11
 have hF1' : (F : Int) ≤ 52 := by omega
 have m1 := bl_le N
 have m2 := bl_le D
 have heb : -2097153 ≤ lgE N D ∧ lgE N D ≤ 2097152 := by unfold lgE; split <;> omega
 have hlw : lwE E N D = max (lgE N D) (1 - (bsN E : Int)) := rfl
 have hlwb : -2097153 ≤ lwE E N D ∧ lwE E N D ≤ 2097152 := by rw [hlw]; omega
 have hlnN : ∀ k : Int, k ≤ 4194304 → ln (scN N k) ≤ 16777216 := fun k hk => by
  unfold scN
  exact Nat.le_trans (ln_shl N _) (by omega)
 have hT : ∀ W (k : Int), Below W2.heap.size W2 W → -4194304 ≤ k → k ≤ 4194304 → Calls Tryz.prog 119 #[.agg #[.pointer (some ⟨b1, 0, none⟩), .pointer (some ⟨b2, 0, none⟩)], .int .i64 k] W (TmP (scN N k) (scD D k) W) := fun W k hW hk1 hk2 =>
  rdTimes_any B1 B2 b1 b2 N D k W (i1.stay hW) (i2.stay hW) (by omega) (by omega) (by omega) (by omega)
 have hWh : ∀ W c1 c2 (k : Int), k ≤ 4194304 → Iz 23 W 0 c1 (scN N k : Int) → Iz 23 W 0 c2 (scD D k : Int) → Calls Tryz.prog 125 #[.pointer (some ⟨c1, 0, none⟩), .pointer (some ⟨c2, 0, none⟩), .bool neg, .int .u8 (m : Int)] W (WhP (scN N k) (scD D k) neg m W) := fun W c1 c2 k hk ha hb =>
  rdWhole_any 0 0 c1 c2 _ _ m neg W ha hb (Nat.ne_of_gt (scD_pos (Nat.pos_of_ne_zero hD) k)) hm (hlnN k hk)
 have hMle := sg_le (E := E) (F := F) hN hD neg m
 have hKb := sgK_bounds (F := F) hN hD neg m
 have hfl : Hid (fl0 E F N D neg m = if sgX E F N D = true then 0 else if decide (lgE N D < 1 - (bsN E : Int) ∧ (lgE N D < -(bsN E : Int) ∨ blN (sgK F N D neg m) ≤ F + 1)) = true then 5 else 1) := Lib.hid rfl
 have hflB : Hid (flB E F N D neg m = if decide ((bsN E : Int) < lwE E N D ∨ infN E F ≤ sgM E F N D neg m + (lwE E N D + bsN E - 1).toNat * 2 ^ F) = true then (if stayB neg m = true then infN E F - 1 else infN E F) else sgM E F N D neg m + (lwE E N D + bsN E - 1).toNat * 2 ^ F) := Lib.hid rfl
 have hflG : Hid (flG E F N D neg m = if decide ((bsN E : Int) < lwE E N D ∨ infN E F ≤ sgM E F N D neg m + (lwE E N D + bsN E - 1).toNat * 2 ^ F) = true then 3 else fl0 E F N D neg m) := Lib.hid rfl
 obtain ⟨sM, hsM⟩ : ∃ x, x = sgM E F N D neg m := ⟨_, rfl⟩
 obtain ⟨sX, hsX⟩ : ∃ x, x = sgX E F N D := ⟨_, rfl⟩
 obtain ⟨sK, hsK⟩ : ∃ x, x = sgK F N D neg m := ⟨_, rfl⟩
 have HsM := Lib.hid hsM
 have HsX := Lib.hid hsX
 have HsK := Lib.hid hsK
 rw [← hsM] at hMle hflB hflG
 rw [← hsX] at hfl
 rw [← hsK] at hKb hfl
 clear hsM hsX hsK m1 m2 i1 i2 h1 h2 l1 l2 hlnN
 obtain ⟨e, he⟩ : ∃ e, e = lgE N D := ⟨_, rfl⟩
 obtain ⟨low, hlow⟩ : ∃ low, low = lwE E N D := ⟨_, rfl⟩
 have HE := Lib.hid he
 have HLOW := Lib.hid hlow
 rw [← he] at hLog heb hlw hfl
 rw [← hlow] at hlw hlwb hflB hflG
 clear he hlow
 have hlw' : max e (1 - (bsN E : Int)) = low := hlw.symm
 have HLW := Lib.hid hlw
 clear hlw
 have HM52 : Hid (∀ k : Nat, 2 ^ (F + 1) ≤ 2 ^ 53) := Lib.hid (fun _ => Nat.pow_le_pow_right (by decide) (by omega))
 obtain ⟨e1, e2⟩ := heb
 obtain ⟨w1', w2'⟩ := hlwb
 go_enter Tryz.func175, Tryz.ntmps175
 go_wp2_with fail
 rw [← hW2, hBs.out]
 have hBl2 := hBl
 generalize bsN E = Bs at *
 clear hW2 hBs
 refine hLog.mono ?_
 rintro en w3 ⟨rfl, hb3⟩
 have d0 := cellStay c0 hb3
 have d1 := cellStay c1 hb3
 have d2 := cellStay c2 hb3
 have d3 := cellStay c3 hb3
 have hx1 : exB (scN N ((F : Int) - low)) (scD D ((F : Int) - low)) = sX := by rw [HsX.out, HLOW.out]; rfl
 have hm1 : rdN (scN N ((F : Int) - low)) (scD D ((F : Int) - low)) neg m = sM := by rw [HsM.out, HLOW.out]; rfl
 have hk1 : rdN (scN N ((F : Int) - e)) (scD D ((F : Int) - e)) neg m = sK := by rw [HsK.out, HE.out]; rfl
 have HX1 := Lib.hid hx1
 have HM1 := Lib.hid hm1
 have HK1 := Lib.hid hk1
 clear hx1 hm1 hk1
 go_wp2_with fail
 refine (hT w3 _ hb3 (by omega) (by omega)).mono ?_
 rintro en w4 ⟨p1, p2, rfl, j1, j2, hb4⟩
 have V4 := next hb3 hb4
 have f0 := cellStay d0 hb4
 have f1 := cellStay d1 hb4
 have f2 := cellStay d2 hb4
 have f3 := cellStay d3 hb4
 have hW4 := hWh w4 p1 p2 _ (by omega) j1 j2
 unfold WhP at hW4
 rw [HX1.out, HM1.out] at hW4
 go_wp2_with fail
 refine hW4.mono ?_
 rintro en w5 ⟨cm, rfl, jm, hb5⟩
 have V5 := next V4 hb5
 have g0 := cellStay f0 hb5
 have g1 := cellStay f1 hb5
 have g2 := cellStay f2 hb5
 have g3 := cellStay f3 hb5
 obtain ⟨fl, hfl2⟩ : ∃ fl, fl = fl0 E F N D neg m := ⟨_, rfl⟩
 rw [← hfl2] at hfl hflG
 clear hfl2 j1 j2 hb4 V4 f0 f1 f2 f3 d0 d1 d2 d3 c0 c1 c2 c3 hb3 hW4 hLog
 go_upto_if 51 with fail
 go_cut [17] from 52 to 86 (fun fv wx => fv = .int .u8 (fl : Int) ∧ Below w5.heap.size w5 wx)
 case first =>
  have hw1 : IntKind.i64.wrap (-(Bs : Int)) = -(Bs : Int) := IntWalk.i64_in _ (by omega)
  have hw2 : IntKind.i64.wrap ((F : Int) + 1) = (F : Int) + 1 := IntWalk.i64_in _ (by omega)
  cases sX
  · by_cases hlt : e < 1 - (Bs : Int)
    · have hT2 := hT w5 ((F : Int) - e) V5 (by omega) (by omega)
      go_wp2_with fail
      refine hT2.mono ?_
      rintro en w6 ⟨p3, p4, rfl, j3, j4, hb6⟩
      have hW6 := hWh w6 p3 p4 _ (by omega) j3 j4
      unfold WhP at hW6
      rw [HK1.out] at hW6
      have f3 := cellStay g3 hb6
      go_wp2_with fail
      refine hW6.mono ?_
      rintro en w7 ⟨ck, rfl, jk, hb7⟩
      have d3 := cellStay f3 hb7
      have V7 := next hb6 hb7
      have hBK : ∀ W, Below w7.heap.size w7 W → Calls Tryz.prog 121 #[.pointer (some ⟨ck, 0, none⟩)] W fun e w' => e = .returned (.int .i64 (blN sK : Int)) ∧ W = w' := fun W hW => by
       have := bgBitLenZ_any ck _ _ W (jk.stay hW) (by rw [Int.natAbs_natCast]; exact Nat.le_trans (ln_mono hKb.2) (Nat.le_trans (ln_two (F + 1)) (by omega)))
       rwa [Int.natAbs_natCast] at this
      clear hT2 hW6 j3 j4 jk hb6 hb7 f3 g0 g1 g2
      by_cases hlt2 : e < -(Bs : Int)
      · have hfl3 : Hid ((fl : Int) = 5) := Lib.hid (by rw [hfl.out, if_neg (by decide), if_pos (decide_eq_true ⟨hlt, .inl hlt2⟩)]; rfl)
        have hdt : decide (e < -(Bs : Int)) = true := decide_eq_true hlt2
        go_wp2
        go_quiet (fail)
        go_wp2
        go_meet
        exact ⟨by rw [hfl3.out] <;> rfl, drewn V7 _⟩
      · have hdf : decide (e < -(Bs : Int)) = false := decide_eq_false hlt2
        by_cases hbk : blN sK ≤ F + 1
        · have hfl3 : Hid ((fl : Int) = 5) := Lib.hid (by rw [hfl.out, if_neg (by decide), if_pos (decide_eq_true ⟨hlt, .inr hbk⟩)]; rfl)
          have hbk2 : (blN sK : Int) ≤ (F : Int) + 1 := by omega
          go_wp2
          first
           | (go_region_held3 (fun w' => w'.cell? ⟨w.heap.size + 1, 1, none⟩ = some (.int .i64 (F : Int)))
                  ((go_keep; done))
                  ((go_at_call 121; (with_reducible refine (hBK _ ?_).mono ?_); (exact (Below.refl _ _).drew); rintro en wB ⟨rfl, rfl⟩)))
           | fail "no"
          all_goals
           go_wp2
           go_meet
           exact ⟨by rw [hfl3.out] <;> rfl, V7.drew⟩
        · have hfl3 : Hid ((fl : Int) = 1) := Lib.hid (by rw [hfl.out, if_neg (by decide), if_neg (by rw [decide_eq_true_iff]; rintro ⟨_, h | h⟩; exact hlt2 h; exact hbk h)]; rfl)
          have hbk2 : ¬ (blN sK : Int) ≤ (F : Int) + 1 := by omega
          go_wp2
          first
           | (go_region_held3 (fun w' => w'.cell? ⟨w.heap.size + 1, 1, none⟩ = some (.int .i64 (F : Int)))
                  ((go_keep; done))
                  ((go_at_call 121; (with_reducible refine (hBK _ ?_).mono ?_); (exact (Below.refl _ _).drew); rintro en wB ⟨rfl, rfl⟩)))
           | fail "no"
          all_goals
           go_wp2
           go_meet
           exact ⟨by rw [hfl3.out] <;> rfl, V7.drew⟩
    · have hfl3 : Hid ((fl : Int) = 1) := Lib.hid (by rw [hfl.out, if_neg (by decide), if_neg (by rw [decide_eq_true_iff]; rintro ⟨h, _⟩; exact hlt h)]; rfl)
      go_wp2
      go_meet
      exact ⟨by rw [hfl3.out] <;> rfl, Below.refl _ _⟩
  · have hfl3 : Hid ((fl : Int) = 0) := Lib.hid (by rw [hfl.out, if_pos rfl]; rfl)
    go_wp2
    go_meet
    exact ⟨by rw [hfl3.out] <;> rfl, Below.refl _ _⟩
 case rest =>
  obtain ⟨rfl, hbx⟩ := hcut
  have gg2 := cellStay g2 hbx
  have gg3 := cellStay g3 hbx
  have jmx := jm.stay hbx
  have V6 := next V5 hbx
  have hM53 : sM ≤ 9007199254740992 := Nat.le_trans hMle (Nat.le_trans (Nat.pow_le_pow_right (by decide) (show F + 1 ≤ 53 by omega)) (by decide))
  have hU : ∀ W, Below wc.heap.size wc W → Calls Tryz.prog 187 #[.pointer (some ⟨cm, 0, none⟩)] W fun e w' => e = .returned (.int .u64 (sM : Int)) ∧ W = w' := fun W hW => bgUint64_any _ cm sM W (jmx.stay hW) (by omega)
  obtain ⟨q, hq⟩ : ∃ q : Nat, low + Bs - 1 = (q : Int) := ⟨(low + Bs - 1).toNat, by have := HLW.out; omega⟩
  have hql : q ≤ 4194304 := by omega
  have hw1 : IntKind.i64.wrap (low + (Bs : Int)) = low + (Bs : Int) := IntWalk.i64_in _ (by omega)
  have hw2 : IntKind.i64.wrap (low + (Bs : Int) - 1) = (q : Int) := by rw [hq]; exact IntWalk.i64_in _ (by omega)
  have hw3 : IntKind.u64.wrap (q : Int) = (q : Int) := by rw [IntKind.wrap_u64]; omega
  have hw4 : IntKind.i64.wrap ((E : Int) + (F : Int)) = (E : Int) + (F : Int) := IntWalk.i64_in _ (by omega)
  have hEF : ((E : Int) + (F : Int)).toNat = E + F := by omega
  have HQ := Lib.hid hq
  clear hT hWh hb5 jm g0 g1 g2 g3 hbx V5 hq hM53 jmx
  go_wp2
  go_region_held3 (fun w' => w'.cell? ⟨w.heap.size + 1, 1, none⟩ = some (.int .i64 (F : Int)))
   ((go_keep; done))
   ((go_at_call 187; (with_reducible refine (hU _ ?_).mono ?_); (exact (Below.refl _ _).drew); rintro en wB ⟨rfl, rfl⟩))
  go_wp2
  go_region_held3 (fun w' => w'.cell? ⟨w.heap.size + 1, 0, none⟩ = some (.int .i64 (E : Int)) ∧ w'.cell? ⟨w.heap.size + 1, 1, none⟩ = some (.int .i64 (F : Int)))
   ((go_keep; done))
   (fail)
  have hI := inf_wrap hE2 hE11 hF52
  obtain ⟨hI1, hI2, hI3⟩ := hI
  rw [hI3]
  have V7 : Below w.heap.size w wc.drew.drew := next hb2 V6.drew.drew
  have HI4 : Hid (((infN E F - 1 : Nat) : Int) = (infN E F : Int) - 1) := Lib.hid (by omega)
  by_cases hov : (Bs : Int) < low
  · have hD1 : decide ((Bs : Int) < low ∨ infN E F ≤ sM + (low + Bs - 1).toNat * 2 ^ F) = true := decide_eq_true (.inl hov)
    rw [hD1, if_pos rfl] at hflB hflG
    have hg3 : Hid ((flG E F N D neg m : Int) = 3) := Lib.hid (by rw [hflG.out]; rfl)
    generalize IntKind.u64.wrap ((sM : Int) + IntKind.u64.wrap ((q : Int) * 2 ^ F)) = bv
    generalize infN E F = I at *
    have hov2 : low > (Bs : Int) := hov
    clear hD1 hMle hI3 hflG
    rcases m with _ | _ | _ | _ | _ | m
    · cases neg
      · have hb : Hid ((flB E F N D false 0 : Int) = ((I : Nat) : Int)) := Lib.hid (by rw [hflB.out]; rfl)
        go_wp2
        go_ret2
        exact ⟨by rw [hb.out, hg3.out]; rfl, V7⟩
      · have hb : Hid ((flB E F N D true 0 : Int) = ((I : Nat) : Int)) := Lib.hid (by rw [hflB.out]; rfl)
        go_wp2
        go_ret2
        exact ⟨by rw [hb.out, hg3.out]; rfl, V7⟩
    · cases neg
      · have hb : Hid ((flB E F N D false 1 : Int) = ((I : Nat) : Int)) := Lib.hid (by rw [hflB.out]; rfl)
        go_wp2
        go_ret2
        exact ⟨by rw [hb.out, hg3.out]; rfl, V7⟩
      · have hb : Hid ((flB E F N D true 1 : Int) = ((I : Nat) : Int)) := Lib.hid (by rw [hflB.out]; rfl)
        go_wp2
        go_ret2
        exact ⟨by rw [hb.out, hg3.out]; rfl, V7⟩
    · cases neg
      · have hb : Hid ((flB E F N D false 2 : Int) = ((I - 1 : Nat) : Int)) := Lib.hid (by rw [hflB.out]; rfl)
        go_wp2
        go_ret2
        exact ⟨by rw [hb.out, hg3.out, HI4.out]; rfl, V7⟩
      · have hb : Hid ((flB E F N D true 2 : Int) = ((I - 1 : Nat) : Int)) := Lib.hid (by rw [hflB.out]; rfl)
        go_wp2
        go_ret2
        exact ⟨by rw [hb.out, hg3.out, HI4.out]; rfl, V7⟩
    · cases neg
      · have hb : Hid ((flB E F N D false 3 : Int) = ((I : Nat) : Int)) := Lib.hid (by rw [hflB.out]; rfl)
        go_wp2
        go_ret2
        exact ⟨by rw [hb.out, hg3.out]; rfl, V7⟩
      · have hb : Hid ((flB E F N D true 3 : Int) = ((I - 1 : Nat) : Int)) := Lib.hid (by rw [hflB.out]; rfl)
        go_wp2
        go_ret2
        exact ⟨by rw [hb.out, hg3.out, HI4.out]; rfl, V7⟩
    · cases neg
      · have hb : Hid ((flB E F N D false 4 : Int) = ((I - 1 : Nat) : Int)) := Lib.hid (by rw [hflB.out]; rfl)
        go_wp2
        go_ret2
        exact ⟨by rw [hb.out, hg3.out, HI4.out]; rfl, V7⟩
      · have hb : Hid ((flB E F N D true 4 : Int) = ((I : Nat) : Int)) := Lib.hid (by rw [hflB.out]; rfl)
        go_wp2
        go_ret2
        exact ⟨by rw [hb.out, hg3.out]; rfl, V7⟩
    · omega
  · have hqe : (low + (Bs : Int) - 1).toNat = q := by rw [HQ.out]; omega
    rw [hqe] at hflB hflG
    have hsB := sB_wrap (sM := sM) (q := q) hF52 hMle hBl2 (by have := HQ.out; omega)
    obtain ⟨hs1, hs2⟩ := hsB
    rw [hs2]
    generalize sM + q * 2 ^ F = sB at *
    generalize infN E F = I at *
    have hov2 : ¬ low > (Bs : Int) := hov
    by_cases hin : I ≤ sB
    · have hD1 : decide ((Bs : Int) < low ∨ I ≤ sB) = true := decide_eq_true (.inr hin)
      rw [hD1, if_pos rfl] at hflB hflG
      have hg3 : Hid ((flG E F N D neg m : Int) = 3) := Lib.hid (by rw [hflG.out]; rfl)
      have hin2 : (sB : Int) ≥ (I : Int) := by omega
      clear hD1 hMle hI3 hflG hs2
      rcases m with _ | _ | _ | _ | _ | m
      · cases neg
        · have hb : Hid ((flB E F N D false 0 : Int) = ((I : Nat) : Int)) := Lib.hid (by rw [hflB.out]; rfl)
          go_wp2
          go_ret2
          exact ⟨by rw [hb.out, hg3.out]; rfl, V7⟩
        · have hb : Hid ((flB E F N D true 0 : Int) = ((I : Nat) : Int)) := Lib.hid (by rw [hflB.out]; rfl)
          go_wp2
          go_ret2
          exact ⟨by rw [hb.out, hg3.out]; rfl, V7⟩
      · cases neg
        · have hb : Hid ((flB E F N D false 1 : Int) = ((I : Nat) : Int)) := Lib.hid (by rw [hflB.out]; rfl)
          go_wp2
          go_ret2
          exact ⟨by rw [hb.out, hg3.out]; rfl, V7⟩
        · have hb : Hid ((flB E F N D true 1 : Int) = ((I : Nat) : Int)) := Lib.hid (by rw [hflB.out]; rfl)
          go_wp2
          go_ret2
          exact ⟨by rw [hb.out, hg3.out]; rfl, V7⟩
      · cases neg
        · have hb : Hid ((flB E F N D false 2 : Int) = ((I - 1 : Nat) : Int)) := Lib.hid (by rw [hflB.out]; rfl)
          go_wp2
          go_ret2
          exact ⟨by rw [hb.out, hg3.out, HI4.out]; rfl, V7⟩
        · have hb : Hid ((flB E F N D true 2 : Int) = ((I - 1 : Nat) : Int)) := Lib.hid (by rw [hflB.out]; rfl)
          go_wp2
          go_ret2
          exact ⟨by rw [hb.out, hg3.out, HI4.out]; rfl, V7⟩
      · cases neg
        · have hb : Hid ((flB E F N D false 3 : Int) = ((I : Nat) : Int)) := Lib.hid (by rw [hflB.out]; rfl)
          go_wp2
          go_ret2
          exact ⟨by rw [hb.out, hg3.out]; rfl, V7⟩
        · have hb : Hid ((flB E F N D true 3 : Int) = ((I - 1 : Nat) : Int)) := Lib.hid (by rw [hflB.out]; rfl)
          go_wp2
          go_ret2
          exact ⟨by rw [hb.out, hg3.out, HI4.out]; rfl, V7⟩
      · cases neg
        · have hb : Hid ((flB E F N D false 4 : Int) = ((I - 1 : Nat) : Int)) := Lib.hid (by rw [hflB.out]; rfl)
          go_wp2
          go_ret2
          exact ⟨by rw [hb.out, hg3.out, HI4.out]; rfl, V7⟩
        · have hb : Hid ((flB E F N D true 4 : Int) = ((I : Nat) : Int)) := Lib.hid (by rw [hflB.out]; rfl)
          go_wp2
          go_ret2
          exact ⟨by rw [hb.out, hg3.out]; rfl, V7⟩
      · omega
    · have hD1 : decide ((Bs : Int) < low ∨ I ≤ sB) = false := decide_eq_false (by rintro (h | h); exact hov h; exact hin h)
      rw [hD1, if_neg (by decide)] at hflB hflG
      have hin2 : ¬ (sB : Int) ≥ (I : Int) := by omega
      clear hD1 hMle hI3 hs2
      go_wp2
      go_ret2
      exact ⟨by rw [hflB.out, hflG.out]; rfl, V7⟩
end
section
attribute [local go_sem ↓] Go.wp_at_zero Go.wp_at_succ
theorem flB_le (E F N D : Nat) (neg : Bool) (m : Nat) : flB E F N D neg m ≤ infN E F := by
 by_cases h : ovB E F N D neg m = true
 · unfold flB
   rw [if_pos h]
   split <;> omega
 · unfold flB
   rw [if_neg h]
   unfold ovB at h
   rw [decide_eq_true_iff] at h
   omega
def sgBits (E F N D : Nat) (below neg : Bool) (m : Nat) : Nat :=
 if N = 0 then (if neg = true then 2 ^ (E + F) else 0) else if below = true then flB E F N D below m + 2 ^ (E + F) else flB E F N D below m
def sgFlags (E F N D : Nat) (below : Bool) (m : Nat) : Nat := if N = 0 then 0 else flG E F N D below m
theorem or_sign {b E F : Nat} (h1 : 2 ≤ E) (h2 : E ≤ 11) (h4 : F ≤ 52) (hb : b ≤ infN E F) : IntKind.u64.wrap (2 ^ (E + F)) = ((2 ^ (E + F) : Nat) : Int) ∧ bits BinOp.or IntKind.u64 (b : Int) ((2 ^ (E + F) : Nat) : Int) = ((b + 2 ^ (E + F) : Nat) : Int) := by
 have e1 : 2 ^ F < 2 ^ (E + F) := Nat.pow_lt_pow_right (by decide) (by omega)
 have e2 : 2 ^ (E + F) ≤ 2 ^ 63 := Nat.pow_le_pow_right (by decide) (by omega)
 have e3 : (2 : Nat) ^ 63 = 9223372036854775808 := by decide
 have e4 := Nat.two_pow_pos F
 have hlt : b < 2 ^ (E + F) := by unfold infN at hb; omega
 have c1 : (2 : Int) ^ (E + F) = ((2 ^ (E + F) : Nat) : Int) := by simp
 refine ⟨by rw [c1, IntKind.wrap_u64]; omega, ?_⟩
 rw [u64_or_nat _ _ (by omega) (by omega), Nat.or_comm, nat_join (E + F) _ _ (Nat.mod_self _) hlt, Nat.add_comm]
theorem rdSigned_any (B1 B2 b1 b2 N D E F m : Nat) (below neg : Bool) (w : World) (h1 : Iz 23 w B1 b1 (N : Int)) (h2 : Iz 23 w B2 b2 (D : Int)) (hD : D ≠ 0) (hm : m < 5) (l1 : ln N ≤ 65536) (l2 : ln D ≤ 65536) (hE2 : 2 ≤ E) (hE11 : E ≤ 11) (hF1 : 1 ≤ F) (hF52 : F ≤ 52) :
 Calls Tryz.prog 122 #[.agg #[.int .i64 (E : Int), .int .i64 (F : Int)], .agg #[.pointer (some ⟨b1, 0, none⟩), .pointer (some ⟨b2, 0, none⟩)], .bool below, .bool neg, .int .u8 (m : Int)] w fun e w' => e = .returned (.tuple #[.int .u64 (sgBits E F N D below neg m : Int), .int .u8 (sgFlags E F N D below m : Int), .int .i64 0]) ∧ Below w.heap.size w w' := by
 obtain ⟨W2, hW2⟩ : ∃ W2 : World, W2 = (w.alloc (.cells #[.int .i64 (E : Int), .int .i64 (F : Int)] 31)).alloc (.cells #[.pointer (some ⟨b1, 0, none⟩), .pointer (some ⟨b2, 0, none⟩)] 176) := ⟨_, rfl⟩
 have hb2 : Below w.heap.size w W2 := hW2 ▸ more (more (Below.refl _ _) _) _
 have c0 : W2.cell? ⟨w.heap.size, 0, none⟩ = some (.int .i64 (E : Int)) := by rw [hW2]; simp [World.cell?_alloc_some]
 have c1 : W2.cell? ⟨w.heap.size, 1, none⟩ = some (.int .i64 (F : Int)) := by rw [hW2]; simp [World.cell?_alloc_some]
 have c2 : W2.cell? ⟨w.heap.size + 1, 0, none⟩ = some (.pointer (some ⟨b1, 0, none⟩)) := by rw [hW2]; simp
 have c3 : W2.cell? ⟨w.heap.size + 1, 1, none⟩ = some (.pointer (some ⟨b2, 0, none⟩)) := by rw [hW2]; simp
 have i1 := h1.stay hb2
 have i2 := h2.stay hb2
 have hSg := bgSignZ_any b1 B1 (N : Int) W2 i1
 have hEF : ((E : Int) + (F : Int)).toNat = E + F := by omega
 have hfb := flB_le E F N D below m
 have hb64 : flB E F N D below m < 18446744073709551616 := by
  have e2 : 2 ^ (E + F) ≤ 2 ^ 63 := Nat.pow_le_pow_right (by decide) (by omega)
  have e3 : (2 : Nat) ^ 63 = 9223372036854775808 := by decide
  have e4 := Nat.two_pow_pos F
  unfold infN at hfb
  omega
 obtain ⟨o1, o2⟩ := or_sign hE2 hE11 hF52 hfb
 rw [show ((2 ^ (E + F) : Nat) : Int) = (2 : Int) ^ (E + F) by simp] at o1 o2
 obtain ⟨S, hS⟩ : ∃ S, S = flB E F N D below m + 2 ^ (E + F) := ⟨_, rfl⟩
 rw [← hS] at o2
 by_cases hN : N = 0
 · have hb0 : Hid (sgBits E F N D below neg m = if neg = true then 2 ^ (E + F) else 0) := Lib.hid (by unfold sgBits; rw [if_pos hN])
   have hf0 : Hid ((sgFlags E F N D below m : Int) = 0) := Lib.hid (by unfold sgFlags; rw [if_pos hN]; rfl)
   subst hN
   clear h1 h2 i1 i2 l1 l2 o2 hfb hb64 hS
   cases neg
   · go_enter Tryz.func122, Tryz.ntmps122
     go_wp2_with fail
     rw [← hW2]
     clear hW2
     refine hSg.mono ?_
     rintro en w3 ⟨rfl, rfl⟩
     go_wp2
     go_ret3
     exact ⟨by rw [hb0.out, hf0.out]; rfl, hb2⟩
   · go_enter Tryz.func122, Tryz.ntmps122
     go_wp2_with fail
     rw [← hW2]
     clear hW2
     refine hSg.mono ?_
     rintro en w3 ⟨rfl, rfl⟩
     go_wp2
     go_ret3
     exact ⟨by rw [hb0.out, hf0.out]; rfl, hb2⟩
 · have hb0 : Hid (sgBits E F N D below neg m = if below = true then S else flB E F N D below m) := Lib.hid (by unfold sgBits; rw [if_neg hN, hS])
   have hf0 : Hid (sgFlags E F N D below m = flG E F N D below m) := Lib.hid (by unfold sgFlags; rw [if_neg hN])
   have hTo := rdTo_any B1 B2 b1 b2 N D E F m below W2 i1 i2 hN hD hm l1 l2 hE2 hE11 hF1 hF52
   have hsg : (N : Int).sign = 1 := Int.sign_eq_one_of_pos (by omega)
   rw [hsg] at hSg
   generalize hbb : flB E F N D below m = bb at *
   generalize flG E F N D below m = gg at *
   clear h1 h2 i1 i2 l1 l2 hN hfb hbb hsg hS
   cases below
   · go_enter Tryz.func122, Tryz.ntmps122
     go_wp2_with fail
     rw [← hW2]
     clear hW2
     refine hSg.mono ?_
     rintro en w3 ⟨rfl, rfl⟩
     go_wp2_with fail
     refine hTo.mono ?_
     rintro en w4 ⟨rfl, hb4⟩
     go_wp2
     go_ret3
     exact ⟨by rw [hb0.out, hf0.out]; rfl, next hb2 hb4⟩
   · go_enter Tryz.func122, Tryz.ntmps122
     go_wp2_with fail
     rw [← hW2]
     clear hW2
     refine hSg.mono ?_
     rintro en w3 ⟨rfl, rfl⟩
     go_wp2_with fail
     refine hTo.mono ?_
     rintro en w4 ⟨rfl, hb4⟩
     go_wp2
     go_ret3
     exact ⟨by rw [hb0.out, hf0.out]; rfl, next hb2 hb4⟩
def nearZ (n : Int) (b : Nat) : Int := max (-(b : Int) - 1200) (min n ((b : Int) + 1200))
theorem rdNear_any (n : Int) (b : Nat) (w : World) (hb : b ≤ 1048576) :
 Calls Tryz.prog 120 #[.int .i64 n, .int .i64 (b : Int)] w fun e w' => e = .returned (.int .i64 (nearZ n b)) ∧ w = w' := by
 have hz : Hid (nearZ n b = max (-(b : Int) - 1200) (min n ((b : Int) + 1200))) := Lib.hid rfl
 go_enter Tryz.func120, Tryz.ntmps120
 go_wp2
 go_ret
 exact ⟨by rw [hz.out]; rfl, rfl⟩
end
end Go.Proofs.YtoiifhmepniniaaGreatDoor
