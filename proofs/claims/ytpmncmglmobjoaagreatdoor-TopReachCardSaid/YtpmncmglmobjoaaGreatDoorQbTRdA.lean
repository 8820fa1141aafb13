/-
  Contracts of numeral/round: times, log, between's methods, modes, whole.
-/
import Derived.Test.YtpmncmglmobjoaaGreatDoorQbTBgV
import Derived.Test.YtpmncmglmobjoaaGreatDoorQbTMT10
import Derived.Laws.EntriesVeiled
set_option maxHeartbeats 3000000
set_option maxRecDepth 100000
namespace Go.Proofs.YtpmncmglmobjoaaGreatDoor
open Go.RowKit Go.Lb
attribute [local go_sem ↓] Go.wp_at_zero Go.wp_at_succ
theorem qrz_inq {e : TypeId} {b br base : Nat} {q r : Int} {w w' : World} {en : Ending} (h : QrZ e b br q r w en w') (hz : Zc w b) (hr : Zc w br) (ne : br ≠ b) (h0 : base ≤ w.heap.size) (h1 : base ≤ b) :
 ∃ aq kq cq, In e w' base b (decide (q < 0)) aq kq cq q.natAbs ∧ ∀ p, p < w.heap.size → blkOf aq ≠ some p := by
 obtain ⟨aq, kq, cq, ar, kr, cr, w1, he, hb, fq, fr, rfl⟩ := h
 have fq1 := fr_grown fq (setIn_grown w1 br (decide (r < 0)) (.slice ar kr cr)) hr.lt
 have iq := setIn_in ((hz.stay hb).setOther (Ne.symm ne) (decide (r < 0)) (.slice ar kr cr)) (decide (q < 0)) (fq1.mono h0) (fr_ne fq hz.lt) h1
 exact ⟨aq, kq, cq, iq, fun p hp => fr_ne fq hp⟩
def TmP (A B : Nat) (w : World) (e : Ending) (w' : World) : Prop :=
 ∃ c1 c2, e = .returned (.tuple #[.pointer (some ⟨c1, 0, none⟩), .pointer (some ⟨c2, 0, none⟩)]) ∧ Iz 40 w' 0 c1 (A : Int) ∧ Iz 40 w' 0 c2 (B : Int) ∧ Below w.heap.size w w'
theorem rdTimes_pos (B1 B2 b1 b2 N D k : Nat) (w : World) (h1 : Iz 40 w B1 b1 (N : Int)) (h2 : Iz 40 w B2 b2 (D : Int)) (l1 : ln N ≤ 16777216) (hk : k ≤ 16777216) :
 Calls Tryz.prog 147 #[.agg #[.pointer (some ⟨b1, 0, none⟩), .pointer (some ⟨b2, 0, none⟩)], .int .i64 (k : Int)] w (TmP (N * 2 ^ k) D w) := by
 have hwk : IntKind.u64.wrap (k : Int) = (k : Int) := by rw [IntKind.wrap_u64]; omega
 have j1 : (k : Int) ≥ 0 := by omega
 obtain ⟨W1, hW1⟩ : ∃ W1 : World, W1 = w.alloc (.cells #[.pointer (some ⟨b1, 0, none⟩), .pointer (some ⟨b2, 0, none⟩)] 92) := ⟨_, rfl⟩
 have hb1 : Below w.heap.size w W1 := hW1 ▸ more (Below.refl _ _) _
 have c0 : W1.cell? ⟨w.heap.size, 0, none⟩ = some (.pointer (some ⟨b1, 0, none⟩)) := by rw [hW1]; simp
 have c1 : W1.cell? ⟨w.heap.size, 1, none⟩ = some (.pointer (some ⟨b2, 0, none⟩)) := by rw [hW1]; simp
 have hL : Calls Tryz.prog 85 #[.pointer (some ⟨W1.heap.size, 0, none⟩), .pointer (some ⟨b1, 0, none⟩), .int .u64 (k : Int)] (W1.alloc (.cells #[.bool false, .slice none 0 0] 86)).drew (fun e w' => e = .returned (.pointer (some ⟨W1.heap.size, 0, none⟩)) ∧ Iz 40 w' W1.heap.size W1.heap.size ((N * 2 ^ k : Nat) : Int) ∧ Below W1.heap.size W1 w') := by
  have hbn := (more (Below.refl W1.heap.size W1) (.cells #[.bool false, .slice none 0 0] 86)).drew
  have hzn := (zc_new W1 86 (.bool false) (.slice none 0 0)).stay (Below.refl _ _).drew
  have := bgLsh_any W1.heap.size W1.heap.size B1 b1 k (N : Int) _ hzn (by simp) ((h1.stay hb1).stay hbn) (by rw [Int.natAbs_natCast]; omega) (by omega)
  rw [show (N : Int) * 2 ^ k = ((N * 2 ^ k : Nat) : Int) by simp] at this
  refine this.mono fun e w' h => ?_
  obtain ⟨he, hi, _⟩ := h.in_ hzn (Nat.le_refl _)
  exact ⟨he, hi, h.below hbn (by simp) (Nat.le_refl _)⟩
 generalize N * 2 ^ k = M at *
 clear l1 hk
 go_enter Tryz.func147, Tryz.ntmps147
 go_wp2
 rw [← hW1]
 clear hW1
 go_region_held3 (fun w' => w'.cell? ⟨w.heap.size, 0, none⟩ = some (.pointer (some ⟨b1, 0, none⟩)) ∧ w'.cell? ⟨w.heap.size, 1, none⟩ = some (.pointer (some ⟨b2, 0, none⟩)))
  ((first | exact ⟨cellStay c0 hbB, cellStay c1 hbB⟩ | (go_keep; done)))
  (first
    | (go_at_call 85; (with_reducible refine hL.mono ?_); rintro en wB ⟨rfl, hI, hbB⟩))
 all_goals go_wp2
 all_goals go_ret2
 all_goals exact ⟨_, b2, rfl, hI.mono (Nat.zero_le _), ((h2.stay hb1).stay hbB).mono (Nat.zero_le _), next hb1 hbB⟩
theorem rdTimes_neg (B1 B2 b1 b2 N D k : Nat) (w : World) (h1 : Iz 40 w B1 b1 (N : Int)) (h2 : Iz 40 w B2 b2 (D : Int)) (l1 : ln D ≤ 16777216) (hk0 : 0 < k) (hk : k ≤ 16777216) :
 Calls Tryz.prog 147 #[.agg #[.pointer (some ⟨b1, 0, none⟩), .pointer (some ⟨b2, 0, none⟩)], .int .i64 (-(k : Int))] w (TmP N (D * 2 ^ k) w) := by
 have hwk : IntKind.u64.wrap (k : Int) = (k : Int) := by rw [IntKind.wrap_u64]; omega
 have j1 : ¬ -(k : Int) ≥ 0 := by omega
 have hwi : IntKind.i64.wrap (k : Int) = (k : Int) := IntWalk.i64_in _ (by omega)
 obtain ⟨W1, hW1⟩ : ∃ W1 : World, W1 = w.alloc (.cells #[.pointer (some ⟨b1, 0, none⟩), .pointer (some ⟨b2, 0, none⟩)] 92) := ⟨_, rfl⟩
 have hb1 : Below w.heap.size w W1 := hW1 ▸ more (Below.refl _ _) _
 have c0 : W1.cell? ⟨w.heap.size, 0, none⟩ = some (.pointer (some ⟨b1, 0, none⟩)) := by rw [hW1]; simp
 have c1 : W1.cell? ⟨w.heap.size, 1, none⟩ = some (.pointer (some ⟨b2, 0, none⟩)) := by rw [hW1]; simp
 have hL : Calls Tryz.prog 85 #[.pointer (some ⟨W1.heap.size, 0, none⟩), .pointer (some ⟨b2, 0, none⟩), .int .u64 (k : Int)] (W1.alloc (.cells #[.bool false, .slice none 0 0] 86)).drew (fun e w' => e = .returned (.pointer (some ⟨W1.heap.size, 0, none⟩)) ∧ Iz 40 w' W1.heap.size W1.heap.size ((D * 2 ^ k : Nat) : Int) ∧ Below W1.heap.size W1 w') := by
  have hbn := (more (Below.refl W1.heap.size W1) (.cells #[.bool false, .slice none 0 0] 86)).drew
  have hzn := (zc_new W1 86 (.bool false) (.slice none 0 0)).stay (Below.refl _ _).drew
  have := bgLsh_any W1.heap.size W1.heap.size B2 b2 k (D : Int) _ hzn (by simp) ((h2.stay hb1).stay hbn) (by rw [Int.natAbs_natCast]; omega) (by omega)
  rw [show (D : Int) * 2 ^ k = ((D * 2 ^ k : Nat) : Int) by simp] at this
  refine this.mono fun e w' h => ?_
  obtain ⟨he, hi, _⟩ := h.in_ hzn (Nat.le_refl _)
  exact ⟨he, hi, h.below hbn (by simp) (Nat.le_refl _)⟩
 generalize D * 2 ^ k = M at *
 clear l1 hk
 go_enter Tryz.func147, Tryz.ntmps147
 go_wp2
 rw [← hW1]
 clear hW1
 go_region_held3 (fun w' => w'.cell? ⟨w.heap.size, 0, none⟩ = some (.pointer (some ⟨b1, 0, none⟩)) ∧ w'.cell? ⟨w.heap.size, 1, none⟩ = some (.pointer (some ⟨b2, 0, none⟩)))
  ((first | exact ⟨cellStay c0 hbB, cellStay c1 hbB⟩ | (go_keep; done)))
  (first
    | (go_at_call 85; (with_reducible refine hL.mono ?_); rintro en wB ⟨rfl, hI, hbB⟩))
 all_goals go_wp2
 all_goals go_ret2
 all_goals exact ⟨b1, _, rfl, ((h1.stay hb1).stay hbB).mono (Nat.zero_le _), hI.mono (Nat.zero_le _), next hb1 hbB⟩
theorem rdTimes_any (B1 B2 b1 b2 N D : Nat) (k : Int) (w : World) (h1 : Iz 40 w B1 b1 (N : Int)) (h2 : Iz 40 w B2 b2 (D : Int)) (l1 : ln N ≤ 16777216) (l2 : ln D ≤ 16777216) (hk1 : -16777216 ≤ k) (hk2 : k ≤ 16777216) :
 Calls Tryz.prog 147 #[.agg #[.pointer (some ⟨b1, 0, none⟩), .pointer (some ⟨b2, 0, none⟩)], .int .i64 k] w (TmP (scN N k) (scD D k) w) := by
 unfold scN scD
 by_cases h : 0 ≤ k
 · obtain ⟨j, rfl⟩ : ∃ j : Nat, k = (j : Int) := ⟨k.toNat, by omega⟩
   rw [Int.toNat_natCast, show (-(j : Int)).toNat = 0 by omega, Nat.pow_zero, Nat.mul_one]
   exact rdTimes_pos B1 B2 b1 b2 N D j w h1 h2 l1 (by omega)
 · obtain ⟨j, rfl⟩ : ∃ j : Nat, k = -(j : Int) := ⟨(-k).toNat, by omega⟩
   rw [Int.neg_neg, Int.toNat_natCast, show (-(j : Int)).toNat = 0 by omega, Nat.pow_zero, Nat.mul_one]
   exact rdTimes_neg B1 B2 b1 b2 N D j w h1 h2 l2 (by omega) (by omega)
theorem bl_le (N : Nat) : blN N ≤ 32 * ln N := by
 by_cases h : N = 0
 · subst h; decide
 · obtain ⟨h1, h2, _⟩ := bl_spec h
   have h3 := ln_lt N
   rw [show (4294967296 : Nat) = 2 ^ 32 from rfl, ← Nat.pow_mul] at h3
   have := (Nat.pow_lt_pow_iff_right (a := 2) (by decide)).1 (Nat.lt_of_le_of_lt h2 h3)
   omega
theorem rdLog_any (B1 B2 b1 b2 N D : Nat) (w : World) (h1 : Iz 40 w B1 b1 (N : Int)) (h2 : Iz 40 w B2 b2 (D : Int)) (l1 : ln N ≤ 262144) (l2 : ln D ≤ 262144) :
 Calls Tryz.prog 146 #[.agg #[.pointer (some ⟨b1, 0, none⟩), .pointer (some ⟨b2, 0, none⟩)]] w fun e w' => e = .returned (.int .i64 (lgE N D)) ∧ Below w.heap.size w w' := by
 have m1 := bl_le N
 have m2 := bl_le D
 obtain ⟨W1, hW1⟩ : ∃ W1 : World, W1 = w.alloc (.cells #[.pointer (some ⟨b1, 0, none⟩), .pointer (some ⟨b2, 0, none⟩)] 92) := ⟨_, rfl⟩
 have hb1 : Below w.heap.size w W1 := hW1 ▸ more (Below.refl _ _) _
 have c0 : W1.cell? ⟨w.heap.size, 0, none⟩ = some (.pointer (some ⟨b1, 0, none⟩)) := by rw [hW1]; simp
 have c1 : W1.cell? ⟨w.heap.size, 1, none⟩ = some (.pointer (some ⟨b2, 0, none⟩)) := by rw [hW1]; simp
 have i1 := h1.stay hb1
 have i2 := h2.stay hb1
 have hL1 : ∀ W, Below W1.heap.size W1 W → Calls Tryz.prog 49 #[.pointer (some ⟨b1, 0, none⟩)] W fun e w' => e = .returned (.int .i64 (blN N : Int)) ∧ W = w' := fun W hW => by
  have := bgBitLenZ_any b1 B1 _ W (i1.stay hW) (by rw [Int.natAbs_natCast]; omega)
  rwa [Int.natAbs_natCast] at this
 have hL2 : ∀ W, Below W1.heap.size W1 W → Calls Tryz.prog 49 #[.pointer (some ⟨b2, 0, none⟩)] W fun e w' => e = .returned (.int .i64 (blN D : Int)) ∧ W = w' := fun W hW => by
  have := bgBitLenZ_any b2 B2 _ W (i2.stay hW) (by rw [Int.natAbs_natCast]; omega)
  rwa [Int.natAbs_natCast] at this
 have hT : ∀ W, Below W1.heap.size W1 W → Calls Tryz.prog 147 #[.agg #[.pointer (some ⟨b1, 0, none⟩), .pointer (some ⟨b2, 0, none⟩)], .int .i64 (-((blN N : Int) - blN D))] W (TmP (scN N (-((blN N : Int) - blN D))) (scD D (-((blN N : Int) - blN D))) W) := fun W hW =>
  rdTimes_any B1 B2 b1 b2 N D _ W (i1.stay hW) (i2.stay hW) (by omega) (by omega) (by omega) (by omega)
 have hE : Hid (lgE N D = if scN N (-((blN N : Int) - blN D)) < scD D (-((blN N : Int) - blN D)) then (blN N : Int) - blN D - 1 else (blN N : Int) - blN D) := Lib.hid rfl
 obtain ⟨e, he⟩ : ∃ e, e = (blN N : Int) - blN D := ⟨_, rfl⟩
 rw [← he] at hT hE
 have he1 : -8388608 ≤ e := by omega
 have he2 : e ≤ 8388608 := by omega
 have hsub : (blN N : Int) - (blN D : Int) = e := he.symm
 have hwe : IntKind.i64.wrap e = e := IntWalk.i64_in _ (by omega)
 have q1 : blN N ≤ 8388608 := by omega
 have q2 : blN D ≤ 8388608 := by omega
 generalize scN N (-e) = P at *
 generalize scD D (-e) = Q at *
 generalize blN N = nb at *
 generalize blN D = db at *
 clear l1 l2 m1 m2 h1 h2 he i1 i2
 go_enter Tryz.func146, Tryz.ntmps146
 go_wp2
 rw [← hW1]
 clear hW1
 go_region_held3 (fun w' => w'.cell? ⟨w.heap.size, 0, none⟩ = some (.pointer (some ⟨b1, 0, none⟩)) ∧ w'.cell? ⟨w.heap.size, 1, none⟩ = some (.pointer (some ⟨b2, 0, none⟩)))
  ((go_keep; done))
  (first
    | (go_at_call 49; (with_reducible refine (hL1 _ ?_).mono ?_); (exact (Below.refl _ _).drew); rintro en wB ⟨rfl, rfl⟩)
    | (go_at_call 49; (with_reducible refine (hL2 _ ?_).mono ?_); (exact (Below.refl _ _).drew); rintro en wB ⟨rfl, rfl⟩))
 all_goals
  go_wp2_with fail
  refine (hT _ (Below.refl _ _).drew).mono ?_
  rintro en w2 ⟨t1, t2, rfl, it1, it2, hb2⟩
  have hC := bgCmpN_any 0 0 t1 t2 P Q w2 it1 it2
  have W2 := next hb1 (undrew hb2)
  clear hT it1 it2 hL1 hL2 hb2
  by_cases hlt : P < Q
  · have hE2 : Hid (lgE N D = e - 1) := Lib.hid (by rw [hE.out, if_pos hlt])
    have hc : cmpN P Q < 0 := by rw [cmpN_lt hlt]; decide
    generalize cmpN P Q = q at *
    clear hlt
    go_wp2_with fail
    refine hC.mono ?_
    rintro en w3 ⟨rfl, hb3⟩
    go_wp2
    go_ret
    exact ⟨by rw [hE2.out]; rfl, next W2 hb3⟩
  · have hE2 : Hid (lgE N D = e) := Lib.hid (by rw [hE.out, if_neg hlt])
    have hc : ¬ cmpN P Q < 0 := by unfold cmpN; rw [if_neg hlt]; split <;> decide
    generalize cmpN P Q = q at *
    clear hlt
    go_wp2_with fail
    refine hC.mono ?_
    rintro en w3 ⟨rfl, hb3⟩
    go_wp2
    go_ret
    exact ⟨by rw [hE2.out]; rfl, next W2 hb3⟩
theorem rdBetween0 (neg odd : Bool) (h : Int) (hh : h = -1 ∨ h = 0 ∨ h = 1) (w : World) :
 Calls Tryz.prog 178 #[.agg #[.bool neg, .bool odd, .int .i64 h]] w fun e w' => e = .returned (.bool (mdB 0 neg odd h)) ∧ Below w.heap.size w w' := by
 rcases hh with rfl | rfl | rfl <;> cases neg <;> cases odd
 all_goals
  go_enter Tryz.func178, Tryz.ntmps178
  go_wp2
  go_ret
  exact ⟨rfl, more (Below.refl _ _) _⟩
theorem rdBetween1 (neg odd : Bool) (h : Int) (hh : h = -1 ∨ h = 0 ∨ h = 1) (w : World) :
 Calls Tryz.prog 179 #[.agg #[.bool neg, .bool odd, .int .i64 h]] w fun e w' => e = .returned (.bool (mdB 1 neg odd h)) ∧ Below w.heap.size w w' := by
 rcases hh with rfl | rfl | rfl <;> cases neg <;> cases odd
 all_goals
  go_enter Tryz.func179, Tryz.ntmps179
  go_wp2
  go_ret
  exact ⟨rfl, more (Below.refl _ _) _⟩
theorem rdBetween2 (neg odd : Bool) (h : Int) (hh : h = -1 ∨ h = 0 ∨ h = 1) (w : World) :
 Calls Tryz.prog 180 #[.agg #[.bool neg, .bool odd, .int .i64 h]] w fun e w' => e = .returned (.bool (mdB 2 neg odd h)) ∧ Below w.heap.size w w' := by
 rcases hh with rfl | rfl | rfl <;> cases neg <;> cases odd
 all_goals
  go_enter Tryz.func180, Tryz.ntmps180
  go_wp2
  go_ret
  exact ⟨rfl, more (Below.refl _ _) _⟩
theorem rdBetween3 (neg odd : Bool) (h : Int) (hh : h = -1 ∨ h = 0 ∨ h = 1) (w : World) :
 Calls Tryz.prog 181 #[.agg #[.bool neg, .bool odd, .int .i64 h]] w fun e w' => e = .returned (.bool (mdB 3 neg odd h)) ∧ Below w.heap.size w w' := by
 rcases hh with rfl | rfl | rfl <;> cases neg <;> cases odd
 all_goals
  go_enter Tryz.func181, Tryz.ntmps181
  go_wp2
  go_ret
  exact ⟨rfl, more (Below.refl _ _) _⟩
theorem rdBetween4 (neg odd : Bool) (h : Int) (hh : h = -1 ∨ h = 0 ∨ h = 1) (w : World) :
 Calls Tryz.prog 182 #[.agg #[.bool neg, .bool odd, .int .i64 h]] w fun e w' => e = .returned (.bool (mdB 4 neg odd h)) ∧ Below w.heap.size w w' := by
 rcases hh with rfl | rfl | rfl <;> cases neg <;> cases odd
 all_goals
  go_enter Tryz.func182, Tryz.ntmps182
  go_wp2
  go_ret
  exact ⟨rfl, more (Below.refl _ _) _⟩
def mdF : Nat → FuncId
 | 0 => 178
 | 1 => 179
 | 2 => 180
 | 3 => 181
 | _ => 182
def mdArr : Value := .agg #[.func (.func 178) #[] #[], .func (.func 179) #[] #[], .func (.func 180) #[] #[], .func (.func 181) #[] #[], .func (.func 182) #[] #[]]
theorem rdModes_any (w : World) :
 Calls Tryz.prog 172 #[] w fun e w' => e = .returned mdArr ∧ Below w.heap.size w w' := by
 go_enter Tryz.func172, Tryz.ntmps172
 go_wp2
 exact bodyPost_ret (v := mdArr) (by unfold mdArr; simp [results, Tryz.results172, go_sem]) rfl ⟨rfl, more (Below.refl _ _) _⟩
theorem rdBetween_any (m : Nat) (hm : m < 5) (neg odd : Bool) (h : Int) (hh : h = -1 ∨ h = 0 ∨ h = 1) (w : World) :
 Calls Tryz.prog (mdF m) #[.agg #[.bool neg, .bool odd, .int .i64 h]] w fun e w' => e = .returned (.bool (mdB m neg odd h)) ∧ Below w.heap.size w w' := by
 rcases m with _ | _ | _ | _ | _ | m
 · exact rdBetween0 neg odd h hh w
 · exact rdBetween1 neg odd h hh w
 · exact rdBetween2 neg odd h hh w
 · exact rdBetween3 neg odd h hh w
 · exact rdBetween4 neg odd h hh w
 · omega
theorem rdIndex (m : Nat) (hm : m < 5) (w : World) : (Instr.index 194 mdArr (.int .u8 (m : Int))).run Tryz.prog w = .ok (.func (.func (mdF m)) #[] #[]) w := by
 rcases m with _ | _ | _ | _ | _ | m
 · kernel_rfl
 · kernel_rfl
 · kernel_rfl
 · kernel_rfl
 · kernel_rfl
 · omega
theorem rdEnter (m : Nat) (hm : m < 5) (args : Array Value) (w : World) : Sem.run Tryz.prog (callFunc (mdF m) args) w = .ok (.enter (mdF m) args) w := by
 rcases m with _ | _ | _ | _ | _ | m
 · kernel_rfl
 · kernel_rfl
 · kernel_rfl
 · kernel_rfl
 · kernel_rfl
 · omega
def WhP (N D : Nat) (neg : Bool) (m : Nat) (w : World) (e : Ending) (w' : World) : Prop :=
 ∃ c, e = .returned (.tuple #[.pointer (some ⟨c, 0, none⟩), .bool (exB N D)]) ∧ Iz 40 w' w.heap.size c ((rdN N D neg m : Nat) : Int) ∧ Below w.heap.size w w'
theorem rdWhole_any (B1 B2 b1 b2 N D m : Nat) (neg : Bool) (w : World) (h1 : Iz 40 w B1 b1 (N : Int)) (h2 : Iz 40 w B2 b2 (D : Int)) (hD : D ≠ 0) (hm : m < 5) (l1 : ln N ≤ 16777216) :
 Calls Tryz.prog 148 #[.pointer (some ⟨b1, 0, none⟩), .pointer (some ⟨b2, 0, none⟩), .bool neg, .int .u8 (m : Int)] w (WhP N D neg m w) := by
 obtain ⟨W2, hW2⟩ : ∃ W2 : World, W2 = (w.alloc (.cells #[.bool false, .slice none 0 0] 86)).alloc (.cells #[.bool false, .slice none 0 0] 86) := ⟨_, rfl⟩
 have hb2 : Below w.heap.size w W2 := hW2 ▸ more (more (Below.refl _ _) _) _
 have ZA : Zc W2 w.heap.size := by rw [hW2]; exact (zc_new w _ _ _).stay (more (Below.refl _ _) _)
 have ZB : Zc W2 (w.heap.size + 1) := by
  have := zc_new (w.alloc (.cells #[.bool false, .slice none 0 0] 86)) 86 (.bool false) (.slice none 0 0)
  rw [World.size_alloc] at this
  rw [hW2]
  exact this
 have hQ := bgQuoRem_any w.heap.size (w.heap.size + 1) B1 B2 b1 b2 (N : Int) (D : Int) W2 ZA ZB (Nat.succ_ne_self _) (h1.stay hb2) (h2.stay hb2) (by omega) (by rw [Int.natAbs_natCast]; omega)
 rw [← Int.ofNat_tdiv, ← Int.ofNat_tmod] at hQ
 have hx : Hid (exB N D = decide (N % D = 0)) := Lib.hid rfl
 have hr : Hid (rdN N D neg m = if N % D = 0 then N / D else N / D + (if mdB m neg (decide (N / D % 2 = 1)) (cmpN (2 * (N % D)) D) = true then 1 else 0)) := Lib.hid rfl
 have lq : Hid (ln (N / D) ≤ 16777216) := Lib.hid (Nat.le_trans (ln_div _ _) l1)
 have lr : Hid (ln (N % D) ≤ 16777216) := Lib.hid (Nat.le_trans (ln_mod _ _) l1)
 unfold WhP
 generalize exB N D = xb at *
 generalize rdN N D neg m = rn at *
 generalize N / D = Q at *
 generalize N % D = R at *
 clear l1 hD
 go_enter Tryz.func148, Tryz.ntmps148
 go_wp2_with fail
 rw [← hW2]
 clear hW2
 refine hQ.mono ?_
 rintro e w3 hS
 have hb3 := hS.below hb2 hb2.size (Nat.le_refl _) (Nat.le_succ _)
 obtain ⟨aq, kq, cq, iq, hpq⟩ := qrz_inq (base := w.heap.size) hS ZA ZB (Nat.succ_ne_self _) hb2.size (Nat.le_refl _)
 have hpq := hpq (w.heap.size + 1) ZB.lt
 obtain ⟨rfl, hIq, hIr⟩ := hS.in_ (base := w.heap.size) ZA ZB (Nat.succ_ne_self _) hb2.size (Nat.le_refl _) (Nat.le_succ _)
 clear hS hQ ZA ZB hb2
 have hSg := bgSignZ_any (w.heap.size + 1) w.heap.size (R : Int) w3 hIr
 by_cases hR : R = 0
 · have hr2 : Hid (rn = Q) := Lib.hid (by rw [hr.out, if_pos hR])
   have hx2 : Hid (xb = true) := Lib.hid (by rw [hx.out, decide_eq_true hR])
   subst hR
   clear hr hx
   go_wp2_with fail
   refine hSg.mono ?_
   rintro e w4 ⟨rfl, rfl⟩
   go_wp2
   go_ret2
   exact ⟨_, by rw [hx2.out]; rfl, by rw [hr2.out]; exact hIq, hb3⟩
 · have hx2 : Hid (xb = false) := Lib.hid (by rw [hx.out, decide_eq_false hR])
   have hr2 := hr.out
   rw [if_neg hR] at hr2
   obtain ⟨d, hd⟩ : ∃ d, Q % 2 = d := ⟨_, rfl⟩
   have hBit := bgBit0_any w.heap.size w.heap.size Q d w3 hIq hd
   have hLsh := bgLsh_any (w.heap.size + 1) w.heap.size w.heap.size (w.heap.size + 1) 1 (R : Int) w3 hIr.zc hb3.size hIr (by rw [Int.natAbs_natCast]; have := lr.out; omega) (by decide)
   rw [show (R : Int) * 2 ^ 1 = ((2 * R : Nat) : Int) by simp; omega] at hLsh
   have hsg : (R : Int).sign = 1 := Int.sign_eq_one_of_pos (by omega)
   rw [hsg] at hSg
   have ha2 := h2.stay hb3
   have hzr := hIr.zc
   have hC : ∀ w4, Below w.heap.size w w4 → Iz 40 w4 w.heap.size (w.heap.size + 1) ((2 * R : Nat) : Int) → Calls Tryz.prog 126 #[.pointer (some ⟨w.heap.size + 1, 0, none⟩), .pointer (some ⟨b2, 0, none⟩)] w4 fun e w' => e = .returned (.int .i64 (cmpN (2 * R) D)) ∧ Below w4.heap.size w4 w' := fun w4 hb hi => bgCmpN_any _ B2 _ b2 (2 * R) D w4 hi (h2.stay hb)
   have hcc : cmpN (2 * R) D = -1 ∨ cmpN (2 * R) D = 0 ∨ cmpN (2 * R) D = 1 := by unfold cmpN; split; exact .inl rfl; split; exact .inr (.inr rfl); exact .inr (.inl rfl)
   generalize 2 * R = R2 at *
   generalize cmpN R2 D = h at *
   have hodd : ∃ o : Bool, o = decide (Q % 2 = 1) ∧ ((d : Int) == 1) = o := by
    refine ⟨_, rfl, ?_⟩
    rw [hd]
    by_cases h1 : d = 1
    · subst h1; rfl
    · rw [decide_eq_false h1]; simp; omega
   obtain ⟨o, ho1, ho2⟩ := hodd
   rw [← ho1] at hr2
   have HR2 := Lib.hid hr2
   have hM := rdBetween_any m hm neg o h hcc
   have hX := rdIndex m hm
   have hEn := rdEnter m hm
   have HRZ := Lib.hid hR
   clear hr hx hr2 hR hd ho1 hcc hm hIq hIr hsg ha2
   generalize hmd : mdB m neg o h = more_ at *
   clear hmd
   go_wp2_with fail
   refine hSg.mono ?_
   rintro e w4 ⟨rfl, rfl⟩
   go_wp2_with fail
   refine hBit.mono ?_
   rintro e w4 ⟨rfl, rfl⟩
   clear hSg hBit
   go_wp2_with fail
   refine hLsh.mono ?_
   rintro e w4 hS
   obtain ⟨rfl, hI4, hg4⟩ := hS.in_ (base := w.heap.size) hzr (Nat.le_succ _)
   have hb4 := hS.below hb3 hb3.size (Nat.le_succ _)
   have iq4 := iq.other hg4 (by omega) hpq
   clear hS hLsh hzr iq hg4 hb3
   go_wp2_with fail
   refine (hC w4 hb4 hI4).mono ?_
   rintro e w5 ⟨rfl, hb5⟩
   have W5 := next hb4 hb5
   have iq5 := iq4.stay hb5
   clear hC hI4 iq4 hb5 hb4
   go_wp2_with fail
   obtain ⟨W6, hW6⟩ : ∃ W6 : World, W6 = w5.alloc (.cells #[.bool neg, .bool o, .int .i64 h] 192) := ⟨_, rfl⟩
   have c0 : W6.cell? ⟨w5.heap.size, 0, none⟩ = some (.bool neg) := by rw [hW6]; simp
   have c1 : W6.cell? ⟨w5.heap.size, 1, none⟩ = some (.bool o) := by rw [hW6]; simp
   have c2 : W6.cell? ⟨w5.heap.size, 2, none⟩ = some (.int .i64 h) := by rw [hW6]; simp
   have hb6 : Below w5.heap.size w5 W6 := hW6 ▸ more (Below.refl _ _) _
   rw [← hW6]
   clear hW6
   have W6b := next W5 hb6
   have iq6 := iq5.stay hb6
   go_region_held3 (fun w' => w'.cell? ⟨w5.heap.size, 0, none⟩ = some (.bool neg) ∧ w'.cell? ⟨w5.heap.size, 1, none⟩ = some (.bool o) ∧ w'.cell? ⟨w5.heap.size, 2, none⟩ = some (.int .i64 h))
    ((first | exact ⟨cellStay c0 VB, cellStay c1 VB, cellStay c2 VB⟩ | exact ⟨cellStay c0 VA, cellStay c1 VA, cellStay c2 VA⟩ | (go_keep; done)))
    (first
      | (go_at_call 172; (with_reducible refine (rdModes_any _).mono ?_); rintro en wA ⟨rfl, hbA⟩; have VA : Below W6.heap.size W6 wA := undrew hbA)
      | ((with_reducible refine (hM _).mono ?_); rintro en wB ⟨rfl, hbB⟩; have VB := next VA hbB))
   all_goals
    have W7 := next W6b VB
    have iq7 := iq6.stay VB
    clear iq6 iq5 c0 c1 c2 W5 hb6 W6b hbA hbB VA VB hM hX hEn
    cases more_
    · have hrn : Hid (rn = Q) := Lib.hid (by have := HR2.out; simpa using this)
      go_wp2
      go_ret2
      exact ⟨_, by rw [hx2.out]; rfl, ⟨aq, kq, cq, by rw [hrn.out]; exact iq7⟩, W7⟩
    · have hrn : Hid ((rn : Int) = (Q : Int) + 1) := Lib.hid (by have := HR2.out; simp at this; omega)
      have hA : ∀ W B bb, Below w.heap.size w W → In 40 W w.heap.size w.heap.size (decide ((Q : Int) < 0)) aq kq cq (Q : Int).natAbs → Iz 40 W B bb 1 → Calls Tryz.prog 135 #[.pointer (some ⟨w.heap.size, 0, none⟩), .pointer (some ⟨w.heap.size, 0, none⟩), .pointer (some ⟨bb, 0, none⟩)] W (StZ 40 w.heap.size w.heap.size ((Q : Int) + 1) W) := fun W B bb hW hi h1 =>
       bgIAdd_any w.heap.size w.heap.size w.heap.size B w.heap.size bb (Q : Int) 1 W hi.zc hW.size ⟨aq, kq, cq, hi⟩ h1 (by rw [Int.natAbs_natCast]; have := lq.out; omega) (by decide)
      have hN := bgNewZ_any 1
      go_wp2_with fail
      refine (hN _ (by decide)).mono ?_
      rintro en w8 ⟨b8, rfl, hI8, hb8⟩
      have iq8 := iq7.stay hb8
      have W8 := next W7 hb8
      go_wp2_with fail
      refine (hA _ _ _ W8 iq8 hI8).mono ?_
      rintro en w9 hS
      have W9 := hS.below W8 W8.size (Nat.le_refl _)
      obtain ⟨rfl, hI9, _⟩ := hS.in_ iq8.zc (Nat.le_refl _)
      go_wp2
      go_ret2
      exact ⟨_, by rw [hx2.out]; rfl, by rw [hrn.out]; exact hI9, W9⟩
end Go.Proofs.YtpmncmglmobjoaaGreatDoor
