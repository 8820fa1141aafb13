/-
  Contract: ratio.Scale by ten and by a tenth, of what may be.
-/
import Derived.Test.YtgdhleiokfaeoaaGreatDoorQRtM
namespace Go.Proofs.YtgdhleiokfaeoaaGreatDoor

open Go.RowKit Go.Lb

attribute [local go_sem] Go.World.cell?_alloc_some

/-- An answered fraction, by its worth. -/
def RtnW (q : Rat) (w : World) (en : Ending) (w' : World) : Prop :=
  ∃ a1 n1 c1 a2 n2 c2, en = .returned (.tuple #[.agg #[.bool (decide (q.num < 0)), .slice a1 n1 c1, .slice a2 n2 c2], .int .i64 0]) ∧ Fr 43 w' w.heap.size a1 n1 c1 (limbs q.num.natAbs) ∧ Fr 43 w' w.heap.size a2 n2 c2 (limbs q.den) ∧ Below w.heap.size w w'

theorem res_row {w w' : World} {b p : Nat} (h : Res3 w b) (hg : w.grownBy w' (some p)) (h1 : b ≠ p) : Res3 w' b := by
  have hb : w'.heap[b]? = w.heap[b]? := hg.block b h.lt (fun e => h1 (by cases e; rfl))
  obtain ⟨c0, c1, c2, z0, z1, z2⟩ := h
  exact Res3.ofs ((World.cell?_of_block hb).trans c0) ((World.cell?_of_block hb).trans c1) ((World.cell?_of_block hb).trans c2) ((World.frozen?_of_block hb).trans z0) ((World.frozen?_of_block hb).trans z1) ((World.frozen?_of_block hb).trans z2)

theorem bl_ten : Lib.bitLen 10 = 4 := by decide +kernel

theorem sgQ_zero (s : Bool) {D : Nat} (hs : s = true → (0 : Nat) ≠ 0) : sgQ' s 0 D = 0 := by
  unfold sgQ'
  cases s
  · simp
  · exact absurd rfl (hs rfl)

theorem tn_zero (k : Int) : tnQ 0 k = 0 := by
  unfold tnQ
  split
  · rw [Rat.div_def, Rat.zero_mul]
  · rw [Rat.zero_mul]

set_option maxRecDepth 100000 in
set_option maxHeartbeats 4000000 in
theorem rtScale_zero (k : Int) (hk : k = 1 ∨ k = -1) (s : Bool) (a1 a2 : Option Addr) (n1 n2 c1 c2 : Nat) (xs ys : List Nat) (w : World) (h1 : Sl w a1 n1 c1 xs) (h2 : Sl w a2 n2 c2 ys) (hT : Tab w) (hr : ratB s xs ys = true) (h0 : val xs = 0) :
    Calls Tryz.prog 33 #[.agg #[.bool s, .slice a1 n1 c1, .slice a2 n2 c2], .int .u32 10, .int .i64 k] w (RtnW (tnQ (sgQ' s (val xs) (val ys)) k) w) := by
  obtain ⟨W2, hW2⟩ : ∃ W2 : World, W2 = (w.alloc (.cells #[.bool s, .slice a1 n1 c1, .slice a2 n2 c2] 28)).alloc (.cells #[.bool false, .slice none 0 0, .slice none 0 0] 28) := ⟨_, rfl⟩
  have hb2 : Below w.heap.size w W2 := hW2 ▸ more (more (Below.refl _ _) _) _
  have X2 : Box3 W2 w.heap.size (.bool s) (.slice a1 n1 c1) (.slice a2 n2 c2) := hW2 ▸ (box3_new w _ _ _ _).alloc _
  have R2 : Box3 W2 (w.heap.size + 1) (.bool false) (.slice none 0 0) (.slice none 0 0) := by
    have := box3_new (w.alloc (.cells #[.bool s, .slice a1 n1 c1, .slice a2 n2 c2] 28)) (.bool false) (.slice none 0 0) (.slice none 0 0) 28
    rw [World.size_alloc] at this
    exact hW2 ▸ this
  have tA := taken_ok (h1.below hb2) (h2.below hb2) (hT.below hb2) hr
  obtain ⟨_, _, hD, hG, hs, l1, l2⟩ := rat_facts5 h1 h2 hr
  rw [h0] at hs
  have hq := sgQ_zero s (D := val ys) hs
  rw [h0, hq, tn_zero]
  rw [h0, hq] at tA
  have hsn : ∀ W b B, Rq 43 W B b 0 → Calls Tryz.prog 84 #[.pointer (some ⟨b, 0, none⟩)] W fun e w' => e = .returned (.int .i64 0) ∧ W = w' := fun W b B h => bgRSignZ_any b B 0 W h
  have hWh : ∀ W, Calls Tryz.prog 31 #[.int .i64 0] W (WhoQ 0 W) := fun W => rtWholeN_ok 0 W (by decide) (by decide)
  have hk0 : ¬ k = 0 := by omega
  have hkk := Lib.hid hk
  generalize (0 : Rat) = q0 at *
  clear hq h1 h2 hT hr h0 hs hD hG l1 l2 hk
  have ⟨x0, x1, x2, _, _, _⟩ := X2
  go_enter Tryz.func33, Tryz.ntmps33
  go_upto_region 1 with fail
  rw [← hW2]
  clear hW2
  go_wp2_with fail
  refine tA.mono ?_
  rintro en w3 ⟨b, rfl, Q3, hb3⟩
  have V3 := next hb2 hb3
  have R3 := R2.stay hb3
  clear x0 x1 x2 X2 tA
  go_wp2_with fail
  refine (hsn w3 b _ Q3).mono ?_
  rintro en w3' ⟨rfl, rfl⟩
  go_wp2_with fail
  refine (hWh w3).mono ?_
  rintro en w5 ⟨a3, n3, f3, a4, n4, f4, rfl, F3, F4, hb5⟩
  have V5 := next V3 hb5
  have R5 := R3.stay hb5
  have ⟨r0, r1, r2, _, _, _⟩ := R5
  have hz3 := V3.size
  have hz5 := R3.lt
  clear R3 R2 hWh hsn Q3
  go_wp2
  obtain ⟨t0, t1, t2⟩ := R5.set (.bool (decide (q0.num < 0))) (.slice a3 n3 f3) (.slice a4 n4 f4)
  refine bodyPost_ret (v := .tuple #[.agg #[.bool (decide (q0.num < 0)), .slice a3 n3 f3, .slice a4 n4 f4], .int .i64 0]) (by simp [results, Tryz.results33, go_sem, t0, t1, t2]) rfl ?_
  exact ⟨_, _, _, _, _, _, rfl, (((F3.setCell (by simp; omega) _).setCell (by simp; omega) _).setCell (by simp; omega) _).mono hz3, (((F4.setCell (by simp; omega) _).setCell (by simp; omega) _).setCell (by simp; omega) _).mono hz3, ((V5.setCell (by simp) _).setCell (by simp) _).setCell (by simp) _⟩

end Go.Proofs.YtgdhleiokfaeoaaGreatDoor

