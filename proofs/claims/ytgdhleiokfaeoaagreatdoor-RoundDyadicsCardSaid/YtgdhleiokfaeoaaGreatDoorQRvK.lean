/-
  Contracts of numeral/numeralref05: Two.
-/

import Derived.Test.YtgdhleiokfaeoaaGreatDoorQRvJ
namespace Go.Proofs.YtgdhleiokfaeoaaGreatDoor

open Go.RowKit Go.Lb

attribute [local go_sem] Go.World.cell?_alloc_some

/-- May it be a dyadic? -/
def twoB (neg : Bool) (xs : List Nat) (x : Int) : Bool := decide (dchk neg xs x = 0)

theorem two_no {neg : Bool} {xs : List Nat} {x : Int} (h : chk xs ≠ 0) : twoB neg xs x = false := decide_eq_false (by unfold dchk; rw [if_pos h]; exact h)

theorem two_far {neg : Bool} {xs : List Nat} {x : Int} (h : chk xs = 0) (hx : x > 1073741824 ∨ x < -1073741824) : twoB neg xs x = false := decide_eq_false (by
  unfold dchk
  rw [if_neg (by simp [h])]
  have hf : farB x = true := by unfold farB; simp; omega
  split
  · rw [if_pos (.inr (by omega))]; decide
  · rw [if_pos (.inr hf)]; decide)

theorem two_zero {neg : Bool} {xs : List Nat} {x : Int} (h : chk xs = 0) (hl : xs.length = 0) : twoB neg xs x = (decide (x = 0) && !neg) := by
  unfold twoB dchk
  rw [if_neg (by simp [h]), if_pos hl]
  by_cases hx : x = 0
  · cases neg <;> simp [hx]
  · simp [hx]

theorem two_odd {neg : Bool} {xs : List Nat} {x : Int} (h : chk xs = 0) (hl : xs.length ≠ 0) (h1 : ¬ x > 1073741824) (h2 : ¬ x < -1073741824) : twoB neg xs x = decide (nth xs 0 % 2 = 1) := by
  unfold twoB dchk
  have hf : farB x = false := by unfold farB; simp; omega
  rw [if_neg (by simp [h]), if_neg hl, hf]
  by_cases hx : nth xs 0 % 2 = 0
  · simp [hx]
  · have : nth xs 0 % 2 = 1 := by omega
    simp [this]

set_option maxRecDepth 100000 in
set_option maxHeartbeats 2000000 in
theorem nbTwo_any (neg : Bool) (ao : Option Addr) (n c : Nat) (x : Int) (xs : List Nat) (w : World) (h : Sl w ao n c xs) :
    Calls Tryz.prog 66 #[.agg #[.bool neg, .slice ao n c, .int .i64 x]] w fun e w' => e = .returned (.bool (twoB neg xs x)) ∧ Below w.heap.size w w' := by
  obtain ⟨W1, hW1⟩ : ∃ W1 : World, W1 = w.alloc (.cells #[.bool neg, .slice ao n c, .int .i64 x] 46) := ⟨_, rfl⟩
  have hb1 : Below w.heap.size w W1 := hW1 ▸ more (Below.refl _ _) _
  have D1 : Box3 W1 w.heap.size (.bool neg) (.slice ao n c) (.int .i64 x) := hW1 ▸ box3_new w _ _ _ _
  have hM := rf2May_any ao n c xs W1 (h.below hb1)
  have hlen := h.len
  have ⟨d0, d1, d2, _, _, _⟩ := D1
  by_cases hc : chk xs = 0
  · have hmay : mayB xs = true := decide_eq_true hc
    rw [hmay] at hM
    by_cases hx1 : x > 1073741824
    · have hR : Hid (twoB neg xs x = false) := Lib.hid (two_far hc (.inl hx1))
      generalize twoB neg xs x = r at *
      clear hmay hlen hc h
      go_enter Tryz.func66, Tryz.ntmps66
      go_wp2_with fail
      rw [← hW1]
      clear hW1
      refine hM.mono ?_
      rintro en w2 ⟨rfl, hb2⟩
      have ⟨e0, e1, e2, _, _, _⟩ := D1.stay hb2
      clear d0 d1 d2 D1
      go_wp2
      go_ret
      exact ⟨by rw [hR.out]; rfl, next hb1 hb2⟩
    · by_cases hx2 : x < -1073741824
      · have hR : Hid (twoB neg xs x = false) := Lib.hid (two_far hc (.inr hx2))
        generalize twoB neg xs x = r at *
        clear hmay hlen hc h
        go_enter Tryz.func66, Tryz.ntmps66
        go_wp2_with fail
        rw [← hW1]
        clear hW1
        refine hM.mono ?_
        rintro en w2 ⟨rfl, hb2⟩
        have ⟨e0, e1, e2, _, _, _⟩ := D1.stay hb2
        clear d0 d1 d2 D1
        go_wp2
        go_ret
        exact ⟨by rw [hR.out]; rfl, next hb1 hb2⟩
      · by_cases hn : n = 0
        · have hR : Hid (twoB neg xs x = (decide (x = 0) && !neg)) := Lib.hid (two_zero hc (hlen.trans hn))
          generalize twoB neg xs x = r at *
          subst hn
          clear hmay hlen hc h
          by_cases hx0 : x = 0
          · subst hx0
            cases neg
            all_goals
              go_enter Tryz.func66, Tryz.ntmps66
              go_wp2_with fail
              rw [← hW1]
              clear hW1
              refine hM.mono ?_
              rintro en w2 ⟨rfl, hb2⟩
              have ⟨e0, e1, e2, _, _, _⟩ := D1.stay hb2
              clear d0 d1 d2 D1
              go_wp2
              go_ret
              exact ⟨by rw [hR.out]; rfl, next hb1 hb2⟩
          · go_enter Tryz.func66, Tryz.ntmps66
            go_wp2_with fail
            rw [← hW1]
            clear hW1
            refine hM.mono ?_
            rintro en w2 ⟨rfl, hb2⟩
            have ⟨e0, e1, e2, _, _, _⟩ := D1.stay hb2
            clear d0 d1 d2 D1
            have hd : decide (x = 0) = false := decide_eq_false hx0
            rw [hd] at hR
            go_wp2
            go_ret
            exact ⟨by rw [hR.out]; rfl, next hb1 hb2⟩
        · have hR : Hid (twoB neg xs x = decide (nth xs 0 % 2 = 1)) := Lib.hid (two_odd hc (by omega) hx1 hx2)
          generalize twoB neg xs x = r at *
          obtain ⟨b, o, rfl, hbl, hcc⟩ := h.at_ (by omega)
          have k0 := hcc 0 (by omega)
          have hlt := nth_lt h.ok 0
          generalize nth xs 0 = v at *
          rw [Nat.add_zero] at k0
          have i1 : (0 : Int) < (n : Int) := by omega
          have i0 : ¬ ((n : Int) = 0) := by omega
          have hV : Hid (decide ((v : Int) % 2 = 1) = decide (v % 2 = 1)) := Lib.hid (by
            by_cases hh : v % 2 = 1
            · rw [decide_eq_true hh, decide_eq_true (by omega)]
            · rw [decide_eq_false hh, decide_eq_false (by omega)])
          have k0' := cellStay k0 hb1
          clear hmay hlen hc h hcc hn k0
          go_enter Tryz.func66, Tryz.ntmps66
          go_wp2_with fail
          rw [← hW1]
          clear hW1
          refine hM.mono ?_
          rintro en w2 ⟨rfl, hb2⟩
          have ⟨e0, e1, e2, _, _, _⟩ := D1.stay hb2
          have k1 := cellStay k0' hb2
          clear d0 d1 d2 D1 k0'
          go_wp2
          go_ret
          exact ⟨by rw [hR.out, ← hV.out]; rfl, next hb1 hb2⟩
  · have hmay : mayB xs = false := decide_eq_false hc
    rw [hmay] at hM
    have hR : Hid (twoB neg xs x = false) := Lib.hid (two_no hc)
    generalize twoB neg xs x = r at *
    clear hmay hlen hc h
    go_enter Tryz.func66, Tryz.ntmps66
    go_wp2_with fail
    rw [← hW1]
    clear hW1
    refine hM.mono ?_
    rintro en w2 ⟨rfl, hb2⟩
    have ⟨e0, e1, e2, _, _, _⟩ := D1.stay hb2
    clear d0 d1 d2 D1
    go_wp2
    go_ret
    exact ⟨by rw [hR.out]; rfl, next hb1 hb2⟩

end Go.Proofs.YtgdhleiokfaeoaaGreatDoor

