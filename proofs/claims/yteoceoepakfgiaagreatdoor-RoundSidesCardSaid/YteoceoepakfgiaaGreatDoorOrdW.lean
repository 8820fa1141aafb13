/-
  Contracts of numerallaw05.asked, key; ratio.Cmp of what may be.
-/
import Derived.Test.YteoceoepakfgiaaGreatDoorOrdL
import Derived.Test.YteoceoepakfgiaaGreatDoorRdE
import Derived.Test.YteoceoepakfgiaaGreatDoorBgU
namespace Go.Proofs.YteoceoepakfgiaaGreatDoor
open Go.RowKit Go.Lb

attribute [local go_sem] Go.World.cell?_alloc_some

/-- May these be asked of? -/
def askB (e f : Int) (s : Bool) (xs ys : List Nat) (n1 n2 : Nat) : Bool := decide (formE e f = 0 ∧ ratB s xs ys = true ∧ n1 ≤ 60 ∧ n2 ≤ 60)

set_option maxRecDepth 100000 in
set_option maxHeartbeats 2000000 in
theorem asked5_any (e f : Int) (s : Bool) (a1 a2 : Option Addr) (n1 n2 c1 c2 : Nat) (xs ys : List Nat) (w : World) (h1 : Sl w a1 n1 c1 xs) (h2 : Sl w a2 n2 c2 ys) (hT : Tab w) :
    Calls Tryz.prog 7 #[.agg #[.int .i64 e, .int .i64 f], .agg #[.bool s, .slice a1 n1 c1, .slice a2 n2 c2]] w fun en w' => en = .returned (.bool (askB e f s xs ys n1 n2)) ∧ Below w.heap.size w w' := by
  obtain ⟨W2, hW2⟩ : ∃ W2 : World, W2 = (w.alloc (.cells #[.int .i64 e, .int .i64 f] 30)).alloc (.cells #[.bool s, .slice a1 n1 c1, .slice a2 n2 c2] 26) := ⟨_, rfl⟩
  have hb2 : Below w.heap.size w W2 := hW2 ▸ more (more (Below.refl _ _) _) _
  have c0 : W2.cell? ⟨w.heap.size, 0, none⟩ = some (.int .i64 e) := by rw [hW2]; simp [World.cell?_alloc_some]
  have c1' : W2.cell? ⟨w.heap.size, 1, none⟩ = some (.int .i64 f) := by rw [hW2]; simp [World.cell?_alloc_some]
  have D2 : Box3 W2 (w.heap.size + 1) (.bool s) (.slice a1 n1 c1) (.slice a2 n2 c2) := by
    have := box3_new (w.alloc (.cells #[.int .i64 e, .int .i64 f] 30)) (.bool s) (.slice a1 n1 c1) (.slice a2 n2 c2) 26
    rw [World.size_alloc] at this
    exact hW2 ▸ this
  have hFc := formCheck_any e f W2
  have hRc : ∀ W, Below w.heap.size w W → Calls Tryz.prog 26 #[.agg #[.bool s, .slice a1 n1 c1, .slice a2 n2 c2]] W fun e w' => e = .returned (.int .i64 (ratE s xs ys)) ∧ Below W.heap.size W w' := fun W hW => rtCheck_any s a1 a2 n1 n2 c1 c2 xs ys W (h1.below hW) (h2.below hW) (hT.below hW)
  by_cases hf : formE e f = 0
  · rw [hf] at hFc
    cases hr : ratB s xs ys
    · have hR : Hid (askB e f s xs ys n1 n2 = false) := Lib.hid (decide_eq_false (fun h => by rw [hr] at h; exact absurd h.2.1 (by decide)))
      have hE : ratE s xs ys = 20 := by unfold ratE; rw [hr]; rfl
      rw [hE] at hRc
      generalize askB e f s xs ys n1 n2 = r at *
      clear hf hr hE h1 h2 hT
      go_enter Tryz.func7, Tryz.ntmps7
      go_wp2_with fail
      rw [← hW2]
      clear hW2
      refine hFc.mono ?_
      rintro en w3 ⟨rfl, hb3⟩
      have V3 := next hb2 hb3
      have ⟨d0, d1, d2, _, _, _⟩ := D2.stay hb3
      go_wp2_with fail
      refine (hRc w3 V3).mono ?_
      rintro en w4 ⟨rfl, hb4⟩
      go_wp2
      go_ret
      exact ⟨by rw [hR.out]; rfl, next V3 hb4⟩
    · have hE : ratE s xs ys = 0 := by unfold ratE; rw [hr]; rfl
      rw [hE] at hRc
      by_cases k1 : n1 ≤ 60
      · by_cases k2 : n2 ≤ 60
        · have hR : Hid (askB e f s xs ys n1 n2 = true) := Lib.hid (decide_eq_true ⟨hf, hr, k1, k2⟩)
          have i1 : (n1 : Int) ≤ 60 := by omega
          have i2 : (n2 : Int) ≤ 60 := by omega
          generalize askB e f s xs ys n1 n2 = r at *
          clear hf hr hE h1 h2 hT k1 k2
          go_enter Tryz.func7, Tryz.ntmps7
          go_wp2_with fail
          rw [← hW2]
          clear hW2
          refine hFc.mono ?_
          rintro en w3 ⟨rfl, hb3⟩
          have V3 := next hb2 hb3
          have D3 := D2.stay hb3
          have ⟨d0, d1, d2, _, _, _⟩ := D3
          go_wp2_with fail
          refine (hRc w3 V3).mono ?_
          rintro en w4 ⟨rfl, hb4⟩
          have ⟨e0, e1, e2, _, _, _⟩ := D3.stay hb4
          clear d0 d1 d2
          go_wp2
          go_ret
          exact ⟨by rw [hR.out]; rfl, next V3 hb4⟩
        · have hR : Hid (askB e f s xs ys n1 n2 = false) := Lib.hid (decide_eq_false (fun h => k2 h.2.2.2))
          have i1 : (n1 : Int) ≤ 60 := by omega
          have i2 : ¬ (n2 : Int) ≤ 60 := by omega
          have hd2 := decide_eq_false i2
          generalize askB e f s xs ys n1 n2 = r at *
          clear hf hr hE h1 h2 hT k1 k2
          go_enter Tryz.func7, Tryz.ntmps7
          go_wp2_with fail
          rw [← hW2]
          clear hW2
          refine hFc.mono ?_
          rintro en w3 ⟨rfl, hb3⟩
          have V3 := next hb2 hb3
          have D3 := D2.stay hb3
          have ⟨d0, d1, d2, _, _, _⟩ := D3
          go_wp2_with fail
          refine (hRc w3 V3).mono ?_
          rintro en w4 ⟨rfl, hb4⟩
          have ⟨e0, e1, e2, _, _, _⟩ := D3.stay hb4
          clear d0 d1 d2
          go_wp2
          go_ret
          exact ⟨by rw [hR.out, ← hd2]; rfl, next V3 hb4⟩
      · have hR : Hid (askB e f s xs ys n1 n2 = false) := Lib.hid (decide_eq_false (fun h => k1 h.2.2.1))
        have i1 : ¬ (n1 : Int) ≤ 60 := by omega
        generalize askB e f s xs ys n1 n2 = r at *
        clear hf hr hE h1 h2 hT k1
        go_enter Tryz.func7, Tryz.ntmps7
        go_wp2_with fail
        rw [← hW2]
        clear hW2
        refine hFc.mono ?_
        rintro en w3 ⟨rfl, hb3⟩
        have V3 := next hb2 hb3
        have D3 := D2.stay hb3
        have ⟨d0, d1, d2, _, _, _⟩ := D3
        go_wp2_with fail
        refine (hRc w3 V3).mono ?_
        rintro en w4 ⟨rfl, hb4⟩
        have ⟨e0, e1, e2, _, _, _⟩ := D3.stay hb4
        clear d0 d1 d2
        go_wp2
        go_ret
        exact ⟨by rw [hR.out]; rfl, next V3 hb4⟩
  · have hR : Hid (askB e f s xs ys n1 n2 = false) := Lib.hid (decide_eq_false (fun h => hf h.1))
    have h5 : formE e f = 5 := by unfold formE at hf ⊢; split at hf <;> simp_all
    rw [h5] at hFc
    generalize askB e f s xs ys n1 n2 = r at *
    clear hf h5 hRc h1 h2 hT
    go_enter Tryz.func7, Tryz.ntmps7
    go_wp2_with fail
    rw [← hW2]
    clear hW2
    refine hFc.mono ?_
    rintro en w3 ⟨rfl, hb3⟩
    go_wp2
    go_ret
    exact ⟨by rw [hR.out]; rfl, next hb2 hb3⟩

set_option maxRecDepth 100000 in
set_option maxHeartbeats 2000000 in
theorem key5_any (E F b : Nat) (w : World) (hE : E ≤ 11) (hF : F ≤ 52) (hb : b < 2 * 2 ^ (E + F)) :
    Calls Tryz.prog 20 #[.agg #[.int .i64 (E : Int), .int .i64 (F : Int)], .int .u64 (b : Int)] w fun en w' => en = .returned (.int .i64 (keyZ E F b)) ∧ Below w.heap.size w w' := by
  have e2 : 2 ^ (E + F) ≤ 2 ^ 63 := Nat.pow_le_pow_right (by decide) (by omega)
  have e3 : (2 : Nat) ^ 63 = 9223372036854775808 := by decide
  have c1 : (2 : Int) ^ (E + F) = ((2 ^ (E + F) : Nat) : Int) := by simp
  obtain ⟨S, hS⟩ : ∃ S, S = 2 ^ (E + F) := ⟨_, rfl⟩
  obtain ⟨k, hk⟩ : ∃ k : Nat, (E : Int) + (F : Int) = (k : Int) := ⟨E + F, by omega⟩
  have hkk : k = E + F := by omega
  have hk2 : k ≤ 63 := by omega
  have hw1 : IntKind.u64.wrap (2 ^ k) = (S : Int) := by rw [hkk, c1, ← hS, IntKind.wrap_u64]; omega
  have hS1 : S ≤ 9223372036854775808 := by omega
  have hb' : b < 2 * S := by omega
  have hK : Hid (keyZ E F b = if S ≤ b then -((b - S : Nat) : Int) else (b : Int)) := Lib.hid (by unfold keyZ; rw [← hS])
  generalize keyZ E F b = kz at *
  clear hkk c1 hS e2 e3 hb
  by_cases h : S ≤ b
  · obtain ⟨d, rfl⟩ : ∃ d, b = S + d := ⟨b - S, by omega⟩
    have hd : d < 9223372036854775808 := by omega
    have hK' : Hid (kz = -((S : Int) + (d : Int) - (S : Int))) := Lib.hid (by rw [hK.out, if_pos (by omega), Nat.add_sub_cancel_left]; omega)
    clear hK
    go_enter Tryz.func20, Tryz.ntmps20
    go_wp2
    go_ret
    exact ⟨by rw [hK'.out]; rfl, more (Below.refl _ _) _⟩
  · have hlt : ¬ (b : Int) ≥ (S : Int) := by omega
    have hK' : Hid (kz = (b : Int)) := Lib.hid (by rw [hK.out, if_neg h])
    clear hK
    go_enter Tryz.func20, Tryz.ntmps20
    go_wp2
    go_ret
    exact ⟨by rw [hK'.out]; rfl, more (Below.refl _ _) _⟩

/-- A fraction in cells, by its worth. -/
theorem ra_rq {w : World} {base b N D : Nat} {s : Bool} (h : Ra 37 w base b s N D) (hD : D ≠ 0) (hG : Nat.gcd N D = 1) (hs : s = true → N ≠ 0) : Rq 37 w base b (sgQ' s N D) := by
  obtain ⟨q1, q2, q3⟩ := mk_low hD hG hs
  unfold Rq
  rw [q1, q2, q3]
  exact h

theorem rat_facts5 {w : World} {a1 a2 : Option Addr} {n1 n2 c1 c2 : Nat} {s : Bool} {xs ys : List Nat} (h1 : Sl w a1 n1 c1 xs) (h2 : Sl w a2 n2 c2 ys) (hr : ratB s xs ys = true) :
    Fine xs ∧ Fine ys ∧ val ys ≠ 0 ∧ Nat.gcd (val xs) (val ys) = 1 ∧ (s = true → val xs ≠ 0) ∧ n1 ≤ 16384 ∧ n2 ≤ 16384 := by
  obtain ⟨hx, hy, hl, hG, hs⟩ : chk xs = 0 ∧ chk ys = 0 ∧ ys.length ≠ 0 ∧ Nat.gcd (val xs) (val ys) = 1 ∧ (s = true → val xs ≠ 0) := of_decide_eq_true hr
  exact ⟨fine_of_chk h1.ok hx, fine_of_chk h2.ok hy, fun h => hl ((val_zero_iff h2.ok hy).1 h), hG, hs, by rw [← h1.len]; exact chk_zero_len hx, by rw [← h2.len]; exact chk_zero_len hy⟩

theorem taken_ok {s : Bool} {a1 a2 : Option Addr} {n1 n2 c1 c2 : Nat} {xs ys : List Nat} {w : World} (h1 : Sl w a1 n1 c1 xs) (h2 : Sl w a2 n2 c2 ys) (hT : Tab w) (hr : ratB s xs ys = true) :
    Calls Tryz.prog 39 #[.agg #[.bool s, .slice a1 n1 c1, .slice a2 n2 c2]] w fun en w' => ∃ b, en = .returned (.tuple #[.pointer (some ⟨b, 0, none⟩), .int .i64 0]) ∧ Rq 37 w' w.heap.size b (sgQ' s (val xs) (val ys)) ∧ Below w.heap.size w w' := by
  obtain ⟨_, _, hD, hG, hs, _, _⟩ := rat_facts5 h1 h2 hr
  refine (rtTaken_any s a1 a2 n1 n2 c1 c2 xs ys w h1 h2 hT).mono ?_
  rintro en w' (⟨_, b, rfl, hR, hb⟩ | ⟨hn, _⟩)
  · exact ⟨b, rfl, ra_rq hR hD hG hs, hb⟩
  · rw [hr] at hn; cases hn

set_option maxRecDepth 100000 in
set_option maxHeartbeats 2000000 in
theorem rtCmp_ok (s t : Bool) (a1 a2 b1 b2 : Option Addr) (n1 n2 m1 m2 c1 c2 d1 d2 : Nat) (xs ys us vs : List Nat) (w : World) (h1 : Sl w a1 n1 c1 xs) (h2 : Sl w a2 n2 c2 ys) (h3 : Sl w b1 m1 d1 us) (h4 : Sl w b2 m2 d2 vs) (hT : Tab w) (hr : ratB s xs ys = true) (ht : ratB t us vs = true) :
    Calls Tryz.prog 12 #[.agg #[.bool s, .slice a1 n1 c1, .slice a2 n2 c2], .agg #[.bool t, .slice b1 m1 d1, .slice b2 m2 d2]] w fun en w' => en = .returned (.tuple #[.int .i64 (cmpQ (sgQ' s (val xs) (val ys)) (sgQ' t (val us) (val vs))), .int .i64 0]) ∧ Below w.heap.size w w' := by
  obtain ⟨W2, hW2⟩ : ∃ W2 : World, W2 = (w.alloc (.cells #[.bool s, .slice a1 n1 c1, .slice a2 n2 c2] 26)).alloc (.cells #[.bool t, .slice b1 m1 d1, .slice b2 m2 d2] 26) := ⟨_, rfl⟩
  have hb2 : Below w.heap.size w W2 := hW2 ▸ more (more (Below.refl _ _) _) _
  have D2 : Box3 W2 w.heap.size (.bool s) (.slice a1 n1 c1) (.slice a2 n2 c2) := hW2 ▸ (box3_new w _ _ _ _).alloc _
  have R2 : Box3 W2 (w.heap.size + 1) (.bool t) (.slice b1 m1 d1) (.slice b2 m2 d2) := by
    have := box3_new (w.alloc (.cells #[.bool s, .slice a1 n1 c1, .slice a2 n2 c2] 26)) (.bool t) (.slice b1 m1 d1) (.slice b2 m2 d2) 26
    rw [World.size_alloc] at this
    exact hW2 ▸ this
  have tA := taken_ok (h1.below hb2) (h2.below hb2) (hT.below hb2) hr
  have tB : ∀ W, Below w.heap.size w W → Calls Tryz.prog 39 #[.agg #[.bool t, .slice b1 m1 d1, .slice b2 m2 d2]] W _ := fun W hW => taken_ok (h3.below hW) (h4.below hW) (hT.below hW) ht
  obtain ⟨_, _, hD, hG, hs, l1, l2⟩ := rat_facts5 h1 h2 hr
  obtain ⟨_, _, hD', hG', hs', l3, l4⟩ := rat_facts5 h3 h4 ht
  obtain ⟨q1, q2, _⟩ := mk_low hD hG hs
  obtain ⟨r1, r2, _⟩ := mk_low hD' hG' hs'
  have lN : ln (val xs) ≤ 16384 := Nat.le_trans (ln_le (val_lt h1.ok)) (by rw [h1.len]; exact l1)
  have lD : ln (val ys) ≤ 16384 := Nat.le_trans (ln_le (val_lt h2.ok)) (by rw [h2.len]; exact l2)
  have lM : ln (val us) ≤ 16384 := Nat.le_trans (ln_le (val_lt h3.ok)) (by rw [h3.len]; exact l3)
  have lE : ln (val vs) ≤ 16384 := Nat.le_trans (ln_le (val_lt h4.ok)) (by rw [h4.len]; exact l4)
  have hC : ∀ (W : World) (B1 B2 z1 z2 : Nat), Rq 37 W B1 z1 (sgQ' s (val xs) (val ys)) → Rq 37 W B2 z2 (sgQ' t (val us) (val vs)) → Calls Tryz.prog 40 #[.pointer (some ⟨z1, 0, none⟩), .pointer (some ⟨z2, 0, none⟩)] W fun e w' => e = .returned (.int .i64 (cmpQ (sgQ' s (val xs) (val ys)) (sgQ' t (val us) (val vs)))) ∧ Below W.heap.size W w' := fun W B1 B2 z1 z2 x y => bgRCmp_any z1 z2 B1 B2 _ _ W x y (by rw [q1]; omega) (by rw [q2]; omega) (by rw [r1]; omega) (by rw [r2]; omega)
  generalize sgQ' s (val xs) (val ys) = qx at *
  generalize sgQ' t (val us) (val vs) = qy at *
  generalize cmpQ qx qy = cv at *
  clear q1 q2 r1 r2 hD hG hs hD' hG' hs' l1 l2 l3 l4 lN lD lM lE h1 h2 h3 h4 hr ht hT
  have ⟨d0, d1', d2', _, _, _⟩ := D2
  go_enter Tryz.func12, Tryz.ntmps12
  go_wp2_with fail
  rw [← hW2]
  clear hW2
  refine tA.mono ?_
  rintro en w3 ⟨z1, rfl, Q1, hb3⟩
  have V3 := next hb2 hb3
  have ⟨e0, e1, e2, _, _, _⟩ := R2.stay hb3
  clear d0 d1' d2' D2 tA
  go_wp2_with fail
  refine (tB w3 V3).mono ?_
  rintro en w4 ⟨z2, rfl, Q2, hb4⟩
  clear e0 e1 e2 tB
  go_wp2_with fail
  refine (hC w4 _ _ z1 z2 (Q1.stay hb4) Q2).mono ?_
  rintro en w5 ⟨rfl, hb5⟩
  go_wp2
  go_ret2
  exact ⟨rfl, next (next V3 hb4) hb5⟩

end Go.Proofs.YteoceoepakfgiaaGreatDoor
