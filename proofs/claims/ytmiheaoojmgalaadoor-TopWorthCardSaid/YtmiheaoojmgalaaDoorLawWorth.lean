/-
  The law TopWorth answers true.
-/
import Derived.Test.YtmiheaoojmgalaaDoorTopF
import Derived.Test.YtmiheaoojmgalaaDoorExs
namespace Go.Proofs.YtmiheaoojmgalaaDoor
open Go.RowKit Go.Lb

theorem one_half : valN 11 52 4609434218613702656 = 3 ∧ valX 11 52 4609434218613702656 = -1 ∧ valE 11 52 4609434218613702656 = 0 ∧ valS 11 52 4609434218613702656 = false := by decide +kernel

/-- What the law needs of two finite floats. -/
structure WoF (e f : Int) (a b : Nat) (D E : Ds) (na nb : Bool) (v : Nat) (c : Int) : Prop where
  vD : D = valD e f a
  vE : E = valD e f b
  eD : D.e = 0
  eE : E.e = 0
  bV : v = bitsV e f D.s (limbs D.N) D.x
  bI : bitsIs e f D.s (limbs D.N) D.x = true
  bE : bitsE e f D.s (limbs D.N) D.x = 0
  vv : v = if na = true then 0 else a
  cc : c = cmpA D.s (limbs D.N) D.x E.s (limbs E.N) E.x
  cF : cmpF D.s (limbs D.N) D.x E.s (limbs E.N) E.x = 0
  c0 : c = 0 ↔ a = b ∨ na = true ∧ nb = true
  no : ∀ W : World, Calls Tryd.prog 36 #[.agg #[.int .i64 e, .int .i64 f], .int .u64 a] W fun en w' => en = .returned (.bool na) ∧ Below W.heap.size W w'
  np : ∀ W : World, Calls Tryd.prog 36 #[.agg #[.int .i64 e, .int .i64 f], .int .u64 b] W fun en w' => en = .returned (.bool nb) ∧ Below W.heap.size W w'

theorem valOk_parts {e f : Int} {b : Nat} (h : valOk e f b = true) : ∃ e' f' : Nat, e = (e' : Int) ∧ f = (f' : Int) ∧ formE (e' : Int) (f' : Int) = 0 ∧ b < pw (1 + e' + f') ∧ exN e' f' b ≠ maskN e' := by
  obtain ⟨h1, h2⟩ := of_decide_eq_true h
  have hform : formE e f = 0 := by
    unfold fitsE at h1
    split at h1
    · rename_i hh; exact absurd h1 hh
    · rename_i hh; exact Classical.byContradiction hh
  obtain ⟨g1, g2, g3, g4⟩ := formE_ok hform
  obtain ⟨e, rfl⟩ := Int.eq_ofNat_of_zero_le (by omega : 0 ≤ e)
  obtain ⟨f, rfl⟩ := Int.eq_ofNat_of_zero_le (by omega : 0 ≤ f)
  refine ⟨e, f, rfl, rfl, hform, ?_, by simpa using h2⟩
  unfold fitsE at h1
  rw [if_neg (by simp [hform])] at h1
  split at h1
  · assumption
  · cases h1

theorem woF_of {e f : Int} {a b : Nat} (ha : valOk e f a = true) (hb : valOk e f b = true) : ∃ D E na nb v c, WoF e f a b D E na nb v c := by
  obtain ⟨e, f, rfl, rfl, hform, hp, hx⟩ := valOk_parts ha
  obtain ⟨e', f', he, hf, _, hq, hy⟩ := valOk_parts hb
  obtain rfl : e = e' := by omega
  obtain rfl : f = f' := by omega
  obtain ⟨g1, g2, g3, g4⟩ := formE_ok hform
  obtain ⟨u1, u2⟩ := valD_ok (fitsE_ok hform hp) hx (by omega) (by omega)
  obtain ⟨v1, v2⟩ := valD_ok (fitsE_ok hform hq) hy (by omega) (by omega)
  obtain ⟨b1, b2, b3⟩ := bits_value hform hp hx _ rfl
  obtain ⟨c1, c2⟩ := cmpA_worth u2.dy v2.dy u2.low v2.low
  have hw := worth_same hform hp hq hx hy
  rw [u2.wo, v2.wo] at c2
  refine ⟨_, _, decide (vN e f a = 0), decide (vN e f b = 0), _, _, rfl, rfl, u1, v1, rfl, b2, b1, ?_, rfl, c1, ?_, fun W => topNought_any e f a W hform, fun W => topNought_any e f b W hform⟩
  · rw [b3]
    simp
  · simp only [decide_eq_true_eq]
    rw [← hw]
    rcases c2 with ⟨h1, h2⟩ | ⟨h1, h2⟩ | ⟨h1, h2⟩ <;> constructor <;> intro h3 <;> omega

set_option maxRecDepth 100000 in
set_option maxHeartbeats 4000000 in
theorem worth_no (e f : Int) (a b : Nat) (w : World) (ha : a < 18446744073709551616) (hb : b < 18446744073709551616) (hT : Tab w) (hn : valOk e f a = false ∨ valOk e f b = false) :
    Calls Tryd.prog 8 #[.agg #[.int .i64 e, .int .i64 f], .int .u64 a, .int .u64 b] w fun en w' => en = .returned (.bool true) ∧ Below w.heap.size w w' := by
  obtain ⟨oN, oX, oE, oS⟩ := one_half
  go_enter Tryd.func8, Tryd.ntmps8
  go_wp2_with fail
  have A := box2_new w (.int .i64 e) (.int .i64 f) 23
  have hW := more (Below.refl w.heap.size w) (.cells #[.int .i64 e, .int .i64 f] 23)
  replace hT := hT.below hW
  generalize w.alloc (.cells #[.int .i64 e, .int .i64 f] 23) = w0 at A hW hT ⊢
  refine (topDouble_any _).mono ?_
  rintro en w1 ⟨rfl, hV⟩
  replace A := A.stay hV
  replace hW := next hW hV
  replace hT := hT.below hV
  go_wp2_with fail
  refine (value_any 11 52 4609434218613702656 _ (by decide) hT).mono ?_
  rintro en v2 ⟨a2, n2, k2, rfl, hF2, hV2⟩
  rw [oS, oX, oE]
  rw [oN] at hF2
  replace hV := more (next (Below.refl v2.heap.size v2) (Below.refl _ v2)) (.cells #[.bool false, .slice a2 n2 k2, .int .i64 (-1)] 37)
  replace A := (A.stay hV2).stay hV
  have X := box3_new v2 (.bool false) (.slice a2 n2 k2) (.int .i64 (-1)) 37
  obtain rfl : 1 = n2 := hF2.sl.len
  obtain ⟨g, o, rfl, _, hc⟩ := hF2.sl.at_ (by decide)
  have hc0 := cellStay (hc 0 (by decide)) hV
  have hc1 : (v2.alloc (.cells #[.bool false, .slice (some ⟨g, o, none⟩) 1 k2, .int .i64 (-1)] 37)).cell? ⟨g, o, none⟩ = some (.int .u32 3) := hc0
  have hle := hF2.sl.le
  have hcap := hF2.sl.cap
  replace hW := next (next hW hV2) hV
  replace hT := (hT.below hV2).below hV
  have X0 := X.c0
  have X1 := X.c1
  have X2 := X.c2
  have A0 := A.c0
  have A1 := A.c1
  clear hc hc0 hF2 hV hV2
  go_wp2_with fail
  generalize v2.heap.size = p2 at X X0 X1 X2 ⊢
  generalize v2.alloc (.cells #[.bool false, .slice (some ⟨g, o, none⟩) 1 k2, .int .i64 (-1)] 37) = w2 at A A0 A1 X X0 X1 X2 hc1 hW hT ⊢
  clear X X0 X1 X2 A0 A1 hc1
  refine (topFinite_any e f a _ ha).mono ?_
  rintro en w3 ⟨rfl, hV3⟩
  replace A := A.stay hV3
  replace hW := next hW hV3
  have A0 := A.c0
  have A1 := A.c1
  cases hz : valOk e f a
  · go_wp2
    go_ret
    exact ⟨rfl, hW⟩
  · have hz2 : valOk e f b = false := hn.elim (fun h => by rw [hz] at h; cases h) id
    clear hn hz
    go_wp2_with fail
    refine (topFinite_any e f b _ hb).mono ?_
    rintro en w4 ⟨rfl, hV4⟩
    rw [hz2]
    replace hW := next hW hV4
    go_wp2
    go_ret
    exact ⟨rfl, hW⟩

set_option maxRecDepth 100000 in
set_option maxHeartbeats 8000000 in
theorem worth_yes (e f : Int) (a b : Nat) (w : World) (ha : a < 18446744073709551616) (hb : b < 18446744073709551616) (hT : Tab w) (oa : valOk e f a = true) (ob : valOk e f b = true) (D E : Ds) (na nb : Bool) (v : Nat) (c : Int) (hD : WoF e f a b D E na nb v c) :
    Calls Tryd.prog 8 #[.agg #[.int .i64 e, .int .i64 f], .int .u64 a, .int .u64 b] w fun en w' => en = .returned (.bool true) ∧ Below w.heap.size w w' := by
  have cA : ∀ W : World, Calls Tryd.prog 35 #[.agg #[.int .i64 e, .int .i64 f], .int .u64 a] W fun en w' => en = .returned (.bool true) ∧ Below W.heap.size W w' := fun W => by rw [← oa]; exact topFinite_any e f a W ha
  have cB : ∀ W : World, Calls Tryd.prog 35 #[.agg #[.int .i64 e, .int .i64 f], .int .u64 b] W fun en w' => en = .returned (.bool true) ∧ Below W.heap.size W w' := fun W => by rw [← ob]; exact topFinite_any e f b W hb
  have cD : ∀ W : World, Tab W → Calls Tryd.prog 23 #[.agg #[.int .i64 e, .int .i64 f], .int .u64 a] W (Dyn D W) := fun W h => by rw [hD.vD]; exact value_any e f a W ha h
  have cE : ∀ W : World, Tab W → Calls Tryd.prog 23 #[.agg #[.int .i64 e, .int .i64 f], .int .u64 b] W (Dyn E W) := fun W h => by rw [hD.vE]; exact value_any e f b W hb h
  have cV : ∀ (W : World) (ao : Option Addr) (n k : Nat), Sl W ao n k (limbs D.N) → Calls Tryd.prog 30 #[.agg #[.int .i64 e, .int .i64 f], .agg #[.bool D.s, .slice ao n k, .int .i64 D.x]] W fun en w' => en = .returned (.tuple #[.int .u64 v, .bool true, .int .i64 0]) ∧ Below W.heap.size W w' := fun W ao n k h => by
    have := exBits_any e f D.s ao n k D.x _ W h
    rwa [hD.bI, hD.bE, ← hD.bV] at this
  have cC : ∀ (W : World) (a1 a2 : Option Addr) (n1 n2 k1 k2 : Nat), Sl W a1 n1 k1 (limbs D.N) → Sl W a2 n2 k2 (limbs E.N) → Calls Tryd.prog 22 #[.agg #[.bool D.s, .slice a1 n1 k1, .int .i64 D.x], .agg #[.bool E.s, .slice a2 n2 k2, .int .i64 E.x]] W fun en w' => en = .returned (.tuple #[.int .i64 c, .int .i64 0]) ∧ Below W.heap.size W w' := fun W a1 a2 n1 n2 k1 k2 h1 h2 => by
    have := exCmp_any D.s E.s a1 a2 n1 n2 k1 k2 D.x E.x _ _ W h1 h2
    rwa [hD.cF, ← hD.cc] at this
  have no := hD.no
  have np := hD.np
  have eD := hD.eD
  have eE := hD.eE
  have hvv := Lib.hid hD.vv
  have hcc := Lib.hid hD.c0
  clear hD oa ob ha hb
  obtain ⟨oN, oX, oE, oS⟩ := one_half
  go_enter Tryd.func8, Tryd.ntmps8
  go_wp2_with fail
  have A := box2_new w (.int .i64 e) (.int .i64 f) 23
  have hW := more (Below.refl w.heap.size w) (.cells #[.int .i64 e, .int .i64 f] 23)
  replace hT := hT.below hW
  generalize w.alloc (.cells #[.int .i64 e, .int .i64 f] 23) = w0 at A hW hT ⊢
  refine (topDouble_any _).mono ?_
  rintro en w1 ⟨rfl, hV⟩
  replace A := A.stay hV
  replace hW := next hW hV
  replace hT := hT.below hV
  go_wp2_with fail
  refine (value_any 11 52 4609434218613702656 _ (by decide) hT).mono ?_
  rintro en v2 ⟨a2, n2, k2, rfl, hF2, hV2⟩
  rw [oS, oX, oE]
  rw [oN] at hF2
  replace hV := more (next (Below.refl v2.heap.size v2) (Below.refl _ v2)) (.cells #[.bool false, .slice a2 n2 k2, .int .i64 (-1)] 37)
  replace A := (A.stay hV2).stay hV
  have X := box3_new v2 (.bool false) (.slice a2 n2 k2) (.int .i64 (-1)) 37
  obtain rfl : 1 = n2 := hF2.sl.len
  obtain ⟨g, o, rfl, _, hc⟩ := hF2.sl.at_ (by decide)
  have hc0 := cellStay (hc 0 (by decide)) hV
  have hc1 : (v2.alloc (.cells #[.bool false, .slice (some ⟨g, o, none⟩) 1 k2, .int .i64 (-1)] 37)).cell? ⟨g, o, none⟩ = some (.int .u32 3) := hc0
  have hle := hF2.sl.le
  have hcap := hF2.sl.cap
  replace hW := next (next hW hV2) hV
  replace hT := (hT.below hV2).below hV
  have X0 := X.c0
  have X1 := X.c1
  have X2 := X.c2
  have A0 := A.c0
  have A1 := A.c1
  clear hc hc0 hF2 hV hV2
  go_wp2_with fail
  generalize v2.heap.size = p2 at X X0 X1 X2 ⊢
  generalize v2.alloc (.cells #[.bool false, .slice (some ⟨g, o, none⟩) 1 k2, .int .i64 (-1)] 37) = w2 at A A0 A1 X X0 X1 X2 hc1 hW hT ⊢
  clear X X0 X1 X2 A0 A1 hc1
  clear oN oX oE oS hle hcap
  refine (cA _).mono ?_
  rintro en w3 ⟨rfl, hV3⟩
  replace A := A.stay hV3
  replace hW := next hW hV3
  replace hT := hT.below hV3
  have A0 := A.c0
  have A1 := A.c1
  go_wp2_with fail
  refine (cB _).mono ?_
  rintro en w4 ⟨rfl, hV4⟩
  replace A := A.stay hV4
  replace hW := next hW hV4
  replace hT := hT.below hV4
  replace A0 := A.c0
  replace A1 := A.c1
  go_wp2_with fail
  refine (cD _ hT).mono ?_
  rintro en v5 ⟨a5, n5, k5, rfl, hF5, hV5⟩
  replace hV3 := more (Below.refl v5.heap.size v5) (.cells #[.bool D.s, .slice a5 n5 k5, .int .i64 D.x] 37)
  replace A := (A.stay hV5).stay hV3
  replace hW := next (next hW hV5) hV3
  replace hT := (hT.below hV5).below hV3
  have X := box3_new v5 (.bool D.s) (.slice a5 n5 k5) (.int .i64 D.x) 37
  have fX := hF5.sl.below hV3
  replace A0 := A.c0
  replace A1 := A.c1
  go_wp2_with fail
  generalize v5.heap.size = p5 at X ⊢
  generalize v5.alloc (.cells #[.bool D.s, .slice a5 n5 k5, .int .i64 D.x] 37) = w5 at A A0 A1 X fX hW hT ⊢
  refine (cE _ hT).mono ?_
  rintro en v6 ⟨a6, n6, k6, rfl, hF6, hV6⟩
  have hV7 := more (Below.refl v6.heap.size v6) (.cells #[.bool E.s, .slice a6 n6 k6, .int .i64 E.x] 37)
  replace A := (A.stay hV6).stay hV7
  replace X := (X.stay hV6).stay hV7
  replace fX := (fX.below hV6).below hV7
  replace hW := next (next hW hV6) hV7
  have Y := box3_new v6 (.bool E.s) (.slice a6 n6 k6) (.int .i64 E.x) 37
  have fY := hF6.sl.below hV7
  replace A0 := A.c0
  replace A1 := A.c1
  have X0 := X.c0
  have X1 := X.c1
  have X2 := X.c2
  go_wp2_with fail
  generalize v6.heap.size = p6 at Y ⊢
  generalize v6.alloc (.cells #[.bool E.s, .slice a6 n6 k6, .int .i64 E.x] 37) = w6 at A A0 A1 X fX Y fY hW hT ⊢
  refine (cV _ _ _ _ fX).mono ?_
  rintro en w7 ⟨rfl, hV8⟩
  replace A := A.stay hV8
  replace X := X.stay hV8
  replace Y := Y.stay hV8
  replace fX := fX.below hV8
  replace fY := fY.below hV8
  replace hW := next hW hV8
  replace A0 := A.c0
  replace A1 := A.c1
  replace X0 := X.c0
  replace X1 := X.c1
  replace X2 := X.c2
  have Y0 := Y.c0
  have Y1 := Y.c1
  have Y2 := Y.c2
  clear hF5 hF6 hV3 hV4 hV5 hV6 hV7 hV8 cA cB cD cE cV hT eD eE
  by_cases hab : a = b
  · have hc0 := hcc.out.2 (.inl hab)
    subst hab
    subst hc0
    cases na
    · have hv := hvv.out
      rw [if_neg (by decide)] at hv
      subst hv
      clear hvv hcc
      go_wp2_with (first
        | (go_at_call 36; (with_reducible refine (no _).mono ?_); rintro en wN ⟨rfl, hbN⟩; replace A := A.stay hbN; replace X := X.stay hbN; replace Y := Y.stay hbN; replace fX := fX.below hbN; replace fY := fY.below hbN; replace hW := next hW hbN; replace A0 := A.c0; replace A1 := A.c1; replace X0 := X.c0; replace X1 := X.c1; replace X2 := X.c2; replace Y0 := Y.c0; replace Y1 := Y.c1; replace Y2 := Y.c2)
        | (go_at_call 36; (with_reducible refine (np _).mono ?_); rintro en wN ⟨rfl, hbN⟩; replace A := A.stay hbN; replace X := X.stay hbN; replace Y := Y.stay hbN; replace fX := fX.below hbN; replace fY := fY.below hbN; replace hW := next hW hbN; replace A0 := A.c0; replace A1 := A.c1; replace X0 := X.c0; replace X1 := X.c1; replace X2 := X.c2; replace Y0 := Y.c0; replace Y1 := Y.c1; replace Y2 := Y.c2)
        | (go_at_call 22; (with_reducible refine (cC _ _ _ _ _ _ _ fX fY).mono ?_); rintro en wN ⟨rfl, hbN⟩; replace A := A.stay hbN; replace X := X.stay hbN; replace Y := Y.stay hbN; replace fX := fX.below hbN; replace fY := fY.below hbN; replace hW := next hW hbN; replace A0 := A.c0; replace A1 := A.c1; replace X0 := X.c0; replace X1 := X.c1; replace X2 := X.c2; replace Y0 := Y.c0; replace Y1 := Y.c1; replace Y2 := Y.c2))
      go_ret
      exact ⟨rfl, hW⟩
    · have hv := hvv.out
      rw [if_pos rfl] at hv
      subst hv
      by_cases ha0 : a = 0
      · subst ha0
        clear hvv hcc
        go_wp2_with (first
          | (go_at_call 36; (with_reducible refine (no _).mono ?_); rintro en wN ⟨rfl, hbN⟩; replace A := A.stay hbN; replace X := X.stay hbN; replace Y := Y.stay hbN; replace fX := fX.below hbN; replace fY := fY.below hbN; replace hW := next hW hbN; replace A0 := A.c0; replace A1 := A.c1; replace X0 := X.c0; replace X1 := X.c1; replace X2 := X.c2; replace Y0 := Y.c0; replace Y1 := Y.c1; replace Y2 := Y.c2)
          | (go_at_call 36; (with_reducible refine (np _).mono ?_); rintro en wN ⟨rfl, hbN⟩; replace A := A.stay hbN; replace X := X.stay hbN; replace Y := Y.stay hbN; replace fX := fX.below hbN; replace fY := fY.below hbN; replace hW := next hW hbN; replace A0 := A.c0; replace A1 := A.c1; replace X0 := X.c0; replace X1 := X.c1; replace X2 := X.c2; replace Y0 := Y.c0; replace Y1 := Y.c1; replace Y2 := Y.c2)
          | (go_at_call 22; (with_reducible refine (cC _ _ _ _ _ _ _ fX fY).mono ?_); rintro en wN ⟨rfl, hbN⟩; replace A := A.stay hbN; replace X := X.stay hbN; replace Y := Y.stay hbN; replace fX := fX.below hbN; replace fY := fY.below hbN; replace hW := next hW hbN; replace A0 := A.c0; replace A1 := A.c1; replace X0 := X.c0; replace X1 := X.c1; replace X2 := X.c2; replace Y0 := Y.c0; replace Y1 := Y.c1; replace Y2 := Y.c2))
        go_ret
        exact ⟨rfl, hW⟩
      · have ha1 : ((a : Int) == 0) = false := by simp [ha0]
        have ha2 : ((0 : Int) == (a : Int)) = false := by simp; omega
        clear hvv hcc
        go_wp2_with (first
          | (go_at_call 36; (with_reducible refine (no _).mono ?_); rintro en wN ⟨rfl, hbN⟩; replace A := A.stay hbN; replace X := X.stay hbN; replace Y := Y.stay hbN; replace fX := fX.below hbN; replace fY := fY.below hbN; replace hW := next hW hbN; replace A0 := A.c0; replace A1 := A.c1; replace X0 := X.c0; replace X1 := X.c1; replace X2 := X.c2; replace Y0 := Y.c0; replace Y1 := Y.c1; replace Y2 := Y.c2)
          | (go_at_call 36; (with_reducible refine (np _).mono ?_); rintro en wN ⟨rfl, hbN⟩; replace A := A.stay hbN; replace X := X.stay hbN; replace Y := Y.stay hbN; replace fX := fX.below hbN; replace fY := fY.below hbN; replace hW := next hW hbN; replace A0 := A.c0; replace A1 := A.c1; replace X0 := X.c0; replace X1 := X.c1; replace X2 := X.c2; replace Y0 := Y.c0; replace Y1 := Y.c1; replace Y2 := Y.c2)
          | (go_at_call 22; (with_reducible refine (cC _ _ _ _ _ _ _ fX fY).mono ?_); rintro en wN ⟨rfl, hbN⟩; replace A := A.stay hbN; replace X := X.stay hbN; replace Y := Y.stay hbN; replace fX := fX.below hbN; replace fY := fY.below hbN; replace hW := next hW hbN; replace A0 := A.c0; replace A1 := A.c1; replace X0 := X.c0; replace X1 := X.c1; replace X2 := X.c2; replace Y0 := Y.c0; replace Y1 := Y.c1; replace Y2 := Y.c2))
        go_ret
        exact ⟨rfl, hW⟩
  · have hab1 : ((a : Int) == (b : Int)) = false := by simp; omega
    cases na
    · have hc0 : ¬ c = 0 := fun h => (hcc.out.1 h).elim hab (fun h => by cases h.1)
      have hc1 : (c == 0) = false := by simp [hc0]
      have hv := hvv.out
      rw [if_neg (by decide)] at hv
      subst hv
      clear hvv hcc
      go_wp2_with (first
        | (go_at_call 36; (with_reducible refine (no _).mono ?_); rintro en wN ⟨rfl, hbN⟩; replace A := A.stay hbN; replace X := X.stay hbN; replace Y := Y.stay hbN; replace fX := fX.below hbN; replace fY := fY.below hbN; replace hW := next hW hbN; replace A0 := A.c0; replace A1 := A.c1; replace X0 := X.c0; replace X1 := X.c1; replace X2 := X.c2; replace Y0 := Y.c0; replace Y1 := Y.c1; replace Y2 := Y.c2)
        | (go_at_call 36; (with_reducible refine (np _).mono ?_); rintro en wN ⟨rfl, hbN⟩; replace A := A.stay hbN; replace X := X.stay hbN; replace Y := Y.stay hbN; replace fX := fX.below hbN; replace fY := fY.below hbN; replace hW := next hW hbN; replace A0 := A.c0; replace A1 := A.c1; replace X0 := X.c0; replace X1 := X.c1; replace X2 := X.c2; replace Y0 := Y.c0; replace Y1 := Y.c1; replace Y2 := Y.c2)
        | (go_at_call 22; (with_reducible refine (cC _ _ _ _ _ _ _ fX fY).mono ?_); rintro en wN ⟨rfl, hbN⟩; replace A := A.stay hbN; replace X := X.stay hbN; replace Y := Y.stay hbN; replace fX := fX.below hbN; replace fY := fY.below hbN; replace hW := next hW hbN; replace A0 := A.c0; replace A1 := A.c1; replace X0 := X.c0; replace X1 := X.c1; replace X2 := X.c2; replace Y0 := Y.c0; replace Y1 := Y.c1; replace Y2 := Y.c2))
      go_ret
      exact ⟨rfl, hW⟩
    · cases nb
      · have hc0 : ¬ c = 0 := fun h => (hcc.out.1 h).elim hab (fun h => by cases h.2)
        have hc1 : (c == 0) = false := by simp [hc0]
        have hv := hvv.out
        rw [if_pos rfl] at hv
        subst hv
        by_cases ha0 : a = 0
        · subst ha0
          replace no : ∀ W : World, Calls Tryd.prog 36 #[.agg #[.int .i64 e, .int .i64 f], .int .u64 0] W fun en w' => en = .returned (.bool true) ∧ Below W.heap.size W w' := no
          have hab2 : ((0 : Int) == (b : Int)) = false := by simp; omega
          clear hvv hcc
          go_wp2_with (first
            | (go_at_call 36; (with_reducible refine (no _).mono ?_); rintro en wN ⟨rfl, hbN⟩; replace A := A.stay hbN; replace X := X.stay hbN; replace Y := Y.stay hbN; replace fX := fX.below hbN; replace fY := fY.below hbN; replace hW := next hW hbN; replace A0 := A.c0; replace A1 := A.c1; replace X0 := X.c0; replace X1 := X.c1; replace X2 := X.c2; replace Y0 := Y.c0; replace Y1 := Y.c1; replace Y2 := Y.c2)
            | (go_at_call 36; (with_reducible refine (np _).mono ?_); rintro en wN ⟨rfl, hbN⟩; replace A := A.stay hbN; replace X := X.stay hbN; replace Y := Y.stay hbN; replace fX := fX.below hbN; replace fY := fY.below hbN; replace hW := next hW hbN; replace A0 := A.c0; replace A1 := A.c1; replace X0 := X.c0; replace X1 := X.c1; replace X2 := X.c2; replace Y0 := Y.c0; replace Y1 := Y.c1; replace Y2 := Y.c2)
            | (go_at_call 22; (with_reducible refine (cC _ _ _ _ _ _ _ fX fY).mono ?_); rintro en wN ⟨rfl, hbN⟩; replace A := A.stay hbN; replace X := X.stay hbN; replace Y := Y.stay hbN; replace fX := fX.below hbN; replace fY := fY.below hbN; replace hW := next hW hbN; replace A0 := A.c0; replace A1 := A.c1; replace X0 := X.c0; replace X1 := X.c1; replace X2 := X.c2; replace Y0 := Y.c0; replace Y1 := Y.c1; replace Y2 := Y.c2))
          go_ret
          exact ⟨rfl, hW⟩
        · have ha1 : ((a : Int) == 0) = false := by simp [ha0]
          have ha2 : ((0 : Int) == (a : Int)) = false := by simp; omega
          clear hvv hcc
          go_wp2_with (first
            | (go_at_call 36; (with_reducible refine (no _).mono ?_); rintro en wN ⟨rfl, hbN⟩; replace A := A.stay hbN; replace X := X.stay hbN; replace Y := Y.stay hbN; replace fX := fX.below hbN; replace fY := fY.below hbN; replace hW := next hW hbN; replace A0 := A.c0; replace A1 := A.c1; replace X0 := X.c0; replace X1 := X.c1; replace X2 := X.c2; replace Y0 := Y.c0; replace Y1 := Y.c1; replace Y2 := Y.c2)
            | (go_at_call 36; (with_reducible refine (np _).mono ?_); rintro en wN ⟨rfl, hbN⟩; replace A := A.stay hbN; replace X := X.stay hbN; replace Y := Y.stay hbN; replace fX := fX.below hbN; replace fY := fY.below hbN; replace hW := next hW hbN; replace A0 := A.c0; replace A1 := A.c1; replace X0 := X.c0; replace X1 := X.c1; replace X2 := X.c2; replace Y0 := Y.c0; replace Y1 := Y.c1; replace Y2 := Y.c2)
            | (go_at_call 22; (with_reducible refine (cC _ _ _ _ _ _ _ fX fY).mono ?_); rintro en wN ⟨rfl, hbN⟩; replace A := A.stay hbN; replace X := X.stay hbN; replace Y := Y.stay hbN; replace fX := fX.below hbN; replace fY := fY.below hbN; replace hW := next hW hbN; replace A0 := A.c0; replace A1 := A.c1; replace X0 := X.c0; replace X1 := X.c1; replace X2 := X.c2; replace Y0 := Y.c0; replace Y1 := Y.c1; replace Y2 := Y.c2))
          go_ret
          exact ⟨rfl, hW⟩
      · have hc0 := hcc.out.2 (.inr ⟨rfl, rfl⟩)
        subst hc0
        have hv := hvv.out
        rw [if_pos rfl] at hv
        subst hv
        by_cases ha0 : a = 0
        · subst ha0
          replace no : ∀ W : World, Calls Tryd.prog 36 #[.agg #[.int .i64 e, .int .i64 f], .int .u64 0] W fun en w' => en = .returned (.bool true) ∧ Below W.heap.size W w' := no
          have hab2 : ((0 : Int) == (b : Int)) = false := by simp; omega
          clear hvv hcc
          go_wp2_with (first
            | (go_at_call 36; (with_reducible refine (no _).mono ?_); rintro en wN ⟨rfl, hbN⟩; replace A := A.stay hbN; replace X := X.stay hbN; replace Y := Y.stay hbN; replace fX := fX.below hbN; replace fY := fY.below hbN; replace hW := next hW hbN; replace A0 := A.c0; replace A1 := A.c1; replace X0 := X.c0; replace X1 := X.c1; replace X2 := X.c2; replace Y0 := Y.c0; replace Y1 := Y.c1; replace Y2 := Y.c2)
            | (go_at_call 36; (with_reducible refine (np _).mono ?_); rintro en wN ⟨rfl, hbN⟩; replace A := A.stay hbN; replace X := X.stay hbN; replace Y := Y.stay hbN; replace fX := fX.below hbN; replace fY := fY.below hbN; replace hW := next hW hbN; replace A0 := A.c0; replace A1 := A.c1; replace X0 := X.c0; replace X1 := X.c1; replace X2 := X.c2; replace Y0 := Y.c0; replace Y1 := Y.c1; replace Y2 := Y.c2)
            | (go_at_call 22; (with_reducible refine (cC _ _ _ _ _ _ _ fX fY).mono ?_); rintro en wN ⟨rfl, hbN⟩; replace A := A.stay hbN; replace X := X.stay hbN; replace Y := Y.stay hbN; replace fX := fX.below hbN; replace fY := fY.below hbN; replace hW := next hW hbN; replace A0 := A.c0; replace A1 := A.c1; replace X0 := X.c0; replace X1 := X.c1; replace X2 := X.c2; replace Y0 := Y.c0; replace Y1 := Y.c1; replace Y2 := Y.c2))
          go_ret
          exact ⟨rfl, hW⟩
        · have ha1 : ((a : Int) == 0) = false := by simp [ha0]
          have ha2 : ((0 : Int) == (a : Int)) = false := by simp; omega
          clear hvv hcc
          go_wp2_with (first
            | (go_at_call 36; (with_reducible refine (no _).mono ?_); rintro en wN ⟨rfl, hbN⟩; replace A := A.stay hbN; replace X := X.stay hbN; replace Y := Y.stay hbN; replace fX := fX.below hbN; replace fY := fY.below hbN; replace hW := next hW hbN; replace A0 := A.c0; replace A1 := A.c1; replace X0 := X.c0; replace X1 := X.c1; replace X2 := X.c2; replace Y0 := Y.c0; replace Y1 := Y.c1; replace Y2 := Y.c2)
            | (go_at_call 36; (with_reducible refine (np _).mono ?_); rintro en wN ⟨rfl, hbN⟩; replace A := A.stay hbN; replace X := X.stay hbN; replace Y := Y.stay hbN; replace fX := fX.below hbN; replace fY := fY.below hbN; replace hW := next hW hbN; replace A0 := A.c0; replace A1 := A.c1; replace X0 := X.c0; replace X1 := X.c1; replace X2 := X.c2; replace Y0 := Y.c0; replace Y1 := Y.c1; replace Y2 := Y.c2)
            | (go_at_call 22; (with_reducible refine (cC _ _ _ _ _ _ _ fX fY).mono ?_); rintro en wN ⟨rfl, hbN⟩; replace A := A.stay hbN; replace X := X.stay hbN; replace Y := Y.stay hbN; replace fX := fX.below hbN; replace fY := fY.below hbN; replace hW := next hW hbN; replace A0 := A.c0; replace A1 := A.c1; replace X0 := X.c0; replace X1 := X.c1; replace X2 := X.c2; replace Y0 := Y.c0; replace Y1 := Y.c1; replace Y2 := Y.c2))
          go_ret
          exact ⟨rfl, hW⟩

theorem worth_any (e f : Int) (a b : Nat) (w : World) (ha : a < 18446744073709551616) (hb : b < 18446744073709551616) (hT : Tab w) :
    Calls Tryd.prog 8 #[.agg #[.int .i64 e, .int .i64 f], .int .u64 a, .int .u64 b] w fun en w' => en = .returned (.bool true) ∧ Below w.heap.size w w' := by
  cases h1 : valOk e f a
  · exact worth_no e f a b w ha hb hT (.inl h1)
  · cases h2 : valOk e f b
    · exact worth_no e f a b w ha hb hT (.inr h2)
    · obtain ⟨D, E, na, nb, v, c, h⟩ := woF_of h1 h2
      exact worth_yes e f a b w ha hb hT h1 h2 D E na nb v c h

end Go.Proofs.YtmiheaoojmgalaaDoor
