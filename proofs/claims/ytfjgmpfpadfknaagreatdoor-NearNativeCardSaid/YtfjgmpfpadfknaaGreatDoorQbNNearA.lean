/-
  The walks of near: sign, place, below, at, number, finite.
-/
import Derived.Test.YtfjgmpfpadfknaaGreatDoorQbNMN28
import Derived.Test.YtfjgmpfpadfknaaGreatDoorQbNTop03
set_option maxHeartbeats 2000000
set_option maxRecDepth 100000
namespace Go.Proofs.YtfjgmpfpadfknaaGreatDoor
open Go.RowKit Go.Lb
theorem nearSign_any (e f : Nat) (w : World) (h : formE (e : Int) (f : Int) = 0) :
 Calls Tryz.prog 49 #[.agg #[.int .i64 (e : Int), .int .i64 (f : Int)]] w fun en w' => en = .returned (.int .u64 (pw (e + f) : Int)) ∧ Below w.heap.size w w' := by
 obtain ⟨q1, q2, q3, q4⟩ := formE_ok h
 have hw := pw_top (k := e + f) (by omega)
 have ht : ((e : Int) + (f : Int)).toNat = e + f := by omega
 have hm : min (e + f) 64 = e + f := by omega
 have hn : ¬ ((e : Int) + (f : Int) < 0) := by omega
 generalize pw (e + f) = P at hw ⊢
 go_enter Tryz.func49, Tryz.ntmps49
 go_wp2
 refine bodyPost_ret (v := .int .u64 (P : Int)) (by simp [results, Tryz.results49, go_sem]) rfl ⟨rfl, more (Below.refl _ _) _⟩
theorem top63 {e f : Nat} (h : formE (e : Int) (f : Int) = 0) : e + f ≤ 63 ∧ pw (e + f) ≤ 9223372036854775808 := by
 obtain ⟨q1, q2, q3, q4⟩ := formE_ok h
 have h1 : e + f ≤ 63 := by omega
 exact ⟨h1, pw_sixty h1⟩
theorem nearPlace_any (e f b : Nat) (w : World) (h : formE (e : Int) (f : Int) = 0) (hb : b < pw (1 + e + f)) :
 Calls Tryz.prog 77 #[.agg #[.int .i64 (e : Int), .int .i64 (f : Int)], .int .u64 (b : Int)] w fun en w' => en = .returned (.int .u64 (plN e f b : Int)) ∧ Below w.heap.size w w' := by
 obtain ⟨hk, hp⟩ := top63 h
 have hand := u64_andNot_top hk (b := b) (by rw [← pw_one_more]; exact hb)
 have heq := mg_eq hb
 have hlt := mg_lt e f b
 have cS := fun W => nearSign_any e f W h
 have hpos := pw_pos (e + f)
 cases hs : sgB e f b
 · rw [pl_pos hs]
   rw [hs, if_neg (by decide), Nat.add_zero] at heq
   rw [show b % pw (e + f) = b from heq.symm] at hand
   clear heq hlt hs
   generalize pw (e + f) = P at *
   go_enter Tryz.func77, Tryz.ntmps77
   go_wp2_with (go_at_call 49; refine (cS _).mono ?_; rintro en w1 ⟨rfl, hb1⟩)
   refine bodyPost_ret (v := .int .u64 (b : Int)) (by simp [results, Tryz.results77, go_sem]) rfl ⟨rfl, next (more (Below.refl _ _) _) hb1⟩
 · rw [pl_neg hs]
   rw [hs, if_pos rfl] at heq
   rw [show b % pw (e + f) = mgN e f b from rfl] at hand
   generalize mgN e f b = M at *
   clear hs
   have hne : ((M : Int) != (b : Int)) = true := by simp; omega
   have hne' : ¬ ((M : Int) = (b : Int)) := by omega
   have h1 : IntKind.i64.wrap (M : Int) = (M : Int) := by rw [IntKind.wrap_i64]; omega
   have h2 : IntKind.i64.wrap (-(M : Int)) = -(M : Int) := by rw [IntKind.wrap_i64]; omega
   have h3 : IntKind.u64.wrap (-(M : Int)) = (((18446744073709551616 - M) % 18446744073709551616 : Nat) : Int) := by rw [IntKind.wrap_u64]; omega
   generalize (18446744073709551616 - M) % 18446744073709551616 = R at *
   generalize pw (e + f) = P at *
   clear heq hlt
   go_enter Tryz.func77, Tryz.ntmps77
   go_wp2_with (go_at_call 49; refine (cS _).mono ?_; rintro en w1 ⟨rfl, hb1⟩)
   refine bodyPost_ret (v := .int .u64 (R : Int)) (by simp [results, Tryz.results77, go_sem]) rfl ⟨rfl, next (more (Below.refl _ _) _) hb1⟩
theorem nearBelow_any (p : Nat) (w : World) (hp : p < 18446744073709551616) :
 Calls Tryz.prog 175 #[.int .u64 (p : Int)] w fun en w' => en = .returned (.bool (decide (9223372036854775808 ≤ p))) ∧ w = w' := by
 by_cases h : 9223372036854775808 ≤ p
 · have h1 : IntKind.i64.wrap (p : Int) = (p : Int) - 18446744073709551616 := by rw [IntKind.wrap_i64]; omega
   have h2 : (p : Int) - 18446744073709551616 < 0 := by omega
   rw [decide_eq_true h]
   go_enter Tryz.func175, Tryz.ntmps175
   go_wp2
   go_ret
   exact ⟨rfl, rfl⟩
 · have h1 : IntKind.i64.wrap (p : Int) = (p : Int) := by rw [IntKind.wrap_i64]; omega
   have h2 : ¬ (p : Int) < 0 := by omega
   rw [decide_eq_false h]
   go_enter Tryz.func175, Tryz.ntmps175
   go_wp2
   go_ret
   exact ⟨rfl, rfl⟩
theorem nearAt_any (e f p : Nat) (neg : Bool) (w : World) (h : formE (e : Int) (f : Int) = 0) (hp : p < 18446744073709551616) (hl : 9223372036854775808 ≤ p → 18446744073709551616 - p < pw (e + f)) :
 Calls Tryz.prog 115 #[.agg #[.int .i64 (e : Int), .int .i64 (f : Int)], .int .u64 (p : Int), .bool neg] w fun en w' => en = .returned (.int .u64 (atN e f p neg : Int)) ∧ Below w.heap.size w w' := by
 obtain ⟨hk, hpp⟩ := top63 h
 have cS := fun W => nearSign_any e f W h
 have cB := fun W => nearBelow_any p W hp
 by_cases hb : 9223372036854775808 ≤ p
 · have hA : atN e f p neg = pw (e + f) + (18446744073709551616 - p) := if_pos hb
   have hor := u64_or_top hk (hl hb)
   rw [← hA] at hor
   rw [decide_eq_true hb] at cB
   have h1 : IntKind.i64.wrap (p : Int) = (p : Int) - 18446744073709551616 := by rw [IntKind.wrap_i64]; omega
   have h2 : IntKind.i64.wrap (-((p : Int) - 18446744073709551616)) = ((18446744073709551616 - p : Nat) : Int) ∨ p = 9223372036854775808 := by rw [IntKind.wrap_i64]; omega
   have h2' : p ≠ 9223372036854775808 := by have := hl hb; omega
   replace h2 := h2.resolve_right h2'
   have h3 : IntKind.u64.wrap ((18446744073709551616 - p : Nat) : Int) = ((18446744073709551616 - p : Nat) : Int) := by rw [IntKind.wrap_u64]; omega
   generalize (18446744073709551616 - p) = R at *
   generalize atN e f p neg = A at *
   generalize pw (e + f) = P at *
   clear hA hl
   go_enter Tryz.func115, Tryz.ntmps115
   go_wp2_with (first
    | (go_at_call 175; refine (cB _).mono ?_; rintro en w1 ⟨rfl, rfl⟩)
    | (go_at_call 49; refine (cS _).mono ?_; rintro en w1 ⟨rfl, hb1⟩))
   refine bodyPost_ret (v := .int .u64 (A : Int)) (by simp [results, Tryz.results115, go_sem]) rfl ⟨rfl, next (more (Below.refl _ _) _) hb1⟩
 · rw [decide_eq_false hb] at cB
   have hA : atN e f p neg = if p = 0 ∧ neg = true then pw (e + f) else p := if_neg hb
   rw [hA]
   clear hl hA
   by_cases h0 : p = 0
   · subst h0
     cases neg
     · rw [if_neg (by simp)]
       go_enter Tryz.func115, Tryz.ntmps115
       go_wp2_with (go_at_call 175; refine (cB _).mono ?_; rintro en w1 ⟨rfl, rfl⟩)
       refine bodyPost_ret (v := .int .u64 0) (by simp [results, Tryz.results115, go_sem]) rfl ⟨rfl, more (Below.refl _ _) _⟩
     · rw [if_pos (by simp)]
       generalize pw (e + f) = P at *
       go_enter Tryz.func115, Tryz.ntmps115
       go_wp2_with (first
        | (go_at_call 175; refine (cB _).mono ?_; rintro en w1 ⟨rfl, rfl⟩)
        | (go_at_call 49; refine (cS _).mono ?_; rintro en w1 ⟨rfl, hb1⟩))
       refine bodyPost_ret (v := .int .u64 (P : Int)) (by simp [results, Tryz.results115, go_sem]) rfl ⟨rfl, next (more (Below.refl _ _) _) hb1⟩
   · rw [if_neg (fun hh => h0 hh.1)]
     have h0' : ¬ ((p : Int) = 0) := by omega
     go_enter Tryz.func115, Tryz.ntmps115
     go_wp2_with (go_at_call 175; refine (cB _).mono ?_; rintro en w1 ⟨rfl, rfl⟩)
     refine bodyPost_ret (v := .int .u64 (p : Int)) (by simp [results, Tryz.results115, go_sem]) rfl ⟨rfl, more (Below.refl _ _) _⟩
theorem class_nan {e f b : Nat} (he : 2 ≤ e) : ((classN e (exN e f b) (frN f b) : Int) == 5) = nanB e f b := by
 have h1 : maskN e ≠ 0 := by
  unfold maskN
  have : 2 ^ 2 ≤ 2 ^ e := Nat.pow_le_pow_right (by decide) he
  omega
 unfold classN nanB
 by_cases h0 : exN e f b = 0
 · rw [if_pos h0, decide_eq_false (fun hh => h1 (hh.1.symm.trans h0))]
   split <;> rfl
 · rw [if_neg h0]
   by_cases hm : exN e f b = maskN e
   · rw [if_pos hm]
     by_cases hf : frN f b = 0
     · rw [if_pos hf, decide_eq_false (fun hh => hh.2 hf)]; rfl
     · rw [if_neg hf, decide_eq_true ⟨hm, hf⟩]; rfl
   · rw [if_neg hm, decide_eq_false (fun hh => hm hh.1)]; rfl
theorem class_i (e f : Int) (b : Nat) (w : World) (h : fitsE e f b = 0) (hb : b < 18446744073709551616) :
 Calls Tryz.prog 23 #[.agg #[.int .i64 e, .int .i64 f], .int .u64 (b : Int)] w fun en w' => en = .returned (.tuple #[.int .u8 (classN e.toNat (exN e.toNat f.toNat b) (frN f.toNat b) : Int), .int .i64 0]) ∧ Below w.heap.size w w' := by
 obtain ⟨h1, hp⟩ := fitsE_parts h
 obtain ⟨q1, q2, q3, q4⟩ := formE_ok h1
 obtain ⟨e, rfl⟩ := Int.eq_ofNat_of_zero_le (by omega : 0 ≤ e)
 obtain ⟨f, rfl⟩ := Int.eq_ofNat_of_zero_le (by omega : 0 ≤ f)
 exact class_any e f b w h1 hb hp
def anN (e f : Nat) (l : List Nat) : Bool := l.any (nanB e f)
def anI (e f : Nat) (l : List Nat) : Bool := l.any fun b => decide (exN e f b = maskN e)
theorem nearNumber_any (pl : Nat) (e f : Int) (l : List Nat) (w : World) (h0 : 0 < l.length) (hl : l.length ≤ 1000) (hv : ∀ j, (h : j < l.length) → l[j] < 18446744073709551616 ∧ w.cell? ⟨pl, j, none⟩ = some (.int .u64 (l[j] : Nat))) :
 Calls Tryz.prog 47 #[.agg #[.int .i64 e, .int .i64 f], .slice (some ⟨pl, 0, none⟩) l.length l.length] w fun en w' => en = .returned (.tuple #[.int .i64 (askL e f l), .bool (decide (askL e f l = 0) && !anN e.toNat f.toNat l)]) ∧ Below w.heap.size w w' := by
 go_enter Tryz.func47, Tryz.ntmps47
 go_wp2
 have A0 := box2_new w (.int .i64 e) (.int .i64 f) 23
 have hW0 := more (Below.refl w.heap.size w) (.cells #[.int .i64 e, .int .i64 f] 23)
 generalize w.alloc (.cells #[.int .i64 e, .int .i64 f] 23) = w0 at A0 hW0 ⊢
 go_loopw [4, 5, 15] (fun r s i wr => ∃ k : Nat, k ≤ l.length ∧ i = .int .i64 k ∧ r = .int .i64 0 ∧ s = .bool false ∧ Hid (∀ j, (h1 : j < k) → (h2 : j < l.length) → fitsE e f l[j] = 0) ∧ Below w0.heap.size w0 wr) (fun _ _ i _ => l.length - (intOf i).toNat)
 case atStart => exact ⟨0, by omega, rfl, rfl, rfl, Lib.hid (fun j h1 h2 => absurd h1 (by omega)), Below.refl _ _⟩
 case round =>
  obtain ⟨k, hk, rfl, rfl, rfl, hh, hbr⟩ := hrel
  have hW := next hW0 hbr
  have A := A0.stay hbr
  have ⟨a0, a1⟩ := A
  by_cases hkl : k < l.length
  · obtain ⟨v1, v2⟩ := hv k hkl
    have d0 := cellStay v2 hW
    have hat := @askL_at e f l k hkl (fun j h => hh.out j h (by omega))
    have cM := fun W => fits_any e f l[k] W v1
    by_cases hE : fitsE e f l[k] = 0
    · have hh' : Hid (∀ j, (h1 : j < k + 1) → (h2 : j < l.length) → fitsE e f l[j] = 0) := Lib.hid fun j h1 h2 => by
       rcases (by omega : j < k ∨ j = k) with h | rfl
       · exact hh.out j h h2
       · exact hE
      rw [hE] at cM
      clear hat hh hE
      go_wp2_with (go_at_call 88; refine (cM _).mono ?_; rintro en w1 ⟨rfl, hb1⟩; have hn1 := next hbr hb1)
      exact ⟨⟨k + 1, by omega, rfl, rfl, rfl, hh', hn1⟩, by simp [intOf]; omega⟩
    · have hm : askL e f l = fitsE e f l[k] := hat hE
      have hB : (fitsE e f l[k] != 0) = true := by simp [hE]
      have HM := Lib.hid hm
      clear hat hh hm
      generalize fitsE e f l[k] = E at *
      go_wp2_with (go_at_call 88; refine (cM _).mono ?_; rintro en w1 ⟨rfl, hb1⟩)
      refine bodyPost_ret (v := .tuple #[.int .i64 E, .bool false]) (by simp [results, Tryz.results47, go_sem]) rfl ⟨by rw [HM.out, decide_eq_false hE]; rfl, next hW hb1⟩
  · have hfit : ∀ j, (h : j < l.length) → fitsE e f l[j] = 0 := fun j h => hh.out j (by omega) h
    have hok : askL e f l = 0 := askL_ok hfit
    have HM := Lib.hid hok
    have HF := Lib.hid hfit
    have he2 : 2 ≤ e.toNat := by
     have := formE_ok (fitsE_parts (hfit 0 h0)).1
     omega
    clear hh hok hfit
    go_wp2
    generalize wr = w2 at *
    go_loopw [4, 5, 28] (fun r s i wr => ∃ k : Nat, k ≤ l.length ∧ i = .int .i64 k ∧ r = .int .i64 0 ∧ s = .bool false ∧ Hid (∀ j, (h1 : j < k) → (h2 : j < l.length) → nanB e.toNat f.toNat l[j] = false) ∧ Below w0.heap.size w0 wr) (fun _ _ i _ => l.length - (intOf i).toNat)
    case atStart => exact ⟨0, by omega, rfl, rfl, rfl, Lib.hid (fun j h1 h2 => absurd h1 (by omega)), hbr⟩
    case round =>
     obtain ⟨n, hn, rfl, rfl, rfl, hg, hbs⟩ := hrel
     have hX := next hW0 hbs
     have A' := A0.stay hbs
     have ⟨a0', a1'⟩ := A'
     by_cases hnl : n < l.length
     · obtain ⟨v1, v2⟩ := hv n hnl
       have d0 := cellStay v2 hX
       have cC := fun W => class_i e f l[n] W (HF.out n hnl) v1
       have hc5 := class_nan (f := f.toNat) (b := l[n]) he2
       cases hN : nanB e.toNat f.toNat l[n]
       · have hg' : Hid (∀ j, (h1 : j < n + 1) → (h2 : j < l.length) → nanB e.toNat f.toNat l[j] = false) := Lib.hid fun j h1 h2 => by
          rcases (by omega : j < n ∨ j = n) with h | rfl
          · exact hg.out j h h2
          · exact hN
         rw [hN] at hc5
         clear hg hN
         generalize classN e.toNat (exN e.toNat f.toNat l[n]) (frN f.toNat l[n]) = cc at *
         go_wp2_with (go_at_call 23; refine (cC _).mono ?_; rintro en w1 ⟨rfl, hb1⟩; have hn1 := next hbs hb1)
         exact ⟨⟨n + 1, by omega, rfl, rfl, rfl, hg', hn1⟩, by simp [intOf]; omega⟩
       · have hany : anN e.toNat f.toNat l = true := List.any_eq_true.2 ⟨l[n], List.getElem_mem hnl, hN⟩
         have HA := Lib.hid hany
         rw [hN] at hc5
         clear hg hN hany
         generalize classN e.toNat (exN e.toNat f.toNat l[n]) (frN f.toNat l[n]) = cc at *
         go_wp2_with (go_at_call 23; refine (cC _).mono ?_; rintro en w1 ⟨rfl, hb1⟩; have hn1 := next hbs hb1)
         refine bodyPost_ret (v := .tuple #[.int .i64 0, .bool false]) (by simp [results, Tryz.results47, go_sem]) rfl ⟨by rw [HM.out, HA.out]; rfl, next hW0 hn1⟩
     · have hany : anN e.toNat f.toNat l = false := by
        unfold anN
        rw [List.any_eq_false]
        intro x hx
        obtain ⟨j, hj, rfl⟩ := List.getElem_of_mem hx
        rw [hg.out j (by omega) hj]
        decide
       have HA := Lib.hid hany
       clear hg hany
       go_wp2
       refine bodyPost_ret (v := .tuple #[.int .i64 0, .bool true]) (by simp [results, Tryz.results47, go_sem]) rfl ⟨by rw [HM.out, HA.out]; rfl, hX⟩
def fnE (e f : Int) (l : List Nat) : Int := if askL e f l ≠ 0 then askL e f l else if anI e.toNat f.toNat l = true then 8 else 0
theorem nearFinite_any (pl : Nat) (e f : Int) (l : List Nat) (w : World) (h0 : 0 < l.length) (hl : l.length ≤ 1000) (hv : ∀ j, (h : j < l.length) → l[j] < 18446744073709551616 ∧ w.cell? ⟨pl, j, none⟩ = some (.int .u64 (l[j] : Nat))) :
 Calls Tryz.prog 48 #[.agg #[.int .i64 e, .int .i64 f], .slice (some ⟨pl, 0, none⟩) l.length l.length] w fun en w' => en = .returned (.int .i64 (fnE e f l)) ∧ Below w.heap.size w w' := by
 have A0 := box2_new w (.int .i64 e) (.int .i64 f) 23
 have hW0 := more (Below.refl w.heap.size w) (.cells #[.int .i64 e, .int .i64 f] 23)
 have cN := fun W hv => nearNumber_any pl e f l W h0 hl hv
 have hfit : askL e f l = 0 → ∀ j, (h : j < l.length) → fitsE e f l[j] = 0 := fun hok j hj => by
  by_cases hE : fitsE e f l[j] = 0
  · exact hE
  · exfalso
    have : ∀ (l : List Nat) (j : Nat) (hj : j < l.length), askL e f l = 0 → fitsE e f l[j] = 0 := by
     intro l
     induction l with
     | nil => intro j hj; simp at hj
     | cons a t ih =>
       intro j hj h
       have h' : (if fitsE e f a ≠ 0 then fitsE e f a else askL e f t) = 0 := h
       by_cases ha : fitsE e f a = 0
       · rw [if_neg (by simp [ha])] at h'
         cases j with
         | zero => exact ha
         | succ j => exact ih j (by simp at hj; omega) h'
       · rw [if_pos ha] at h'
         exact absurd h' ha
    exact hE (this l j hj hok)
 generalize hZ : (decide (askL e f l = 0) && !anN e.toNat f.toNat l) = is at cN
 by_cases hok : askL e f l = 0
 · have hF := hfit hok
   have he2 : 2 ≤ e.toNat := by
    have := formE_ok (fitsE_parts (hF 0 h0)).1
    omega
   have hA : fnE e f l = if anI e.toNat f.toNat l = true then 8 else 0 := if_neg (by simp [hok])
   have HM := Lib.hid hA
   rw [hok] at cN
   have HF := Lib.hid hF
   clear hF hfit hA hok hZ
   go_enter Tryz.func48, Tryz.ntmps48
   go_wp2_with fail
   refine (cN _ (fun j hj => ⟨(hv j hj).1, cellStay (hv j hj).2 hW0⟩)).mono ?_
   rintro en w1 ⟨rfl, hb1⟩
   have hW1 := next hW0 hb1
   have A1 := A0.stay hb1
   have ⟨b0, b1⟩ := A1
   clear A0 hb1 cN hW0
   go_wp2
   go_loopw [4, 22] (fun r i wr => ∃ k : Nat, k ≤ l.length ∧ i = .int .i64 k ∧ r = .int .i64 0 ∧ Hid (∀ j, (h1 : j < k) → (h2 : j < l.length) → exN e.toNat f.toNat l[j] ≠ maskN e.toNat) ∧ Below w1.heap.size w1 wr) (fun _ i _ => l.length - (intOf i).toNat)
   case atStart => exact ⟨0, by omega, rfl, rfl, Lib.hid (fun j h1 h2 => absurd h1 (by omega)), Below.refl _ _⟩
   case round =>
    obtain ⟨n, hn, rfl, rfl, hg, hbs⟩ := hrel
    have hX := next hW1 hbs
    have A' := A1.stay hbs
    have ⟨a0', a1'⟩ := A'
    by_cases hnl : n < l.length
    · obtain ⟨v1, v2⟩ := hv n hnl
      have d0 := cellStay v2 hX
      have cC := fun W => class_i e f l[n] W (HF.out n hnl) v1
      have hc3 := class_fin (x := exN e.toNat f.toNat l[n]) (y := frN f.toNat l[n]) he2
      by_cases hN : exN e.toNat f.toNat l[n] = maskN e.toNat
      · have hany : anI e.toNat f.toNat l = true := List.any_eq_true.2 ⟨l[n], List.getElem_mem hnl, decide_eq_true hN⟩
        have HA := Lib.hid hany
        have hc : ¬ classN e.toNat (exN e.toNat f.toNat l[n]) (frN f.toNat l[n]) ≤ 3 := fun hh => hc3.1 hh hN
        clear hg hN hany hc3
        generalize classN e.toNat (exN e.toNat f.toNat l[n]) (frN f.toNat l[n]) = cc at *
        have hc' : (3 : Int) < (cc : Int) := by omega
        go_wp2_with (go_at_call 23; refine (cC _).mono ?_; rintro en w2 ⟨rfl, hb2⟩; have hn1 := next hbs hb2)
        refine bodyPost_ret (v := .int .i64 8) (by simp [results, Tryz.results48, go_sem]) rfl ⟨by rw [HM.out, HA.out]; rfl, next hW1 hn1⟩
      · have hc := hc3.2 hN
        have hg' : Hid (∀ j, (h1 : j < n + 1) → (h2 : j < l.length) → exN e.toNat f.toNat l[j] ≠ maskN e.toNat) := Lib.hid fun j h1 h2 => by
         rcases (by omega : j < n ∨ j = n) with h | rfl
         · exact hg.out j h h2
         · exact hN
        clear hg hN hc3
        generalize classN e.toNat (exN e.toNat f.toNat l[n]) (frN f.toNat l[n]) = cc at *
        have hc' : ¬ (3 : Int) < (cc : Int) := by omega
        go_wp2_with (go_at_call 23; refine (cC _).mono ?_; rintro en w2 ⟨rfl, hb2⟩; have hn1 := next hbs hb2)
        exact ⟨⟨n + 1, by omega, rfl, rfl, hg', hn1⟩, by simp [intOf]; omega⟩
    · have hany : anI e.toNat f.toNat l = false := by
       unfold anI
       rw [List.any_eq_false]
       intro x hx
       obtain ⟨j, hj, rfl⟩ := List.getElem_of_mem hx
       simp [hg.out j (by omega) hj]
      have HA := Lib.hid hany
      clear hg hany
      go_wp2
      refine bodyPost_ret (v := .int .i64 0) (by simp [results, Tryz.results48, go_sem]) rfl ⟨by rw [HM.out, HA.out]; rfl, hX⟩
 · have hA : fnE e f l = askL e f l := if_pos hok
   rw [hA]
   have hB : (askL e f l != 0) = true := by simp [hok]
   clear hfit hA hZ
   generalize askL e f l = E at *
   go_enter Tryz.func48, Tryz.ntmps48
   go_wp2_with fail
   refine (cN _ (fun j hj => ⟨(hv j hj).1, cellStay (hv j hj).2 hW0⟩)).mono ?_
   rintro en w1 ⟨rfl, hb1⟩
   go_wp2
   refine bodyPost_ret (v := .int .i64 E) (by simp [results, Tryz.results48, go_sem]) rfl ⟨rfl, next hW0 hb1⟩
end Go.Proofs.YtfjgmpfpadfknaaGreatDoor
