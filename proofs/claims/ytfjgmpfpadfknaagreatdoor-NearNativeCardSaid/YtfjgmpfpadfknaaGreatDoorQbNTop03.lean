/-
  The walks of the document's answer of layer 3: Pow, Check, Fits, Split, Top, Class, Finite.
-/
import Derived.Test.YtfjgmpfpadfknaaGreatDoorQbNVals
set_option maxHeartbeats 4000000
set_option maxRecDepth 100000
namespace Go.Proofs.YtfjgmpfpadfknaaGreatDoor
open Go.RowKit Go.Lb
theorem pw_sixty {k : Nat} (h : k ≤ 63) : pw k ≤ 9223372036854775808 := by
 have := pw_le h
 rw [show pw 63 = 9223372036854775808 by unfold pw; rfl] at this
 exact this
theorem pow3_any (k : Nat) (x : Int) (hx : x = (k : Int)) (w : World) (hk : k ≤ 63) :
 Calls Tryz.prog 108 #[.int .i64 x] w fun en w' => en = .returned (.int .u64 (pw k : Int)) ∧ w = w' := by
 subst hx
 go_enter Tryz.func108, Tryz.ntmps108
 go_wp2
 go_loop [3, 4] (fun p i => ∃ j : Nat, j ≤ k ∧ p = .int .u64 (pw j : Int) ∧ i = .int .i64 j) (fun _ i => k - (intOf i).toNat)
 case atStart => exact ⟨0, by omega, by rw [pw_zero]; rfl, rfl⟩
 case round =>
  obtain ⟨j, hj, rfl, rfl⟩ := hrel
  by_cases h : j < k
  · have h1 : IntKind.u64.wrap ((pw j : Int) * 2) = (pw (j + 1) : Int) := by
     rw [IntWalk.u64_in _ (by have := pw_sixty (show j ≤ 62 + 1 by omega); have h2 := pw_le (show j ≤ 62 by omega); rw [show pw 62 = 4611686018427387904 by unfold pw; rfl] at h2; omega), pw_succ]
     omega
    go_wp2
    go_round
    case rel => exact ⟨j + 1, by omega, rfl, by go_num⟩
    case measure => simp [intOf]; omega
  · obtain rfl : k = j := by omega
    go_wp2
    go_ret
    exact ⟨rfl, rfl⟩
theorem pow3_b (k : Nat) (x : Int) (hx : x = (k : Int)) (w : World) (hk : k ≤ 63) :
 Calls Tryz.prog 108 #[.int .i64 x] w fun en w' => en = .returned (.int .u64 (pw k : Int)) ∧ Below w.heap.size w w' := by
 refine (pow3_any k x hx w hk).mono ?_
 rintro en w' ⟨rfl, rfl⟩
 exact ⟨rfl, Below.refl _ _⟩
theorem refCheck3_any (e f : Int) (w : World) :
 Calls Tryz.prog 107 #[.agg #[.int .i64 e, .int .i64 f]] w fun en w' => en = .returned (.int .i64 (formE e f)) ∧ Below w.heap.size w w' := by
 by_cases h1 : e < 2
 · have H := Lib.hid (formE_no (e := e) (f := f) (by omega))
   go_enter Tryz.func107, Tryz.ntmps107
   go_wp2
   go_ret
   exact ⟨by rw [H.out]; rfl, more (Below.refl _ _) _⟩
 · by_cases h2 : 11 < e
   · have H := Lib.hid (formE_no (e := e) (f := f) (by omega))
     go_enter Tryz.func107, Tryz.ntmps107
     go_wp2
     go_ret
     exact ⟨by rw [H.out]; rfl, more (Below.refl _ _) _⟩
   · by_cases h3 : f < 1
     · have H := Lib.hid (formE_no (e := e) (f := f) (by omega))
       go_enter Tryz.func107, Tryz.ntmps107
       go_wp2
       go_ret
       exact ⟨by rw [H.out]; rfl, more (Below.refl _ _) _⟩
     · by_cases h4 : 52 < f
       · have H := Lib.hid (formE_no (e := e) (f := f) (by omega))
         go_enter Tryz.func107, Tryz.ntmps107
         go_wp2
         go_ret
         exact ⟨by rw [H.out]; rfl, more (Below.refl _ _) _⟩
       · have H := Lib.hid (formE_yes (e := e) (f := f) (by omega))
         go_enter Tryz.func107, Tryz.ntmps107
         go_wp2
         go_ret
         exact ⟨by rw [H.out]; rfl, more (Below.refl _ _) _⟩
theorem refFits3_any (e f : Int) (b : Nat) (w : World) (hb : b < 18446744073709551616) :
 Calls Tryz.prog 54 #[.agg #[.int .i64 e, .int .i64 f], .int .u64 b] w fun en w' => en = .returned (.int .i64 (fitsE e f b)) ∧ Below w.heap.size w w' := by
 by_cases h : formE e f = 0
 · obtain ⟨h1, h2, h3, h4⟩ := formE_ok h
   obtain ⟨e, rfl⟩ := Int.eq_ofNat_of_zero_le (by omega : 0 ≤ e)
   obtain ⟨f, rfl⟩ := Int.eq_ofNat_of_zero_le (by omega : 0 ≤ f)
   by_cases h63 : e + f < 63
   · have ht : (1 + (e : Int) + (f : Int)) = ((1 + e + f : Nat) : Int) := by omega
     have Ht := Lib.hid ht
     have hk : 1 + e + f ≤ 63 := by omega
     have n1 : decide ((e : Int) + (f : Int) < 63) = true := decide_eq_true (by omega)
     by_cases hp : b < pw (1 + e + f)
     · have n2 : ¬ pw (1 + e + f) ≤ b := by omega
       have H := Lib.hid (fitsE_ok h hp)
       clear ht hp
       go_enter Tryz.func54, Tryz.ntmps54
       go_wp2_with fail
       refine (refCheck3_any e f _).mono ?_
       rintro en w1 ⟨rfl, hb1⟩
       rw [h]
       have ⟨c0, c1⟩ := (box2_new w (.int .i64 (e : Int)) (.int .i64 (f : Int)) 23).stay hb1
       go_wp2_with (go_at_call 108; refine (pow3_any (1 + e + f) _ Ht.out _ hk).mono ?_; rintro en w2 ⟨rfl, rfl⟩)
       go_ret
       exact ⟨by rw [H.out]; rfl, next (more (Below.refl _ _) _) hb1⟩
     · have n2 : pw (1 + e + f) ≤ b := by omega
       have H := Lib.hid (fitsE_bits h hp)
       clear ht hp
       go_enter Tryz.func54, Tryz.ntmps54
       go_wp2_with fail
       refine (refCheck3_any e f _).mono ?_
       rintro en w1 ⟨rfl, hb1⟩
       rw [h]
       have ⟨c0, c1⟩ := (box2_new w (.int .i64 (e : Int)) (.int .i64 (f : Int)) 23).stay hb1
       go_wp2_with (go_at_call 108; refine (pow3_any (1 + e + f) _ Ht.out _ hk).mono ?_; rintro en w2 ⟨rfl, rfl⟩)
       go_ret
       exact ⟨by rw [H.out]; rfl, next (more (Below.refl _ _) _) hb1⟩
   · have n1 : decide ((e : Int) + (f : Int) < 63) = false := decide_eq_false (by omega)
     have hp : b < pw (1 + e + f) := Nat.lt_of_lt_of_le hb (by have := pw_le (show 64 ≤ 1 + e + f by omega); rw [show pw 64 = 18446744073709551616 by unfold pw; rfl] at this; exact this)
     have H := Lib.hid (fitsE_ok h hp)
     clear hp
     go_enter Tryz.func54, Tryz.ntmps54
     go_wp2_with fail
     refine (refCheck3_any e f _).mono ?_
     rintro en w1 ⟨rfl, hb1⟩
     rw [h]
     have ⟨c0, c1⟩ := (box2_new w (.int .i64 (e : Int)) (.int .i64 (f : Int)) 23).stay hb1
     go_wp2
     go_ret
     exact ⟨by rw [H.out]; rfl, next (more (Below.refl _ _) _) hb1⟩
 · have hz : (formE e f == 0) = false := by simp [h]
   have h5 : fitsE e f b = 5 := by
    rw [fitsE_form h]
    unfold formE at h ⊢
    split
    · rename_i hh; rw [if_pos hh] at h; exact absurd rfl h
    · rfl
   have H := Lib.hid h5
   clear h h5
   go_enter Tryz.func54, Tryz.ntmps54
   go_wp2_with fail
   refine (refCheck3_any e f _).mono ?_
   rintro en w1 ⟨rfl, hb1⟩
   go_wp2
   go_ret
   exact ⟨by rw [H.out]; rfl, next (more (Below.refl _ _) _) hb1⟩
theorem refTop3_any (e f : Nat) (w : World) (he : e ≤ 11) :
 Calls Tryz.prog 161 #[.agg #[.int .i64 e, .int .i64 f]] w fun en w' => en = .returned (.int .i64 (maskN e : Int)) ∧ Below w.heap.size w w' := by
 have h1 := pw_le he
 rw [show pw 11 = 2048 by unfold pw; rfl] at h1
 have h2 := pw_pos e
 have hm : ((pw e : Int) - 1) = (maskN e : Int) := by
  have : maskN e = pw e - 1 := by unfold maskN pw; rfl
  omega
 have hw1 : IntKind.i64.wrap (pw e : Int) = (pw e : Int) := IntWalk.i64_in _ (by omega)
 have hw2 : IntKind.i64.wrap ((pw e : Int) - 1) = (pw e : Int) - 1 := IntWalk.i64_in _ (by omega)
 have H := Lib.hid hm
 clear hm
 go_enter Tryz.func161, Tryz.ntmps161
 go_wp2_with (go_at_call 108; refine (pow3_any e _ rfl _ (by omega)).mono ?_; rintro en w2 ⟨rfl, rfl⟩)
 go_ret
 exact ⟨by rw [← H.out]; rfl, more (Below.refl _ _) _⟩
theorem refSplit3_any (e f b : Nat) (w : World) (h : formE (e : Int) (f : Int) = 0) (hb : b < 18446744073709551616) (hp : b < pw (1 + e + f)) :
 Calls Tryz.prog 125 #[.agg #[.int .i64 e, .int .i64 f], .int .u64 b] w fun en w' => en = .returned (.tuple #[.agg #[.bool (sgB e f b), .int .i64 (exN e f b), .int .u64 (frN f b)], .int .i64 0]) ∧ Below w.heap.size w w' := by
 obtain ⟨h1, h2, h3, h4⟩ := formE_ok h
 have g1 : 2 ≤ e := by omega
 have g2 : e ≤ 11 := by omega
 have g3 : f ≤ 52 := by omega
 have hok := fitsE_ok h hp
 have pe : ((pw e : Nat) : Int) ≠ 0 := by have := pw_pos e; omega
 have pf : ((pw f : Nat) : Int) ≠ 0 := by have := pw_pos f; omega
 have pe1 : ¬ pw e = 0 := by have := pw_pos e; omega
 have pf1 : ¬ pw f = 0 := by have := pw_pos f; omega
 have pe2 : ((pw e : Int) == 0) = false := by simp [pe1]
 have pf2 : ((pw f : Int) == 0) = false := by simp [pf1]
 have hpe := pw_le g2
 rw [show pw 11 = 2048 by unfold pw; rfl] at hpe
 obtain ⟨q, hq⟩ : ∃ q, q = b / pw f := ⟨_, rfl⟩
 obtain ⟨u, hu⟩ : ∃ u, u = q / pw e := ⟨_, rfl⟩
 obtain ⟨x, hx⟩ : ∃ x, x = q % pw e := ⟨_, rfl⟩
 obtain ⟨y, hy⟩ : ∃ y, y = b % pw f := ⟨_, rfl⟩
 have lq : q ≤ b := by rw [hq]; exact Nat.div_le_self _ _
 have lu : u ≤ q := by rw [hu]; exact Nat.div_le_self _ _
 have lx : x < pw e := by rw [hx]; exact Nat.mod_lt _ (pw_pos e)
 have ly : y ≤ b := by rw [hy]; exact Nat.mod_le _ _
 have q1 : IntKind.u64.wrap ((b : Int) / (pw f : Int)) = (q : Int) := by rw [← Int.natCast_ediv, ← hq]; exact IntWalk.u64_in _ (by omega)
 have q2 : IntKind.u64.wrap ((q : Int) / (pw e : Int)) = (u : Int) := by rw [← Int.natCast_ediv, ← hu]; exact IntWalk.u64_in _ (by omega)
 have q3 : (q : Int).tmod (pw e : Int) = (x : Int) := by rw [hx]; exact (Int.ofNat_tmod q (pw e)).symm
 have q4 : IntKind.i64.wrap (x : Int) = (x : Int) := IntWalk.i64_in _ (by omega)
 have q5 : (b : Int).tmod (pw f : Int) = (y : Int) := by rw [hy]; exact (Int.ofNat_tmod b (pw f)).symm
 have rx : x = exN e f b := by rw [hx, hq]; rfl
 have ry : y = frN f b := by rw [hy]; unfold frN takeN; rw [pw_zero, Nat.div_one]
 have ru : ((u : Int) == 1) = sgB e f b := by
  have hl : u < 2 := by
   rw [hu, hq, Nat.div_div_eq_div_mul, ← pw_add]
   refine Nat.div_lt_of_lt_mul ?_
   rw [show 1 + e + f = f + e + 1 by omega, pw_succ] at hp
   omega
  have hs : takeN b (f + e) 1 = u := by
   unfold takeN
   rw [pw_add, ← Nat.div_div_eq_div_mul, ← hq, ← hu, show pw 1 = 2 by unfold pw; rfl]
   omega
  unfold sgB
  rw [hs, Bool.eq_iff_iff]
  simp
  omega
 have Rx := Lib.hid rx
 have Ry := Lib.hid ry
 have Ru := Lib.hid ru
 clear hq hu hx hy lq lu lx ly rx ry ru hpe hp
 clear h h1 h2 h3 h4
 go_enter Tryz.func125, Tryz.ntmps125
 go_wp2_with (first
  | (go_at_call 54; refine (refFits3_any e f b _ hb).mono ?_; rintro en w1 ⟨rfl, hb1⟩; rw [hok]; have A := ((box2_new w (.int .i64 (e : Int)) (.int .i64 (f : Int)) 23).alloc _).stay hb1; have ⟨a0, a1⟩ := A; have B := (box3_new _ _ _ _ _).stay hb1; rw [World.size_alloc] at B; have hW := next (more (more (Below.refl _ _) _) _) hb1)
  | (go_at_call 108; refine (pow3_any f _ rfl _ (by omega)).mono ?_; rintro en w2 ⟨rfl, rfl⟩))
 have hK : RefK e f w.heap.size w w1 := ⟨a0, a1, hW, B.res, Nat.le_refl _⟩
 clear a0 a1 hW hb1
 go_region_held3 (fun w' => w'.cell? ⟨w.heap.size, 0, none⟩ = some (.int .i64 (e : Int)) ∧ w'.cell? ⟨w.heap.size, 1, none⟩ = some (.int .i64 (f : Int)) ∧ w'.cell? ⟨w.heap.size + 1, 0, none⟩ = some (cellOf w' (w.heap.size + 1) 0) ∧ w'.cell? ⟨w.heap.size + 1, 1, none⟩ = some (cellOf w' (w.heap.size + 1) 1) ∧ w'.cell? ⟨w.heap.size + 1, 2, none⟩ = some (cellOf w' (w.heap.size + 1) 2) ∧ w'.frozen? ⟨w.heap.size + 1, 0, none⟩ = false ∧ w'.frozen? ⟨w.heap.size + 1, 1, none⟩ = false ∧ w'.frozen? ⟨w.heap.size + 1, 2, none⟩ = false ∧ RefK e f w.heap.size w w')
  ((first | exact RefK.conj hK.drew | (go_split_ands; exact RefK.conj (RefK.stay (by assumption) hbB)) | (go_split_ands; exact RefK.conj (RefK.set (by assumption) _ _ _)) | (go_keep; done)))
  (first | (go_at_call 108; (with_reducible refine (pow3_b e _ rfl _ (by omega)).mono ?_); rintro en wB ⟨rfl, hbB⟩) | (go_at_call 108; (with_reducible refine (pow3_b f _ rfl _ (by omega)).mono ?_); rintro en wB ⟨rfl, hbB⟩))
 go_wp2
 have KB : RefK e f w.heap.size w wB := RefK.stay (RefK.stay (RefK.stay hK.drew (by assumption)) (by assumption)) hbB
 have KS := KB.set (.bool ((u : Int) == 1)) (.int .i64 (x : Int)) (.int .u64 (y : Int))
 obtain ⟨t0, t1, t2⟩ := KB.res.box.set (.bool ((u : Int) == 1)) (.int .i64 (x : Int)) (.int .u64 (y : Int))
 refine bodyPost_ret (v := .tuple #[.agg #[.bool ((u : Int) == 1), .int .i64 (x : Int), .int .u64 (y : Int)], .int .i64 0]) ?_ rfl ⟨by rw [Ru.out, Rx.out, Ry.out], KS.bel⟩
 clear KS
 simp only [results, Tryz.results125]
 simp [go_sem, t0, t1, t2]
theorem refClass3_any (e f b : Nat) (w : World) (h : formE (e : Int) (f : Int) = 0) (hb : b < 18446744073709551616) (hp : b < pw (1 + e + f)) :
 Calls Tryz.prog 109 #[.agg #[.int .i64 e, .int .i64 f], .int .u64 b] w fun en w' => en = .returned (.tuple #[.int .u8 (classN e (exN e f b) (frN f b) : Int), .int .i64 0]) ∧ Below w.heap.size w w' := by
 obtain ⟨h1, h2, h3, h4⟩ := formE_ok h
 have hsp : ∀ W : World, Calls Tryz.prog 125 #[.agg #[.int .i64 e, .int .i64 f], .int .u64 b] W fun en w' => en = .returned (.tuple #[.agg #[.bool (sgB e f b), .int .i64 (exN e f b), .int .u64 (frN f b)], .int .i64 0]) ∧ Below W.heap.size W w' := fun W => refSplit3_any e f b W h hb hp
 have hxl := exN_lt e f b
 have hpe : pw e = maskN e + 1 := by
  have : maskN e = pw e - 1 := by unfold maskN pw; rfl
  have := pw_pos e
  omega
 obtain ⟨x, hx⟩ : ∃ x, x = exN e f b := ⟨_, rfl⟩
 obtain ⟨y, hy⟩ : ∃ y, y = frN f b := ⟨_, rfl⟩
 rw [← hx, ← hy] at hsp ⊢
 rw [← hx] at hxl
 clear hx hy
 have Hc : Hid (classN e x y = classN e x y) := Lib.hid rfl
 obtain ⟨c, hc⟩ : ∃ c, c = classN e x y := ⟨_, rfl⟩
 rw [← hc]
 unfold classN at hc
 clear h h1 h3 h4 hp Hc
 by_cases x0 : x = 0
 · rw [if_pos x0] at hc
   subst x0
   by_cases y0 : y = 0
   · rw [if_pos y0] at hc
     subst y0
     have Hc := Lib.hid hc
     clear hc
     go_enter Tryz.func109, Tryz.ntmps109
     go_wp2_with fail
     refine (hsp _).mono ?_
     rintro en w1 ⟨rfl, hb1⟩
     have hW := next (more (Below.refl _ _) _) hb1
     go_wp2
     go_ret2
     exact ⟨by rw [Hc.out]; rfl, more hW _⟩
   · rw [if_neg y0] at hc
     have Hc := Lib.hid hc
     have y1 : ((y : Int) == 0) = false := by simp [y0]
     clear hc
     go_enter Tryz.func109, Tryz.ntmps109
     go_wp2_with fail
     refine (hsp _).mono ?_
     rintro en w1 ⟨rfl, hb1⟩
     have hW := next (more (Below.refl _ _) _) hb1
     go_wp2
     go_ret2
     exact ⟨by rw [Hc.out]; rfl, more hW _⟩
 · rw [if_neg x0] at hc
   have x1 : ((x : Int) == 0) = false := by simp [x0]
   have Hf : Hid (c = if x = maskN e then if y = 0 then 4 else 5 else 3) := Lib.hid hc
   clear hc
   go_enter Tryz.func109, Tryz.ntmps109
   go_wp2_with fail
   refine (hsp _).mono ?_
   rintro en w1 ⟨rfl, hb1⟩
   have hW := next (more (Below.refl _ _) _) hb1
   have A := ((box2_new w (.int .i64 (e : Int)) (.int .i64 (f : Int)) 23).stay hb1).alloc (.cells #[.bool (sgB e f b), .int .i64 (x : Int), .int .u64 (y : Int)] 68)
   have B := box3_new w1 (.bool (sgB e f b)) (.int .i64 (x : Int)) (.int .u64 (y : Int)) 68
   have hW2 := more hW (.cells #[.bool (sgB e f b), .int .i64 (x : Int), .int .u64 (y : Int)] 68)
   go_wp2
   generalize w1.heap.size = p at B ⊢
   generalize w1.alloc (.cells #[.bool (sgB e f b), .int .i64 (x : Int), .int .u64 (y : Int)] 68) = w2 at A B hW2 ⊢
   have kS : ∀ w' : World, Below w2.heap.size w2 w' → (w'.cell? ⟨w.heap.size, 0, none⟩ = some (.int .i64 (e : Int)) ∧ w'.cell? ⟨w.heap.size, 1, none⟩ = some (.int .i64 (f : Int)) ∧ w'.cell? ⟨p, 1, none⟩ = some (.int .i64 (x : Int)) ∧ w'.cell? ⟨p, 2, none⟩ = some (.int .u64 (y : Int)) ∧ Below w2.heap.size w2 w') := fun w' hb => ⟨cellStay A.c0 hb, cellStay A.c1 hb, cellStay B.c1 hb, cellStay B.c2 hb, hb⟩
   by_cases xm : x = maskN e
   · rw [if_pos xm] at Hf
     have l1 : decide ((x : Int) < (maskN e : Int)) = false := decide_eq_false (by omega)
     have l2 : ¬ x < maskN e := by omega
     by_cases y0 : y = 0
     · have Hc : Hid (c = 4) := Lib.hid (by rw [Hf.out, if_pos y0])
       have y1 : ((y : Int) == 0) = true := by simp [y0]
       clear y0
       go_region_held3 (fun w' => w'.cell? ⟨w.heap.size, 0, none⟩ = some (.int .i64 (e : Int)) ∧ w'.cell? ⟨w.heap.size, 1, none⟩ = some (.int .i64 (f : Int)) ∧ w'.cell? ⟨p, 1, none⟩ = some (.int .i64 (x : Int)) ∧ w'.cell? ⟨p, 2, none⟩ = some (.int .u64 (y : Int)) ∧ Below w2.heap.size w2 w')
        ((refine kS _ ?_; (repeat (with_reducible (first | assumption | exact Below.refl _ _ | refine Below.drew ?_ | refine more ?_ _))); done))
        ((go_at_call 161; refine (refTop3_any e f _ (by omega)).mono ?_; rintro en wX ⟨rfl, hbX⟩; have hWX : Below w2.heap.size w2 wX := (by go_split_ands; exact next (by first | assumption | exact (Below.refl _ _).drew) hbX)))
       go_split_ands
       go_wp2
       go_ret2
       exact ⟨by rw [Hc.out]; rfl, next hW2 (by assumption)⟩
     · have Hc : Hid (c = 5) := Lib.hid (by rw [Hf.out, if_neg y0])
       have y1 : ((y : Int) == 0) = false := by simp [y0]
       go_region_held3 (fun w' => w'.cell? ⟨w.heap.size, 0, none⟩ = some (.int .i64 (e : Int)) ∧ w'.cell? ⟨w.heap.size, 1, none⟩ = some (.int .i64 (f : Int)) ∧ w'.cell? ⟨p, 1, none⟩ = some (.int .i64 (x : Int)) ∧ w'.cell? ⟨p, 2, none⟩ = some (.int .u64 (y : Int)) ∧ Below w2.heap.size w2 w')
        ((refine kS _ ?_; (repeat (with_reducible (first | assumption | exact Below.refl _ _ | refine Below.drew ?_ | refine more ?_ _))); done))
        ((go_at_call 161; refine (refTop3_any e f _ (by omega)).mono ?_; rintro en wX ⟨rfl, hbX⟩; have hWX : Below w2.heap.size w2 wX := (by go_split_ands; exact next (by first | assumption | exact (Below.refl _ _).drew) hbX)))
       go_split_ands
       go_wp2
       go_ret2
       exact ⟨by rw [Hc.out]; rfl, next hW2 (by assumption)⟩
   · rw [if_neg xm] at Hf
     have Hc : Hid (c = 3) := Lib.hid Hf.out
     have l1 : decide ((x : Int) < (maskN e : Int)) = true := decide_eq_true (by omega)
     have l2 : x < maskN e := by omega
     go_region_held3 (fun w' => w'.cell? ⟨w.heap.size, 0, none⟩ = some (.int .i64 (e : Int)) ∧ w'.cell? ⟨w.heap.size, 1, none⟩ = some (.int .i64 (f : Int)) ∧ w'.cell? ⟨p, 1, none⟩ = some (.int .i64 (x : Int)) ∧ w'.cell? ⟨p, 2, none⟩ = some (.int .u64 (y : Int)) ∧ Below w2.heap.size w2 w')
      ((refine kS _ ?_; (repeat (with_reducible (first | assumption | exact Below.refl _ _ | refine Below.drew ?_ | refine more ?_ _))); done))
      ((go_at_call 161; refine (refTop3_any e f _ (by omega)).mono ?_; rintro en wX ⟨rfl, hbX⟩; have hWX : Below w2.heap.size w2 wX := (by go_split_ands; exact next (by first | assumption | exact (Below.refl _ _).drew) hbX)))
     go_split_ands
     go_wp2
     go_ret2
     exact ⟨by rw [Hc.out]; rfl, next hW2 (by assumption)⟩
theorem class_fin {e x y : Nat} (he : 2 ≤ e) : classN e x y ≤ 3 ↔ x ≠ maskN e := by
 have h1 : maskN e ≠ 0 := by
  unfold maskN
  have : 2 ^ 2 ≤ 2 ^ e := Nat.pow_le_pow_right (by decide) he
  omega
 unfold classN
 split
 · rename_i h
   rw [h]
   constructor
   · intro _ hh
     exact h1 hh.symm
   · intro _
     split <;> omega
 · split
   · rename_i h2
     constructor
     · intro h3
       split at h3 <;> omega
     · intro h3
       exact absurd h2 h3
   · rename_i h2
     exact ⟨fun _ => h2, fun _ => by omega⟩
theorem refFinite3_any (e f b : Nat) (w : World) (h : formE (e : Int) (f : Int) = 0) (hb : b < 18446744073709551616) (hp : b < pw (1 + e + f)) :
 Calls Tryz.prog 55 #[.agg #[.int .i64 e, .int .i64 f], .int .u64 b] w fun en w' => en = .returned (.bool (decide (exN e f b ≠ maskN e))) ∧ Below w.heap.size w w' := by
 obtain ⟨h1, h2, h3, h4⟩ := formE_ok h
 have hc := class_fin (e := e) (x := exN e f b) (y := frN f b) (by omega)
 have hcl : ∀ W : World, Calls Tryz.prog 109 #[.agg #[.int .i64 e, .int .i64 f], .int .u64 b] W fun en w' => en = .returned (.tuple #[.int .u8 (classN e (exN e f b) (frN f b) : Int), .int .i64 0]) ∧ Below W.heap.size W w' := fun W => refClass3_any e f b W h hb hp
 generalize classN e (exN e f b) (frN f b) = c at hc hcl
 clear h h1 h2 h3 h4 hp
 by_cases hx : exN e f b ≠ maskN e
 · have h3 : decide ((c : Int) ≤ 3) = true := decide_eq_true (by have := hc.2 hx; omega)
   have h4 : c ≤ 3 := hc.2 hx
   have H : Hid (decide (exN e f b ≠ maskN e) = true) := Lib.hid (decide_eq_true hx)
   clear hc hx
   go_enter Tryz.func55, Tryz.ntmps55
   go_wp2_with fail
   refine (hcl _).mono ?_
   rintro en w1 ⟨rfl, hb1⟩
   go_wp2
   go_ret
   exact ⟨by rw [H.out]; simp, next (more (Below.refl _ _) _) hb1⟩
 · have h4 : ¬ c ≤ 3 := fun hh => hx (hc.1 hh)
   have h3 : decide ((c : Int) ≤ 3) = false := decide_eq_false (by omega)
   have H : Hid (decide (exN e f b ≠ maskN e) = false) := Lib.hid (decide_eq_false hx)
   clear hc hx
   go_enter Tryz.func55, Tryz.ntmps55
   go_wp2_with fail
   refine (hcl _).mono ?_
   rintro en w1 ⟨rfl, hb1⟩
   go_wp2
   go_ret
   exact ⟨by rw [H.out]; simp, next (more (Below.refl _ _) _) hb1⟩
end Go.Proofs.YtfjgmpfpadfknaaGreatDoor
