/-
  Plain: a float's bits without and with its sign; places in the row of all numbers, as layer 6 reckons them. No program in sight.
-/
import Derived.Test.YtpmncmglmobjoaaGreatDoorQbTMT32
set_option maxHeartbeats 4000000
set_option maxRecDepth 100000
namespace Go.Proofs.YtpmncmglmobjoaaGreatDoor
open Go.RowKit Go.Lb
def mgN (e f b : Nat) : Nat := b % pw (e + f)
theorem pw_one_more (e f : Nat) : pw (1 + e + f) = 2 * pw (e + f) := by
 unfold pw
 rw [show 1 + e + f = e + f + 1 by omega, Nat.pow_succ]
 omega
theorem sg_iff {e f b : Nat} (hb : b < pw (1 + e + f)) : sgB e f b = decide (pw (e + f) ≤ b) := by
 rw [pw_one_more] at hb
 unfold sgB takeN
 rw [show f + e = e + f by omega, show pw 1 = 2 by unfold pw; rfl]
 have hp := pw_pos (e + f)
 by_cases h : pw (e + f) ≤ b
 · have hd : b / pw (e + f) = 1 := Nat.div_eq_of_lt_le (by omega) (by omega)
   rw [hd, decide_eq_true h]
   rfl
 · have hd : b / pw (e + f) = 0 := Nat.div_eq_of_lt (by omega)
   rw [hd, decide_eq_false h]
   rfl
theorem mg_lt (e f b : Nat) : mgN e f b < pw (e + f) := Nat.mod_lt _ (pw_pos _)
theorem mg_eq {e f b : Nat} (hb : b < pw (1 + e + f)) : b = mgN e f b + if sgB e f b = true then pw (e + f) else 0 := by
 rw [sg_iff hb]
 rw [pw_one_more] at hb
 unfold mgN
 by_cases h : pw (e + f) ≤ b
 · rw [if_pos (decide_eq_true h), Nat.mod_eq_sub_mod h, Nat.mod_eq_of_lt (by omega)]
   omega
 · rw [if_neg (by simp [h]), Nat.mod_eq_of_lt (by omega)]
   rfl
theorem u64_andNot_top {k b : Nat} (hk : k ≤ 63) (hb : b < 2 * pw k) : bits BinOp.andNot IntKind.u64 (b : Int) (pw k : Int) = ((b % pw k : Nat) : Int) := by
 have hp := pw_le hk
 rw [show pw 63 = 9223372036854775808 by unfold pw; rfl] at hp
 have hpos := pw_pos k
 have hx : BitVec.ofInt 64 (b : Int) &&& ~~~BitVec.ofInt 64 (pw k : Int) = BitVec.ofNat 64 (b % pw k) := by
  rw [BitVec.ofInt_natCast, BitVec.ofInt_natCast]
  apply BitVec.eq_of_getLsbD_eq
  intro i hi
  rw [BitVec.getLsbD_and, BitVec.getLsbD_not, BitVec.getLsbD_ofNat, BitVec.getLsbD_ofNat, BitVec.getLsbD_ofNat]
  unfold pw
  rw [Nat.testBit_mod_two_pow, Nat.testBit_two_pow]
  have hi' : i < 64 := hi
  by_cases h1 : i < k
  · simp [hi', h1, Nat.ne_of_gt h1]
  · by_cases h2 : i = k
    · subst h2
      simp
    · have h3 : b.testBit i = false := by
       refine Nat.testBit_lt_two_pow (Nat.lt_of_lt_of_le hb ?_)
       unfold pw
       rw [show 2 * 2 ^ k = 2 ^ (k + 1) by rw [Nat.pow_succ]; omega]
       exact Nat.pow_le_pow_right (by decide) (by omega)
      simp [h3]
 have hl : b % pw k < pw k := Nat.mod_lt _ hpos
 show IntKind.u64.wrap ((BitVec.ofInt 64 (b : Int) &&& ~~~BitVec.ofInt 64 (pw k : Int)).toNat : Int) = _
 rw [hx, BitVec.toNat_ofNat, Nat.mod_eq_of_lt (by omega), IntKind.wrap_u64]
 omega
def hiE (e f : Int) (b : Nat) : Int :=
 if fitsE e f b ≠ 0 then fitsE e f b else if nanB e.toNat f.toNat b = true then 2 else if sgB e.toNat f.toNat b = true ∧ mgN e.toNat f.toNat b ≠ 0 then 0 else if infB e.toNat f.toNat b = true then 60 else 0
def hiN (e f b : Nat) : Nat := if sgB e f b = true ∧ mgN e f b ≠ 0 then pw (e + f) + mgN e f b - 1 else mgN e f b + 1
def hiB (e f : Int) (b : Nat) : Nat := if hiE e f b = 0 then hiN e.toNat f.toNat b else 0
theorem pw_sixty {k : Nat} (h : k ≤ 63) : pw k ≤ 9223372036854775808 := by
 have := pw_le h
 rw [show pw 63 = 9223372036854775808 by unfold pw; rfl] at this
 exact this
theorem pow3_any (k : Nat) (x : Int) (hx : x = (k : Int)) (w : World) (hk : k ≤ 63) :
 Calls Tryz.prog 56 #[.int .i64 x] w fun en w' => en = .returned (.int .u64 (pw k : Int)) ∧ w = w' := by
 subst hx
 go_enter Tryz.func56, Tryz.ntmps56
 go_wp2
 go_loop [3, 4] (fun p i => ∃ j : Nat, j ≤ k ∧ p = .int .u64 (pw j : Int) ∧ i = .int .i64 j) (fun _ i => k - (intOf i).toNat)
 case atStart => exact ⟨0, by omega, by rw [pw_zero]; rfl, rfl⟩
 case round =>
  obtain ⟨j, hj, rfl, rfl⟩ := hrel
  by_cases h : j < k
  · have h1 : IntKind.u64.wrap ((pw j : Int) * 2) = (pw (j + 1) : Int) := by
     rw [IntWalk.u64_in _ (by have := pw_sixty (show j ≤ 62 + 1 by omega); have h2 := pw_le (show j ≤ 62 by omega); rw [show pw 62 = 4611686018427387904 by unfold pw; rfl] at h2; omega), pw_succ]
     omega
    go_wp2
    go_round
    case rel => exact ⟨j + 1, by omega, rfl, by go_num⟩
    case measure => simp [intOf]; omega
  · obtain rfl : k = j := by omega
    go_wp2
    go_ret
    exact ⟨rfl, rfl⟩
theorem pow3_b (k : Nat) (x : Int) (hx : x = (k : Int)) (w : World) (hk : k ≤ 63) :
 Calls Tryz.prog 56 #[.int .i64 x] w fun en w' => en = .returned (.int .u64 (pw k : Int)) ∧ Below w.heap.size w w' := by
 refine (pow3_any k x hx w hk).mono ?_
 rintro en w' ⟨rfl, rfl⟩
 exact ⟨rfl, Below.refl _ _⟩
theorem refCheck3_any (e f : Int) (w : World) :
 Calls Tryz.prog 23 #[.agg #[.int .i64 e, .int .i64 f]] w fun en w' => en = .returned (.int .i64 (formE e f)) ∧ Below w.heap.size w w' := by
 by_cases h1 : e < 2
 · have H := Lib.hid (formE_no (e := e) (f := f) (by omega))
   go_enter Tryz.func23, Tryz.ntmps23
   go_wp2
   go_ret
   exact ⟨by rw [H.out]; rfl, more (Below.refl _ _) _⟩
 · by_cases h2 : 11 < e
   · have H := Lib.hid (formE_no (e := e) (f := f) (by omega))
     go_enter Tryz.func23, Tryz.ntmps23
     go_wp2
     go_ret
     exact ⟨by rw [H.out]; rfl, more (Below.refl _ _) _⟩
   · by_cases h3 : f < 1
     · have H := Lib.hid (formE_no (e := e) (f := f) (by omega))
       go_enter Tryz.func23, Tryz.ntmps23
       go_wp2
       go_ret
       exact ⟨by rw [H.out]; rfl, more (Below.refl _ _) _⟩
     · by_cases h4 : 52 < f
       · have H := Lib.hid (formE_no (e := e) (f := f) (by omega))
         go_enter Tryz.func23, Tryz.ntmps23
         go_wp2
         go_ret
         exact ⟨by rw [H.out]; rfl, more (Below.refl _ _) _⟩
       · have H := Lib.hid (formE_yes (e := e) (f := f) (by omega))
         go_enter Tryz.func23, Tryz.ntmps23
         go_wp2
         go_ret
         exact ⟨by rw [H.out]; rfl, more (Below.refl _ _) _⟩
theorem refFits3_any (e f : Int) (b : Nat) (w : World) (hb : b < 18446744073709551616) :
 Calls Tryz.prog 24 #[.agg #[.int .i64 e, .int .i64 f], .int .u64 b] w fun en w' => en = .returned (.int .i64 (fitsE e f b)) ∧ Below w.heap.size w w' := by
 by_cases h : formE e f = 0
 · obtain ⟨h1, h2, h3, h4⟩ := formE_ok h
   obtain ⟨e, rfl⟩ := Int.eq_ofNat_of_zero_le (by omega : 0 ≤ e)
   obtain ⟨f, rfl⟩ := Int.eq_ofNat_of_zero_le (by omega : 0 ≤ f)
   by_cases h63 : e + f < 63
   · have ht : (1 + (e : Int) + (f : Int)) = ((1 + e + f : Nat) : Int) := by omega
     have Ht := Lib.hid ht
     have hk : 1 + e + f ≤ 63 := by omega
     have n1 : decide ((e : Int) + (f : Int) < 63) = true := decide_eq_true (by omega)
     by_cases hp : b < pw (1 + e + f)
     · have n2 : ¬ pw (1 + e + f) ≤ b := by omega
       have H := Lib.hid (fitsE_ok h hp)
       clear ht hp
       go_enter Tryz.func24, Tryz.ntmps24
       go_wp2_with fail
       refine (refCheck3_any e f _).mono ?_
       rintro en w1 ⟨rfl, hb1⟩
       rw [h]
       have ⟨c0, c1⟩ := (box2_new w (.int .i64 (e : Int)) (.int .i64 (f : Int)) 23).stay hb1
       go_wp2_with (go_at_call 56; refine (pow3_any (1 + e + f) _ Ht.out _ hk).mono ?_; rintro en w2 ⟨rfl, rfl⟩)
       go_ret
       exact ⟨by rw [H.out]; rfl, next (more (Below.refl _ _) _) hb1⟩
     · have n2 : pw (1 + e + f) ≤ b := by omega
       have H := Lib.hid (fitsE_bits h hp)
       clear ht hp
       go_enter Tryz.func24, Tryz.ntmps24
       go_wp2_with fail
       refine (refCheck3_any e f _).mono ?_
       rintro en w1 ⟨rfl, hb1⟩
       rw [h]
       have ⟨c0, c1⟩ := (box2_new w (.int .i64 (e : Int)) (.int .i64 (f : Int)) 23).stay hb1
       go_wp2_with (go_at_call 56; refine (pow3_any (1 + e + f) _ Ht.out _ hk).mono ?_; rintro en w2 ⟨rfl, rfl⟩)
       go_ret
       exact ⟨by rw [H.out]; rfl, next (more (Below.refl _ _) _) hb1⟩
   · have n1 : decide ((e : Int) + (f : Int) < 63) = false := decide_eq_false (by omega)
     have hp : b < pw (1 + e + f) := Nat.lt_of_lt_of_le hb (by have := pw_le (show 64 ≤ 1 + e + f by omega); rw [show pw 64 = 18446744073709551616 by unfold pw; rfl] at this; exact this)
     have H := Lib.hid (fitsE_ok h hp)
     clear hp
     go_enter Tryz.func24, Tryz.ntmps24
     go_wp2_with fail
     refine (refCheck3_any e f _).mono ?_
     rintro en w1 ⟨rfl, hb1⟩
     rw [h]
     have ⟨c0, c1⟩ := (box2_new w (.int .i64 (e : Int)) (.int .i64 (f : Int)) 23).stay hb1
     go_wp2
     go_ret
     exact ⟨by rw [H.out]; rfl, next (more (Below.refl _ _) _) hb1⟩
 · have hz : (formE e f == 0) = false := by simp [h]
   have h5 : fitsE e f b = 5 := by
    rw [fitsE_form h]
    unfold formE at h ⊢
    split
    · rename_i hh; rw [if_pos hh] at h; exact absurd rfl h
    · rfl
   have H := Lib.hid h5
   clear h h5
   go_enter Tryz.func24, Tryz.ntmps24
   go_wp2_with fail
   refine (refCheck3_any e f _).mono ?_
   rintro en w1 ⟨rfl, hb1⟩
   go_wp2
   go_ret
   exact ⟨by rw [H.out]; rfl, next (more (Below.refl _ _) _) hb1⟩
theorem refTop3_any (e f : Nat) (w : World) (he : e ≤ 11) :
 Calls Tryz.prog 58 #[.agg #[.int .i64 e, .int .i64 f]] w fun en w' => en = .returned (.int .i64 (maskN e : Int)) ∧ Below w.heap.size w w' := by
 have h1 := pw_le he
 rw [show pw 11 = 2048 by unfold pw; rfl] at h1
 have h2 := pw_pos e
 have hm : ((pw e : Int) - 1) = (maskN e : Int) := by
  have : maskN e = pw e - 1 := by unfold maskN pw; rfl
  omega
 have hw1 : IntKind.i64.wrap (pw e : Int) = (pw e : Int) := IntWalk.i64_in _ (by omega)
 have hw2 : IntKind.i64.wrap ((pw e : Int) - 1) = (pw e : Int) - 1 := IntWalk.i64_in _ (by omega)
 have H := Lib.hid hm
 clear hm
 go_enter Tryz.func58, Tryz.ntmps58
 go_wp2_with (go_at_call 56; refine (pow3_any e _ rfl _ (by omega)).mono ?_; rintro en w2 ⟨rfl, rfl⟩)
 go_ret
 exact ⟨by rw [← H.out]; rfl, more (Below.refl _ _) _⟩
theorem refSplit3_any (e f b : Nat) (w : World) (h : formE (e : Int) (f : Int) = 0) (hb : b < 18446744073709551616) (hp : b < pw (1 + e + f)) :
 Calls Tryz.prog 57 #[.agg #[.int .i64 e, .int .i64 f], .int .u64 b] w fun en w' => en = .returned (.tuple #[.agg #[.bool (sgB e f b), .int .i64 (exN e f b), .int .u64 (frN f b)], .int .i64 0]) ∧ Below w.heap.size w w' := by
 obtain ⟨h1, h2, h3, h4⟩ := formE_ok h
 have g1 : 2 ≤ e := by omega
 have g2 : e ≤ 11 := by omega
 have g3 : f ≤ 52 := by omega
 have hok := fitsE_ok h hp
 have pe : ((pw e : Nat) : Int) ≠ 0 := by have := pw_pos e; omega
 have pf : ((pw f : Nat) : Int) ≠ 0 := by have := pw_pos f; omega
 have pe1 : ¬ pw e = 0 := by have := pw_pos e; omega
 have pf1 : ¬ pw f = 0 := by have := pw_pos f; omega
 have pe2 : ((pw e : Int) == 0) = false := by simp [pe1]
 have pf2 : ((pw f : Int) == 0) = false := by simp [pf1]
 have hpe := pw_le g2
 rw [show pw 11 = 2048 by unfold pw; rfl] at hpe
 obtain ⟨q, hq⟩ : ∃ q, q = b / pw f := ⟨_, rfl⟩
 obtain ⟨u, hu⟩ : ∃ u, u = q / pw e := ⟨_, rfl⟩
 obtain ⟨x, hx⟩ : ∃ x, x = q % pw e := ⟨_, rfl⟩
 obtain ⟨y, hy⟩ : ∃ y, y = b % pw f := ⟨_, rfl⟩
 have lq : q ≤ b := by rw [hq]; exact Nat.div_le_self _ _
 have lu : u ≤ q := by rw [hu]; exact Nat.div_le_self _ _
 have lx : x < pw e := by rw [hx]; exact Nat.mod_lt _ (pw_pos e)
 have ly : y ≤ b := by rw [hy]; exact Nat.mod_le _ _
 have q1 : IntKind.u64.wrap ((b : Int) / (pw f : Int)) = (q : Int) := by rw [← Int.natCast_ediv, ← hq]; exact IntWalk.u64_in _ (by omega)
 have q2 : IntKind.u64.wrap ((q : Int) / (pw e : Int)) = (u : Int) := by rw [← Int.natCast_ediv, ← hu]; exact IntWalk.u64_in _ (by omega)
 have q3 : (q : Int).tmod (pw e : Int) = (x : Int) := by rw [hx]; exact (Int.ofNat_tmod q (pw e)).symm
 have q4 : IntKind.i64.wrap (x : Int) = (x : Int) := IntWalk.i64_in _ (by omega)
 have q5 : (b : Int).tmod (pw f : Int) = (y : Int) := by rw [hy]; exact (Int.ofNat_tmod b (pw f)).symm
 have rx : x = exN e f b := by rw [hx, hq]; rfl
 have ry : y = frN f b := by rw [hy]; unfold frN takeN; rw [pw_zero, Nat.div_one]
 have ru : ((u : Int) == 1) = sgB e f b := by
  have hl : u < 2 := by
   rw [hu, hq, Nat.div_div_eq_div_mul, ← pw_add]
   refine Nat.div_lt_of_lt_mul ?_
   rw [show 1 + e + f = f + e + 1 by omega, pw_succ] at hp
   omega
  have hs : takeN b (f + e) 1 = u := by
   unfold takeN
   rw [pw_add, ← Nat.div_div_eq_div_mul, ← hq, ← hu, show pw 1 = 2 by unfold pw; rfl]
   omega
  unfold sgB
  rw [hs, Bool.eq_iff_iff]
  simp
  omega
 have Rx := Lib.hid rx
 have Ry := Lib.hid ry
 have Ru := Lib.hid ru
 clear hq hu hx hy lq lu lx ly rx ry ru hpe hp
 clear h h1 h2 h3 h4
 go_enter Tryz.func57, Tryz.ntmps57
 go_wp2_with (first
  | (go_at_call 24; refine (refFits3_any e f b _ hb).mono ?_; rintro en w1 ⟨rfl, hb1⟩; rw [hok]; have A := ((box2_new w (.int .i64 (e : Int)) (.int .i64 (f : Int)) 23).alloc _).stay hb1; have ⟨a0, a1⟩ := A; have B := (box3_new _ _ _ _ _).stay hb1; rw [World.size_alloc] at B; have hW := next (more (more (Below.refl _ _) _) _) hb1)
  | (go_at_call 56; refine (pow3_any f _ rfl _ (by omega)).mono ?_; rintro en w2 ⟨rfl, rfl⟩))
 have hK : RefK e f w.heap.size w w1 := ⟨a0, a1, hW, B.res, Nat.le_refl _⟩
 clear a0 a1 hW hb1
 go_region_held3 (fun w' => w'.cell? ⟨w.heap.size, 0, none⟩ = some (.int .i64 (e : Int)) ∧ w'.cell? ⟨w.heap.size, 1, none⟩ = some (.int .i64 (f : Int)) ∧ w'.cell? ⟨w.heap.size + 1, 0, none⟩ = some (cellOf w' (w.heap.size + 1) 0) ∧ w'.cell? ⟨w.heap.size + 1, 1, none⟩ = some (cellOf w' (w.heap.size + 1) 1) ∧ w'.cell? ⟨w.heap.size + 1, 2, none⟩ = some (cellOf w' (w.heap.size + 1) 2) ∧ w'.frozen? ⟨w.heap.size + 1, 0, none⟩ = false ∧ w'.frozen? ⟨w.heap.size + 1, 1, none⟩ = false ∧ w'.frozen? ⟨w.heap.size + 1, 2, none⟩ = false ∧ RefK e f w.heap.size w w')
  ((first | exact RefK.conj hK.drew | (go_split_ands; exact RefK.conj (RefK.stay (by assumption) hbB)) | (go_split_ands; exact RefK.conj (RefK.set (by assumption) _ _ _)) | (go_keep; done)))
  (first | (go_at_call 56; (with_reducible refine (pow3_b e _ rfl _ (by omega)).mono ?_); rintro en wB ⟨rfl, hbB⟩) | (go_at_call 56; (with_reducible refine (pow3_b f _ rfl _ (by omega)).mono ?_); rintro en wB ⟨rfl, hbB⟩))
 go_wp2
 have KB : RefK e f w.heap.size w wB := RefK.stay (RefK.stay (RefK.stay hK.drew (by assumption)) (by assumption)) hbB
 have KS := KB.set (.bool ((u : Int) == 1)) (.int .i64 (x : Int)) (.int .u64 (y : Int))
 obtain ⟨t0, t1, t2⟩ := KB.res.box.set (.bool ((u : Int) == 1)) (.int .i64 (x : Int)) (.int .u64 (y : Int))
 refine bodyPost_ret (v := .tuple #[.agg #[.bool ((u : Int) == 1), .int .i64 (x : Int), .int .u64 (y : Int)], .int .i64 0]) ?_ rfl ⟨by rw [Ru.out, Rx.out, Ry.out], KS.bel⟩
 clear KS
 simp only [results, Tryz.results57]
 simp [go_sem, t0, t1, t2]
theorem refClass3_any (e f b : Nat) (w : World) (h : formE (e : Int) (f : Int) = 0) (hb : b < 18446744073709551616) (hp : b < pw (1 + e + f)) :
 Calls Tryz.prog 25 #[.agg #[.int .i64 e, .int .i64 f], .int .u64 b] w fun en w' => en = .returned (.tuple #[.int .u8 (classN e (exN e f b) (frN f b) : Int), .int .i64 0]) ∧ Below w.heap.size w w' := by
 obtain ⟨h1, h2, h3, h4⟩ := formE_ok h
 have hsp : ∀ W : World, Calls Tryz.prog 57 #[.agg #[.int .i64 e, .int .i64 f], .int .u64 b] W fun en w' => en = .returned (.tuple #[.agg #[.bool (sgB e f b), .int .i64 (exN e f b), .int .u64 (frN f b)], .int .i64 0]) ∧ Below W.heap.size W w' := fun W => refSplit3_any e f b W h hb hp
 have hxl := exN_lt e f b
 have hpe : pw e = maskN e + 1 := by
  have : maskN e = pw e - 1 := by unfold maskN pw; rfl
  have := pw_pos e
  omega
 obtain ⟨x, hx⟩ : ∃ x, x = exN e f b := ⟨_, rfl⟩
 obtain ⟨y, hy⟩ : ∃ y, y = frN f b := ⟨_, rfl⟩
 rw [← hx, ← hy] at hsp ⊢
 rw [← hx] at hxl
 clear hx hy
 have Hc : Hid (classN e x y = classN e x y) := Lib.hid rfl
 obtain ⟨c, hc⟩ : ∃ c, c = classN e x y := ⟨_, rfl⟩
 rw [← hc]
 unfold classN at hc
 clear h h1 h3 h4 hp Hc
 by_cases x0 : x = 0
 · rw [if_pos x0] at hc
   subst x0
   by_cases y0 : y = 0
   · rw [if_pos y0] at hc
     subst y0
     have Hc := Lib.hid hc
     clear hc
     go_enter Tryz.func25, Tryz.ntmps25
     go_wp2_with fail
     refine (hsp _).mono ?_
     rintro en w1 ⟨rfl, hb1⟩
     have hW := next (more (Below.refl _ _) _) hb1
     go_wp2
     go_ret2
     exact ⟨by rw [Hc.out]; rfl, more hW _⟩
   · rw [if_neg y0] at hc
     have Hc := Lib.hid hc
     have y1 : ((y : Int) == 0) = false := by simp [y0]
     clear hc
     go_enter Tryz.func25, Tryz.ntmps25
     go_wp2_with fail
     refine (hsp _).mono ?_
     rintro en w1 ⟨rfl, hb1⟩
     have hW := next (more (Below.refl _ _) _) hb1
     go_wp2
     go_ret2
     exact ⟨by rw [Hc.out]; rfl, more hW _⟩
 · rw [if_neg x0] at hc
   have x1 : ((x : Int) == 0) = false := by simp [x0]
   have Hf : Hid (c = if x = maskN e then if y = 0 then 4 else 5 else 3) := Lib.hid hc
   clear hc
   go_enter Tryz.func25, Tryz.ntmps25
   go_wp2_with fail
   refine (hsp _).mono ?_
   rintro en w1 ⟨rfl, hb1⟩
   have hW := next (more (Below.refl _ _) _) hb1
   have A := ((box2_new w (.int .i64 (e : Int)) (.int .i64 (f : Int)) 23).stay hb1).alloc (.cells #[.bool (sgB e f b), .int .i64 (x : Int), .int .u64 (y : Int)] 104)
   have B := box3_new w1 (.bool (sgB e f b)) (.int .i64 (x : Int)) (.int .u64 (y : Int)) 104
   have hW2 := more hW (.cells #[.bool (sgB e f b), .int .i64 (x : Int), .int .u64 (y : Int)] 104)
   go_wp2
   generalize w1.heap.size = p at B ⊢
   generalize w1.alloc (.cells #[.bool (sgB e f b), .int .i64 (x : Int), .int .u64 (y : Int)] 104) = w2 at A B hW2 ⊢
   have kS : ∀ w' : World, Below w2.heap.size w2 w' → (w'.cell? ⟨w.heap.size, 0, none⟩ = some (.int .i64 (e : Int)) ∧ w'.cell? ⟨w.heap.size, 1, none⟩ = some (.int .i64 (f : Int)) ∧ w'.cell? ⟨p, 1, none⟩ = some (.int .i64 (x : Int)) ∧ w'.cell? ⟨p, 2, none⟩ = some (.int .u64 (y : Int)) ∧ Below w2.heap.size w2 w') := fun w' hb => ⟨cellStay A.c0 hb, cellStay A.c1 hb, cellStay B.c1 hb, cellStay B.c2 hb, hb⟩
   by_cases xm : x = maskN e
   · rw [if_pos xm] at Hf
     have l1 : decide ((x : Int) < (maskN e : Int)) = false := decide_eq_false (by omega)
     have l2 : ¬ x < maskN e := by omega
     by_cases y0 : y = 0
     · have Hc : Hid (c = 4) := Lib.hid (by rw [Hf.out, if_pos y0])
       have y1 : ((y : Int) == 0) = true := by simp [y0]
       clear y0
       go_region_held3 (fun w' => w'.cell? ⟨w.heap.size, 0, none⟩ = some (.int .i64 (e : Int)) ∧ w'.cell? ⟨w.heap.size, 1, none⟩ = some (.int .i64 (f : Int)) ∧ w'.cell? ⟨p, 1, none⟩ = some (.int .i64 (x : Int)) ∧ w'.cell? ⟨p, 2, none⟩ = some (.int .u64 (y : Int)) ∧ Below w2.heap.size w2 w')
        ((refine kS _ ?_; (repeat (with_reducible (first | assumption | exact Below.refl _ _ | refine Below.drew ?_ | refine more ?_ _))); done))
        ((go_at_call 58; refine (refTop3_any e f _ (by omega)).mono ?_; rintro en wX ⟨rfl, hbX⟩; have hWX : Below w2.heap.size w2 wX := (by go_split_ands; exact next (by first | assumption | exact (Below.refl _ _).drew) hbX)))
       go_split_ands
       go_wp2
       go_ret2
       exact ⟨by rw [Hc.out]; rfl, next hW2 (by assumption)⟩
     · have Hc : Hid (c = 5) := Lib.hid (by rw [Hf.out, if_neg y0])
       have y1 : ((y : Int) == 0) = false := by simp [y0]
       go_region_held3 (fun w' => w'.cell? ⟨w.heap.size, 0, none⟩ = some (.int .i64 (e : Int)) ∧ w'.cell? ⟨w.heap.size, 1, none⟩ = some (.int .i64 (f : Int)) ∧ w'.cell? ⟨p, 1, none⟩ = some (.int .i64 (x : Int)) ∧ w'.cell? ⟨p, 2, none⟩ = some (.int .u64 (y : Int)) ∧ Below w2.heap.size w2 w')
        ((refine kS _ ?_; (repeat (with_reducible (first | assumption | exact Below.refl _ _ | refine Below.drew ?_ | refine more ?_ _))); done))
        ((go_at_call 58; refine (refTop3_any e f _ (by omega)).mono ?_; rintro en wX ⟨rfl, hbX⟩; have hWX : Below w2.heap.size w2 wX := (by go_split_ands; exact next (by first | assumption | exact (Below.refl _ _).drew) hbX)))
       go_split_ands
       go_wp2
       go_ret2
       exact ⟨by rw [Hc.out]; rfl, next hW2 (by assumption)⟩
   · rw [if_neg xm] at Hf
     have Hc : Hid (c = 3) := Lib.hid Hf.out
     have l1 : decide ((x : Int) < (maskN e : Int)) = true := decide_eq_true (by omega)
     have l2 : x < maskN e := by omega
     go_region_held3 (fun w' => w'.cell? ⟨w.heap.size, 0, none⟩ = some (.int .i64 (e : Int)) ∧ w'.cell? ⟨w.heap.size, 1, none⟩ = some (.int .i64 (f : Int)) ∧ w'.cell? ⟨p, 1, none⟩ = some (.int .i64 (x : Int)) ∧ w'.cell? ⟨p, 2, none⟩ = some (.int .u64 (y : Int)) ∧ Below w2.heap.size w2 w')
      ((refine kS _ ?_; (repeat (with_reducible (first | assumption | exact Below.refl _ _ | refine Below.drew ?_ | refine more ?_ _))); done))
      ((go_at_call 58; refine (refTop3_any e f _ (by omega)).mono ?_; rintro en wX ⟨rfl, hbX⟩; have hWX : Below w2.heap.size w2 wX := (by go_split_ands; exact next (by first | assumption | exact (Below.refl _ _).drew) hbX)))
     go_split_ands
     go_wp2
     go_ret2
     exact ⟨by rw [Hc.out]; rfl, next hW2 (by assumption)⟩
theorem class_fin {e x y : Nat} (he : 2 ≤ e) : classN e x y ≤ 3 ↔ x ≠ maskN e := by
 have h1 : maskN e ≠ 0 := by
  unfold maskN
  have : 2 ^ 2 ≤ 2 ^ e := Nat.pow_le_pow_right (by decide) he
  omega
 unfold classN
 split
 · rename_i h
   rw [h]
   constructor
   · intro _ hh
     exact h1 hh.symm
   · intro _
     split <;> omega
 · split
   · rename_i h2
     constructor
     · intro h3
       split at h3 <;> omega
     · intro h3
       exact absurd h2 h3
   · rename_i h2
     exact ⟨fun _ => h2, fun _ => by omega⟩
theorem refFinite3_any (e f b : Nat) (w : World) (h : formE (e : Int) (f : Int) = 0) (hb : b < 18446744073709551616) (hp : b < pw (1 + e + f)) :
 Calls Tryz.prog 12 #[.agg #[.int .i64 e, .int .i64 f], .int .u64 b] w fun en w' => en = .returned (.bool (decide (exN e f b ≠ maskN e))) ∧ Below w.heap.size w w' := by
 obtain ⟨h1, h2, h3, h4⟩ := formE_ok h
 have hc := class_fin (e := e) (x := exN e f b) (y := frN f b) (by omega)
 have hcl : ∀ W : World, Calls Tryz.prog 25 #[.agg #[.int .i64 e, .int .i64 f], .int .u64 b] W fun en w' => en = .returned (.tuple #[.int .u8 (classN e (exN e f b) (frN f b) : Int), .int .i64 0]) ∧ Below W.heap.size W w' := fun W => refClass3_any e f b W h hb hp
 generalize classN e (exN e f b) (frN f b) = c at hc hcl
 clear h h1 h2 h3 h4 hp
 by_cases hx : exN e f b ≠ maskN e
 · have h3 : decide ((c : Int) ≤ 3) = true := decide_eq_true (by have := hc.2 hx; omega)
   have h4 : c ≤ 3 := hc.2 hx
   have H : Hid (decide (exN e f b ≠ maskN e) = true) := Lib.hid (decide_eq_true hx)
   clear hc hx
   go_enter Tryz.func12, Tryz.ntmps12
   go_wp2_with fail
   refine (hcl _).mono ?_
   rintro en w1 ⟨rfl, hb1⟩
   go_wp2
   go_ret
   exact ⟨by rw [H.out]; simp, next (more (Below.refl _ _) _) hb1⟩
 · have h4 : ¬ c ≤ 3 := fun hh => hx (hc.1 hh)
   have h3 : decide ((c : Int) ≤ 3) = false := decide_eq_false (by omega)
   have H : Hid (decide (exN e f b ≠ maskN e) = false) := Lib.hid (decide_eq_false hx)
   clear hc hx
   go_enter Tryz.func12, Tryz.ntmps12
   go_wp2_with fail
   refine (hcl _).mono ?_
   rintro en w1 ⟨rfl, hb1⟩
   go_wp2
   go_ret
   exact ⟨by rw [H.out]; simp, next (more (Below.refl _ _) _) hb1⟩
theorem nearSign_any (e f : Nat) (w : World) (h : formE (e : Int) (f : Int) = 0) :
 Calls Tryz.prog 16 #[.agg #[.int .i64 (e : Int), .int .i64 (f : Int)]] w fun en w' => en = .returned (.int .u64 (pw (e + f) : Int)) ∧ Below w.heap.size w w' := by
 obtain ⟨q1, q2, q3, q4⟩ := formE_ok h
 have hw := pw_top (k := e + f) (by omega)
 have ht : ((e : Int) + (f : Int)).toNat = e + f := by omega
 have hm : min (e + f) 64 = e + f := by omega
 have hn : ¬ ((e : Int) + (f : Int) < 0) := by omega
 generalize pw (e + f) = P at hw ⊢
 go_enter Tryz.func16, Tryz.ntmps16
 go_wp2
 refine bodyPost_ret (v := .int .u64 (P : Int)) (by simp [results, Tryz.results16, go_sem]) rfl ⟨rfl, more (Below.refl _ _) _⟩
theorem top63 {e f : Nat} (h : formE (e : Int) (f : Int) = 0) : e + f ≤ 63 ∧ pw (e + f) ≤ 9223372036854775808 := by
 obtain ⟨q1, q2, q3, q4⟩ := formE_ok h
 have h1 : e + f ≤ 63 := by omega
 exact ⟨h1, pw_sixty h1⟩
theorem class_nan {e f b : Nat} (he : 2 ≤ e) : ((classN e (exN e f b) (frN f b) : Int) == 5) = nanB e f b := by
 have h1 : maskN e ≠ 0 := by
  unfold maskN
  have : 2 ^ 2 ≤ 2 ^ e := Nat.pow_le_pow_right (by decide) he
  omega
 unfold classN nanB
 by_cases h0 : exN e f b = 0
 · rw [if_pos h0, decide_eq_false (fun hh => h1 (hh.1.symm.trans h0))]
   split <;> rfl
 · rw [if_neg h0]
   by_cases hm : exN e f b = maskN e
   · rw [if_pos hm]
     by_cases hf : frN f b = 0
     · rw [if_pos hf, decide_eq_false (fun hh => hh.2 hf)]; rfl
     · rw [if_neg hf, decide_eq_true ⟨hm, hf⟩]; rfl
   · rw [if_neg hm, decide_eq_false (fun hh => hm hh.1)]; rfl
theorem class_i (e f : Int) (b : Nat) (w : World) (h : fitsE e f b = 0) (hb : b < 18446744073709551616) :
 Calls Tryz.prog 33 #[.agg #[.int .i64 e, .int .i64 f], .int .u64 (b : Int)] w fun en w' => en = .returned (.tuple #[.int .u8 (classN e.toNat (exN e.toNat f.toNat b) (frN f.toNat b) : Int), .int .i64 0]) ∧ Below w.heap.size w w' := by
 obtain ⟨h1, hp⟩ := fitsE_parts h
 obtain ⟨q1, q2, q3, q4⟩ := formE_ok h1
 obtain ⟨e, rfl⟩ := Int.eq_ofNat_of_zero_le (by omega : 0 ≤ e)
 obtain ⟨f, rfl⟩ := Int.eq_ofNat_of_zero_le (by omega : 0 ≤ f)
 exact class_any e f b w h1 hb hp
def anN (e f : Nat) (l : List Nat) : Bool := l.any (nanB e f)
def anI (e f : Nat) (l : List Nat) : Bool := l.any fun b => decide (exN e f b = maskN e)
theorem nearNumber_any (pl : Nat) (e f : Int) (l : List Nat) (w : World) (h0 : 0 < l.length) (hl : l.length ≤ 1000) (hv : ∀ j, (h : j < l.length) → l[j] < 18446744073709551616 ∧ w.cell? ⟨pl, j, none⟩ = some (.int .u64 (l[j] : Nat))) :
 Calls Tryz.prog 14 #[.agg #[.int .i64 e, .int .i64 f], .slice (some ⟨pl, 0, none⟩) l.length l.length] w fun en w' => en = .returned (.tuple #[.int .i64 (askL e f l), .bool (decide (askL e f l = 0) && !anN e.toNat f.toNat l)]) ∧ Below w.heap.size w w' := by
 go_enter Tryz.func14, Tryz.ntmps14
 go_wp2
 have A0 := box2_new w (.int .i64 e) (.int .i64 f) 23
 have hW0 := more (Below.refl w.heap.size w) (.cells #[.int .i64 e, .int .i64 f] 23)
 generalize w.alloc (.cells #[.int .i64 e, .int .i64 f] 23) = w0 at A0 hW0 ⊢
 go_loopw [4, 5, 15] (fun r s i wr => ∃ k : Nat, k ≤ l.length ∧ i = .int .i64 k ∧ r = .int .i64 0 ∧ s = .bool false ∧ Hid (∀ j, (h1 : j < k) → (h2 : j < l.length) → fitsE e f l[j] = 0) ∧ Below w0.heap.size w0 wr) (fun _ _ i _ => l.length - (intOf i).toNat)
 case atStart => exact ⟨0, by omega, rfl, rfl, rfl, Lib.hid (fun j h1 h2 => absurd h1 (by omega)), Below.refl _ _⟩
 case round =>
  obtain ⟨k, hk, rfl, rfl, rfl, hh, hbr⟩ := hrel
  have hW := next hW0 hbr
  have A := A0.stay hbr
  have ⟨a0, a1⟩ := A
  by_cases hkl : k < l.length
  · obtain ⟨v1, v2⟩ := hv k hkl
    have d0 := cellStay v2 hW
    have hat := @askL_at e f l k hkl (fun j h => hh.out j h (by omega))
    have cM := fun W => fits_any e f l[k] W v1
    by_cases hE : fitsE e f l[k] = 0
    · have hh' : Hid (∀ j, (h1 : j < k + 1) → (h2 : j < l.length) → fitsE e f l[j] = 0) := Lib.hid fun j h1 h2 => by
       rcases (by omega : j < k ∨ j = k) with h | rfl
       · exact hh.out j h h2
       · exact hE
      rw [hE] at cM
      clear hat hh hE
      go_wp2_with (go_at_call 32; refine (cM _).mono ?_; rintro en w1 ⟨rfl, hb1⟩; have hn1 := next hbr hb1)
      exact ⟨⟨k + 1, by omega, rfl, rfl, rfl, hh', hn1⟩, by simp [intOf]; omega⟩
    · have hm : askL e f l = fitsE e f l[k] := hat hE
      have hB : (fitsE e f l[k] != 0) = true := by simp [hE]
      have HM := Lib.hid hm
      clear hat hh hm
      generalize fitsE e f l[k] = E at *
      go_wp2_with (go_at_call 32; refine (cM _).mono ?_; rintro en w1 ⟨rfl, hb1⟩)
      refine bodyPost_ret (v := .tuple #[.int .i64 E, .bool false]) (by simp [results, Tryz.results14, go_sem]) rfl ⟨by rw [HM.out, decide_eq_false hE]; rfl, next hW hb1⟩
  · have hfit : ∀ j, (h : j < l.length) → fitsE e f l[j] = 0 := fun j h => hh.out j (by omega) h
    have hok : askL e f l = 0 := askL_ok hfit
    have HM := Lib.hid hok
    have HF := Lib.hid hfit
    have he2 : 2 ≤ e.toNat := by
     have := formE_ok (fitsE_parts (hfit 0 h0)).1
     omega
    clear hh hok hfit
    go_wp2
    generalize wr = w2 at *
    go_loopw [4, 5, 28] (fun r s i wr => ∃ k : Nat, k ≤ l.length ∧ i = .int .i64 k ∧ r = .int .i64 0 ∧ s = .bool false ∧ Hid (∀ j, (h1 : j < k) → (h2 : j < l.length) → nanB e.toNat f.toNat l[j] = false) ∧ Below w0.heap.size w0 wr) (fun _ _ i _ => l.length - (intOf i).toNat)
    case atStart => exact ⟨0, by omega, rfl, rfl, rfl, Lib.hid (fun j h1 h2 => absurd h1 (by omega)), hbr⟩
    case round =>
     obtain ⟨n, hn, rfl, rfl, rfl, hg, hbs⟩ := hrel
     have hX := next hW0 hbs
     have A' := A0.stay hbs
     have ⟨a0', a1'⟩ := A'
     by_cases hnl : n < l.length
     · obtain ⟨v1, v2⟩ := hv n hnl
       have d0 := cellStay v2 hX
       have cC := fun W => class_i e f l[n] W (HF.out n hnl) v1
       have hc5 := class_nan (f := f.toNat) (b := l[n]) he2
       cases hN : nanB e.toNat f.toNat l[n]
       · have hg' : Hid (∀ j, (h1 : j < n + 1) → (h2 : j < l.length) → nanB e.toNat f.toNat l[j] = false) := Lib.hid fun j h1 h2 => by
          rcases (by omega : j < n ∨ j = n) with h | rfl
          · exact hg.out j h h2
          · exact hN
         rw [hN] at hc5
         clear hg hN
         generalize classN e.toNat (exN e.toNat f.toNat l[n]) (frN f.toNat l[n]) = cc at *
         go_wp2_with (go_at_call 33; refine (cC _).mono ?_; rintro en w1 ⟨rfl, hb1⟩; have hn1 := next hbs hb1)
         exact ⟨⟨n + 1, by omega, rfl, rfl, rfl, hg', hn1⟩, by simp [intOf]; omega⟩
       · have hany : anN e.toNat f.toNat l = true := List.any_eq_true.2 ⟨l[n], List.getElem_mem hnl, hN⟩
         have HA := Lib.hid hany
         rw [hN] at hc5
         clear hg hN hany
         generalize classN e.toNat (exN e.toNat f.toNat l[n]) (frN f.toNat l[n]) = cc at *
         go_wp2_with (go_at_call 33; refine (cC _).mono ?_; rintro en w1 ⟨rfl, hb1⟩; have hn1 := next hbs hb1)
         refine bodyPost_ret (v := .tuple #[.int .i64 0, .bool false]) (by simp [results, Tryz.results14, go_sem]) rfl ⟨by rw [HM.out, HA.out]; rfl, next hW0 hn1⟩
     · have hany : anN e.toNat f.toNat l = false := by
        unfold anN
        rw [List.any_eq_false]
        intro x hx
        obtain ⟨j, hj, rfl⟩ := List.getElem_of_mem hx
        rw [hg.out j (by omega) hj]
        decide
       have HA := Lib.hid hany
       clear hg hany
       go_wp2
       refine bodyPost_ret (v := .tuple #[.int .i64 0, .bool true]) (by simp [results, Tryz.results14, go_sem]) rfl ⟨by rw [HM.out, HA.out]; rfl, hX⟩
def fnE (e f : Int) (l : List Nat) : Int := if askL e f l ≠ 0 then askL e f l else if anI e.toNat f.toNat l = true then 8 else 0
theorem nearFinite_any (pl : Nat) (e f : Int) (l : List Nat) (w : World) (h0 : 0 < l.length) (hl : l.length ≤ 1000) (hv : ∀ j, (h : j < l.length) → l[j] < 18446744073709551616 ∧ w.cell? ⟨pl, j, none⟩ = some (.int .u64 (l[j] : Nat))) :
 Calls Tryz.prog 15 #[.agg #[.int .i64 e, .int .i64 f], .slice (some ⟨pl, 0, none⟩) l.length l.length] w fun en w' => en = .returned (.int .i64 (fnE e f l)) ∧ Below w.heap.size w w' := by
 have A0 := box2_new w (.int .i64 e) (.int .i64 f) 23
 have hW0 := more (Below.refl w.heap.size w) (.cells #[.int .i64 e, .int .i64 f] 23)
 have cN := fun W hv => nearNumber_any pl e f l W h0 hl hv
 have hfit : askL e f l = 0 → ∀ j, (h : j < l.length) → fitsE e f l[j] = 0 := fun hok j hj => by
  by_cases hE : fitsE e f l[j] = 0
  · exact hE
  · exfalso
    have : ∀ (l : List Nat) (j : Nat) (hj : j < l.length), askL e f l = 0 → fitsE e f l[j] = 0 := by
     intro l
     induction l with
     | nil => intro j hj; simp at hj
     | cons a t ih =>
       intro j hj h
       have h' : (if fitsE e f a ≠ 0 then fitsE e f a else askL e f t) = 0 := h
       by_cases ha : fitsE e f a = 0
       · rw [if_neg (by simp [ha])] at h'
         cases j with
         | zero => exact ha
         | succ j => exact ih j (by simp at hj; omega) h'
       · rw [if_pos ha] at h'
         exact absurd h' ha
    exact hE (this l j hj hok)
 generalize hZ : (decide (askL e f l = 0) && !anN e.toNat f.toNat l) = is at cN
 by_cases hok : askL e f l = 0
 · have hF := hfit hok
   have he2 : 2 ≤ e.toNat := by
    have := formE_ok (fitsE_parts (hF 0 h0)).1
    omega
   have hA : fnE e f l = if anI e.toNat f.toNat l = true then 8 else 0 := if_neg (by simp [hok])
   have HM := Lib.hid hA
   rw [hok] at cN
   have HF := Lib.hid hF
   clear hF hfit hA hok hZ
   go_enter Tryz.func15, Tryz.ntmps15
   go_wp2_with fail
   refine (cN _ (fun j hj => ⟨(hv j hj).1, cellStay (hv j hj).2 hW0⟩)).mono ?_
   rintro en w1 ⟨rfl, hb1⟩
   have hW1 := next hW0 hb1
   have A1 := A0.stay hb1
   have ⟨b0, b1⟩ := A1
   clear A0 hb1 cN hW0
   go_wp2
   go_loopw [4, 22] (fun r i wr => ∃ k : Nat, k ≤ l.length ∧ i = .int .i64 k ∧ r = .int .i64 0 ∧ Hid (∀ j, (h1 : j < k) → (h2 : j < l.length) → exN e.toNat f.toNat l[j] ≠ maskN e.toNat) ∧ Below w1.heap.size w1 wr) (fun _ i _ => l.length - (intOf i).toNat)
   case atStart => exact ⟨0, by omega, rfl, rfl, Lib.hid (fun j h1 h2 => absurd h1 (by omega)), Below.refl _ _⟩
   case round =>
    obtain ⟨n, hn, rfl, rfl, hg, hbs⟩ := hrel
    have hX := next hW1 hbs
    have A' := A1.stay hbs
    have ⟨a0', a1'⟩ := A'
    by_cases hnl : n < l.length
    · obtain ⟨v1, v2⟩ := hv n hnl
      have d0 := cellStay v2 hX
      have cC := fun W => class_i e f l[n] W (HF.out n hnl) v1
      have hc3 := class_fin (x := exN e.toNat f.toNat l[n]) (y := frN f.toNat l[n]) he2
      by_cases hN : exN e.toNat f.toNat l[n] = maskN e.toNat
      · have hany : anI e.toNat f.toNat l = true := List.any_eq_true.2 ⟨l[n], List.getElem_mem hnl, decide_eq_true hN⟩
        have HA := Lib.hid hany
        have hc : ¬ classN e.toNat (exN e.toNat f.toNat l[n]) (frN f.toNat l[n]) ≤ 3 := fun hh => hc3.1 hh hN
        clear hg hN hany hc3
        generalize classN e.toNat (exN e.toNat f.toNat l[n]) (frN f.toNat l[n]) = cc at *
        have hc' : (3 : Int) < (cc : Int) := by omega
        go_wp2_with (go_at_call 33; refine (cC _).mono ?_; rintro en w2 ⟨rfl, hb2⟩; have hn1 := next hbs hb2)
        refine bodyPost_ret (v := .int .i64 8) (by simp [results, Tryz.results15, go_sem]) rfl ⟨by rw [HM.out, HA.out]; rfl, next hW1 hn1⟩
      · have hc := hc3.2 hN
        have hg' : Hid (∀ j, (h1 : j < n + 1) → (h2 : j < l.length) → exN e.toNat f.toNat l[j] ≠ maskN e.toNat) := Lib.hid fun j h1 h2 => by
         rcases (by omega : j < n ∨ j = n) with h | rfl
         · exact hg.out j h h2
         · exact hN
        clear hg hN hc3
        generalize classN e.toNat (exN e.toNat f.toNat l[n]) (frN f.toNat l[n]) = cc at *
        have hc' : ¬ (3 : Int) < (cc : Int) := by omega
        go_wp2_with (go_at_call 33; refine (cC _).mono ?_; rintro en w2 ⟨rfl, hb2⟩; have hn1 := next hbs hb2)
        exact ⟨⟨n + 1, by omega, rfl, rfl, hg', hn1⟩, by simp [intOf]; omega⟩
    · have hany : anI e.toNat f.toNat l = false := by
       unfold anI
       rw [List.any_eq_false]
       intro x hx
       obtain ⟨j, hj, rfl⟩ := List.getElem_of_mem hx
       simp [hg.out j (by omega) hj]
      have HA := Lib.hid hany
      clear hg hany
      go_wp2
      refine bodyPost_ret (v := .int .i64 0) (by simp [results, Tryz.results15, go_sem]) rfl ⟨by rw [HM.out, HA.out]; rfl, hX⟩
 · have hA : fnE e f l = askL e f l := if_pos hok
   rw [hA]
   have hB : (askL e f l != 0) = true := by simp [hok]
   clear hfit hA hZ
   generalize askL e f l = E at *
   go_enter Tryz.func15, Tryz.ntmps15
   go_wp2_with fail
   refine (cN _ (fun j hj => ⟨(hv j hj).1, cellStay (hv j hj).2 hW0⟩)).mono ?_
   rintro en w1 ⟨rfl, hb1⟩
   go_wp2
   refine bodyPost_ret (v := .int .i64 E) (by simp [results, Tryz.results15, go_sem]) rfl ⟨rfl, next hW0 hb1⟩
end Go.Proofs.YtpmncmglmobjoaaGreatDoor
