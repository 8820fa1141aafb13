/-
  The walks of forms.place.take, forms.Split, and of the reference's Fields: bits taken apart. The walks of forms.Split of bits that may not be, and of forms.Class. The walk of the reference's Fields: bits taken apart. The walks of nat.Of and the reference's Of: a number of 64 bits.
-/
import Derived.Test.YtmiheaoojmgalaaDoorForms
import Derived.Test.YtmiheaoojmgalaaDoorBoxes
import Derived.Deep.RegionHeld3
import Derived.Test.YtmiheaoojmgalaaDoorMakes
namespace Go.Proofs.YtmiheaoojmgalaaDoor
open Go.RowKit Go.Lb

/-- A field of bits. (No simp rule looks into it.) -/
def takeN (b fr sz : Nat) : Nat := b / pw fr % pw sz

theorem and_mask {b sz : Nat} (hs : sz ≤ 64) (hb : b < 18446744073709551616) : bits BinOp.and IntKind.u64 (b : Int) (maskN sz : Int) = ((b % pw sz : Nat) : Int) := by
  have h64 : pw 64 = 18446744073709551616 := by unfold pw; rfl
  have hm : maskN sz < 18446744073709551616 := by
    have := pw_le hs
    have := pw_pos sz
    rw [maskN_eq]
    omega
  rw [u64_and_nat _ _ hb hm]
  unfold maskN pw
  rw [Nat.and_two_pow_sub_one_eq_mod]

set_option maxRecDepth 100000 in
set_option maxHeartbeats 800000 in
theorem take_any (fr sz b : Nat) (w : World) (hs : fr + sz ≤ 64) (hb : b < 18446744073709551616) :
    Calls Tryd.prog 86 #[.agg #[.int .i64 fr, .int .i64 sz], .int .u64 b] w fun en w' => en = .returned (.int .u64 (takeN b fr sz : Int)) ∧ Below w.heap.size w w' := by
  have hq : b / 2 ^ fr < 18446744073709551616 := Nat.lt_of_le_of_lt (Nat.div_le_self _ _) hb
  have e1 := int_div_pow b fr
  have e2 := and_mask (b := b / 2 ^ fr) (sz := sz) (by omega) hq
  have E2 := Lib.hid e2
  have E1 := Lib.hid e1
  clear e1 e2
  go_enter Tryd.func86, Tryd.ntmps86
  go_wp2_with (go_at_call 87; refine (mask_any sz _ (by omega)).mono ?_; rintro en w1 ⟨rfl, rfl⟩)
  go_ret
  exact ⟨congrArg (fun q => Ending.returned (Value.int IntKind.u64 q)) (by rw [E1.out, E2.out]; unfold takeN pw; rfl), more (Below.refl _ _) _⟩

theorem takeN_lt (b fr sz : Nat) : takeN b fr sz < pw sz := Nat.mod_lt _ (pw_pos sz)

/-- The sign, the exponent's bits, the fraction's bits. -/
def sgB (e f b : Nat) : Bool := decide (takeN b (f + e) 1 ≠ 0)
def exN (e f b : Nat) : Nat := takeN b f e
def frN (f b : Nat) : Nat := takeN b 0 f

theorem take0_any (sz b : Nat) (w : World) (hs : sz ≤ 64) (hb : b < 18446744073709551616) :
    Calls Tryd.prog 86 #[.agg #[.int .i64 0, .int .i64 sz], .int .u64 b] w fun en w' => en = .returned (.int .u64 (frN sz b : Int)) ∧ Below w.heap.size w w' := take_any 0 sz b w (by omega) hb

theorem takeTop_any (e f b : Nat) (w : World) (hs : f + e + 1 ≤ 64) (hb : b < 18446744073709551616) :
    Calls Tryd.prog 86 #[.agg #[.int .i64 ((f : Int) + (e : Int)), .int .i64 1], .int .u64 b] w fun en w' => en = .returned (.int .u64 (takeN b (f + e) 1 : Int)) ∧ Below w.heap.size w w' := by
  have h := take_any (f + e) 1 b w hs hb
  rw [show ((f + e : Nat) : Int) = (f : Int) + (e : Int) from by omega] at h
  exact h

/-- What stays through Split's last statement: the layout, the result's cells. -/
structure SplitK (e f h p : Nat) (w w' : World) : Prop where
  a0 : w'.cell? ⟨p, 0, none⟩ = some (.int .i64 0)
  a1 : w'.cell? ⟨p, 1, none⟩ = some (.int .i64 f)
  a2 : w'.cell? ⟨p, 2, none⟩ = some (.int .i64 f)
  a3 : w'.cell? ⟨p, 3, none⟩ = some (.int .i64 e)
  a4 : w'.cell? ⟨p, 4, none⟩ = some (.int .i64 (↑f + ↑e))
  a5 : w'.cell? ⟨p, 5, none⟩ = some (.int .i64 1)
  bel : Below w.heap.size w w'
  res : Res3 w' (h + 1)
  lt : h + 1 < p
  le : w.heap.size ≤ h

theorem SplitK.stay {e f h p : Nat} {w wp w' : World} (k : SplitK e f h p w wp) (hb : Below wp.heap.size wp w') : SplitK e f h p w w' :=
  ⟨cellStay k.a0 hb, cellStay k.a1 hb, cellStay k.a2 hb, cellStay k.a3 hb, cellStay k.a4 hb, cellStay k.a5 hb, next k.bel hb, k.res.stay hb, k.lt, k.le⟩
theorem SplitK.drew {e f h p : Nat} {w wp : World} (k : SplitK e f h p w wp) : SplitK e f h p w wp.drew := k.stay ((Below.refl _ _).drew)
theorem SplitK.set {e f h p : Nat} {w wp : World} (k : SplitK e f h p w wp) (u v x : Value) : SplitK e f h p w (((wp.setCell ⟨h + 1, 0, none⟩ u).setCell ⟨h + 1, 1, none⟩ v).setCell ⟨h + 1, 2, none⟩ x) := by
  have hne : p ≠ h + 1 := by have := k.lt; omega
  have hle := k.le
  exact ⟨(cell_set3 hne u v x).trans k.a0, (cell_set3 hne u v x).trans k.a1, (cell_set3 hne u v x).trans k.a2, (cell_set3 hne u v x).trans k.a3, (cell_set3 hne u v x).trans k.a4, (cell_set3 hne u v x).trans k.a5,
    ((k.bel.setCell (by simp; omega) _).setCell (by simp; omega) _).setCell (by simp; omega) _, k.res.set u v x, k.lt, k.le⟩
theorem SplitK.conj {e f h p : Nat} {w w' : World} (k : SplitK e f h p w w') :
    w'.cell? ⟨p, 0, none⟩ = some (.int .i64 0) ∧ w'.cell? ⟨p, 1, none⟩ = some (.int .i64 f) ∧ w'.cell? ⟨p, 2, none⟩ = some (.int .i64 f) ∧ w'.cell? ⟨p, 3, none⟩ = some (.int .i64 e) ∧ w'.cell? ⟨p, 4, none⟩ = some (.int .i64 (↑f + ↑e)) ∧ w'.cell? ⟨p, 5, none⟩ = some (.int .i64 1) ∧
    w'.cell? ⟨h + 1, 0, none⟩ = some (cellOf w' (h + 1) 0) ∧ w'.cell? ⟨h + 1, 1, none⟩ = some (cellOf w' (h + 1) 1) ∧ w'.cell? ⟨h + 1, 2, none⟩ = some (cellOf w' (h + 1) 2) ∧
    w'.frozen? ⟨h + 1, 0, none⟩ = false ∧ w'.frozen? ⟨h + 1, 1, none⟩ = false ∧ w'.frozen? ⟨h + 1, 2, none⟩ = false ∧ SplitK e f h p w w' :=
  ⟨k.a0, k.a1, k.a2, k.a3, k.a4, k.a5, k.res.c0, k.res.c1, k.res.c2, k.res.z0, k.res.z1, k.res.z2, k⟩

set_option maxRecDepth 100000 in
set_option maxHeartbeats 6000000 in
theorem split_any (e f b : Nat) (w : World) (h : formE (e : Int) (f : Int) = 0) (hb : b < 18446744073709551616) (hp : b < pw (1 + e + f)) :
    Calls Tryd.prog 56 #[.agg #[.int .i64 e, .int .i64 f], .int .u64 b] w fun en w' => en = .returned (.tuple #[.agg #[.bool (sgB e f b), .int .i64 (exN e f b), .int .u64 (frN f b)], .int .i64 0]) ∧ Below w.heap.size w w' := by
  obtain ⟨h1, h2, h3, h4⟩ := formE_ok h
  have g1 : 2 ≤ e := by omega
  have g2 : e ≤ 11 := by omega
  have g3 : f ≤ 52 := by omega
  have hfit := fitsE_ok h hp
  have hz : (fitsE (e : Int) (f : Int) b != 0) = false := by simp [hfit]
  clear h h1 h2 h3 h4 hfit
  go_enter Tryd.func56, Tryd.ntmps56
  go_wp2_with (first
    | (go_at_call 67; refine (fits_any e f b _ hb).mono ?_; rintro en w1 ⟨rfl, hb1⟩; have A := ((box2_new w (.int .i64 (e : Int)) (.int .i64 (f : Int)) 23).alloc _).stay hb1; have ⟨c0, c1⟩ := A; have B := (box3_new _ _ _ _ _).stay hb1; rw [World.size_alloc] at B; have hW := next (more (more (Below.refl _ _) _) _) hb1)
    | (go_at_call 85; refine (layout_any e f _ g2 g3).mono ?_; rintro en w2 ⟨rfl, hb2⟩; replace B := B.stay hb2; replace hW := next hW hb2))
  have hK : SplitK e f w.heap.size w2.heap.size w (w2.alloc (.cells #[.int .i64 0, .int .i64 f, .int .i64 f, .int .i64 e, .int .i64 (↑f + ↑e), .int .i64 1] 119)) := ⟨by simp, by simp, by simp, by simp, by simp, by simp, more hW _, (B.alloc _).res, B.lt, Nat.le_refl _⟩
  clear c0 c1 hb1 hb2 A B hW
  go_region_held3 (fun w' => w'.cell? ⟨w2.heap.size, 0, none⟩ = some (.int .i64 0) ∧ w'.cell? ⟨w2.heap.size, 1, none⟩ = some (.int .i64 f) ∧ w'.cell? ⟨w2.heap.size, 2, none⟩ = some (.int .i64 f) ∧ w'.cell? ⟨w2.heap.size, 3, none⟩ = some (.int .i64 e) ∧ w'.cell? ⟨w2.heap.size, 4, none⟩ = some (.int .i64 (↑f + ↑e)) ∧ w'.cell? ⟨w2.heap.size, 5, none⟩ = some (.int .i64 1) ∧ w'.cell? ⟨w.heap.size + 1, 0, none⟩ = some (cellOf w' (w.heap.size + 1) 0) ∧ w'.cell? ⟨w.heap.size + 1, 1, none⟩ = some (cellOf w' (w.heap.size + 1) 1) ∧ w'.cell? ⟨w.heap.size + 1, 2, none⟩ = some (cellOf w' (w.heap.size + 1) 2) ∧ w'.frozen? ⟨w.heap.size + 1, 0, none⟩ = false ∧ w'.frozen? ⟨w.heap.size + 1, 1, none⟩ = false ∧ w'.frozen? ⟨w.heap.size + 1, 2, none⟩ = false ∧ SplitK e f w.heap.size w2.heap.size w w')
    ((first | exact SplitK.conj hK.drew | (go_split_ands; exact SplitK.conj (SplitK.stay (by assumption) hbB)) | (go_split_ands; exact SplitK.conj (SplitK.set (by assumption) _ _ _)) | (go_keep; done)))
    (first | (go_at_call 86; (with_reducible refine (take0_any f b _ (by omega) hb).mono ?_); rintro en wB ⟨rfl, hbB⟩) | (go_at_call 86; (with_reducible refine (take_any f e b _ (by omega) hb).mono ?_); rintro en wB ⟨rfl, hbB⟩) | (go_at_call 86; (with_reducible refine (takeTop_any e f b _ (by omega) hb).mono ?_); rintro en wB ⟨rfl, hbB⟩))
  go_wp2
  have KB : SplitK e f w.heap.size w2.heap.size w wB := SplitK.stay (SplitK.stay (SplitK.stay hK.drew (by assumption)) (by assumption)) hbB
  have hex : IntKind.i64.wrap (takeN b f e : Int) = (exN e f b : Int) := IntWalk.i64_in _ (by have := takeN_lt b f e; have := pw_le g2; have e11 : pw 11 = 2048 := (by unfold pw; rfl); constructor <;> omega)
  have hsg : ((takeN b (f + e) 1 : Int) != 0) = sgB e f b := by unfold sgB; rw [Bool.eq_iff_iff]; simp
  have KS := KB.set (.bool ((takeN b (f + e) 1 : Int) != 0)) (.int .i64 (IntKind.i64.wrap (takeN b f e : Int))) (.int .u64 (frN f b : Int))
  obtain ⟨t0, t1, t2⟩ := KB.res.box.set (.bool ((takeN b (f + e) 1 : Int) != 0)) (.int .i64 (IntKind.i64.wrap (takeN b f e : Int))) (.int .u64 (frN f b : Int))
  refine bodyPost_ret (v := .tuple #[.agg #[.bool ((takeN b (f + e) 1 : Int) != 0), .int .i64 (IntKind.i64.wrap (takeN b f e : Int)), .int .u64 (frN f b : Int)], .int .i64 0]) ?_ rfl ⟨by rw [hex, hsg], KS.bel⟩
  clear KS
  simp only [results, Tryd.results56]
  simp [go_sem, t0, t1, t2]

end Go.Proofs.YtmiheaoojmgalaaDoor

namespace Go.Proofs.YtmiheaoojmgalaaDoor
open Go.RowKit Go.Lb

set_option maxRecDepth 100000 in
set_option maxHeartbeats 800000 in
theorem split_no (e f : Int) (b : Nat) (w : World) (h : fitsE e f b ≠ 0) (hb : b < 18446744073709551616) :
    Calls Tryd.prog 56 #[.agg #[.int .i64 e, .int .i64 f], .int .u64 b] w fun en w' => en = .returned (.tuple #[.agg #[.bool false, .int .i64 0, .int .u64 0], .int .i64 (fitsE e f b)]) ∧ Below w.heap.size w w' := by
  have hz : (fitsE e f b != 0) = true := by simp [h]
  clear h
  go_enter Tryd.func56, Tryd.ntmps56
  go_wp2_with (go_at_call 67; refine (fits_any e f b _ hb).mono ?_; rintro en w1 ⟨rfl, hb1⟩; have B := (box3_new _ _ _ _ _).stay hb1; rw [World.size_alloc] at B; have ⟨b0, b1, b2, z0, z1, z2⟩ := B; have hW := next (more (more (Below.refl _ _) _) _) hb1)
  obtain ⟨t0, t1, t2⟩ := B.set (.bool false) (.int .i64 0) (.int .u64 0)
  refine bodyPost_ret (v := .tuple #[.agg #[.bool false, .int .i64 0, .int .u64 0], .int .i64 (fitsE e f b)]) (by simp [results, Tryd.results56, go_sem, t0, t1, t2]) rfl ⟨rfl, ((hW.setCell (by simp) _).setCell (by simp) _).setCell (by simp) _⟩

/-- A float's class: nought, subnormal, normal, infinite, none. -/
def classN (e ex fr : Nat) : Nat := if ex = 0 then (if fr = 0 then 1 else 2) else if ex = maskN e then (if fr = 0 then 4 else 5) else 3

theorem exN_lt (e f b : Nat) : exN e f b < pw e := takeN_lt b f e
theorem maskN_lt11 {e : Nat} (h : e ≤ 11) : maskN e ≤ 2047 := by
  have := pw_le h
  have e11 : pw 11 = 2048 := by unfold pw; rfl
  rw [maskN_eq]; omega

set_option maxRecDepth 100000 in
set_option maxHeartbeats 2000000 in
theorem class_any (e f b : Nat) (w : World) (h : formE (e : Int) (f : Int) = 0) (hb : b < 18446744073709551616) (hp : b < pw (1 + e + f)) :
    Calls Tryd.prog 57 #[.agg #[.int .i64 e, .int .i64 f], .int .u64 b] w fun en w' => en = .returned (.tuple #[.int .u8 (classN e (exN e f b) (frN f b)), .int .i64 0]) ∧ Below w.heap.size w w' := by
  obtain ⟨h1, h2, h3, h4⟩ := formE_ok h
  have g2 : e ≤ 11 := by omega
  have hm := maskN_lt11 g2
  have hex : exN e f b ≤ 2047 := by have := exN_lt e f b; have := pw_le g2; have e11 : pw 11 = 2048 := (by unfold pw; rfl); omega
  have hw : IntKind.u64.wrap (exN e f b : Int) = (exN e f b : Int) := IntWalk.u64_in _ (by omega)
  have sp := split_any e f b
  obtain ⟨ex, hexd⟩ : ∃ ex, ex = exN e f b := ⟨_, rfl⟩
  obtain ⟨fr, hfrd⟩ : ∃ fr, fr = frN f b := ⟨_, rfl⟩
  rw [← hexd, ← hfrd] at sp
  rw [← hexd] at hex hw
  rw [← hexd, ← hfrd]
  clear hexd hfrd
  have way : ∀ k : Nat, classN e ex fr = k → (ex = 0 ∧ fr = 0 ∧ k = 1 ∨ ex = 0 ∧ fr ≠ 0 ∧ k = 2 ∨ ex ≠ 0 ∧ ex = maskN e ∧ fr = 0 ∧ k = 4 ∨ ex ≠ 0 ∧ ex = maskN e ∧ fr ≠ 0 ∧ k = 5 ∨ ex ≠ 0 ∧ ex ≠ maskN e ∧ k = 3) := fun k hk => by
    unfold classN at hk
    by_cases c1 : ex = 0
    · by_cases c2 : fr = 0
      · rw [if_pos c1, if_pos c2] at hk; omega
      · rw [if_pos c1, if_neg c2] at hk; omega
    · by_cases c3 : ex = maskN e
      · by_cases c2 : fr = 0
        · rw [if_neg c1, if_pos c3, if_pos c2] at hk; omega
        · rw [if_neg c1, if_pos c3, if_neg c2] at hk; omega
      · rw [if_neg c1, if_neg c3] at hk; omega
  obtain ⟨k, hk⟩ : ∃ k, k = classN e ex fr := ⟨_, rfl⟩
  have wy := way k hk.symm
  rw [← hk]
  clear way hk
  rcases wy with ⟨c1, c2, rfl⟩ | ⟨c1, c2, rfl⟩ | ⟨c1, c2, c3, rfl⟩ | ⟨c1, c2, c3, rfl⟩ | ⟨c1, c2, rfl⟩
  all_goals
    have hx0 : ((ex : Int) == 0) = decide (ex = 0) := by rw [Bool.eq_iff_iff]; simp
    have hxm : ((ex : Int) == (maskN e : Int)) = decide (ex = maskN e) := by rw [Bool.eq_iff_iff]; simp; omega
    have hf0 : ((fr : Int) == 0) = decide (fr = 0) := by rw [Bool.eq_iff_iff]; simp
  · rw [decide_eq_true c1] at hx0
    rw [decide_eq_true c2] at hf0
    clear hxm c1 c2
    go_enter Tryd.func57, Tryd.ntmps57
    go_wp2_with (first
      | (go_at_call 56; refine (sp _ h hb hp).mono ?_; rintro en w1 ⟨rfl, hb1⟩; have A := (box2_new w (.int .i64 (e : Int)) (.int .i64 (f : Int)) 23).stay hb1; have ⟨a0, a1⟩ := A; have hl := A.lt; have hW := next (more (Below.refl _ _) _) hb1)
      | (go_at_call 87; refine (mask_any e _ (by omega)).mono ?_; rintro en w2 ⟨rfl, rfl⟩))
    go_ret2
    exact ⟨rfl, more hW _⟩
  · rw [decide_eq_true c1] at hx0
    rw [decide_eq_false c2] at hf0
    clear hxm c1 c2
    go_enter Tryd.func57, Tryd.ntmps57
    go_wp2_with (first
      | (go_at_call 56; refine (sp _ h hb hp).mono ?_; rintro en w1 ⟨rfl, hb1⟩; have A := (box2_new w (.int .i64 (e : Int)) (.int .i64 (f : Int)) 23).stay hb1; have ⟨a0, a1⟩ := A; have hl := A.lt; have hW := next (more (Below.refl _ _) _) hb1)
      | (go_at_call 87; refine (mask_any e _ (by omega)).mono ?_; rintro en w2 ⟨rfl, rfl⟩))
    go_ret2
    exact ⟨rfl, more hW _⟩
  · rw [decide_eq_false c1] at hx0
    rw [decide_eq_true c2] at hxm
    rw [decide_eq_true c3] at hf0
    clear c1 c2 c3
    go_enter Tryd.func57, Tryd.ntmps57
    go_wp2_with (first
      | (go_at_call 56; refine (sp _ h hb hp).mono ?_; rintro en w1 ⟨rfl, hb1⟩; have A := (box2_new w (.int .i64 (e : Int)) (.int .i64 (f : Int)) 23).stay hb1; have ⟨a0, a1⟩ := A; have hl := A.lt; have hW := next (more (Below.refl _ _) _) hb1)
      | (go_at_call 87; refine (mask_any e _ (by omega)).mono ?_; rintro en w2 ⟨rfl, rfl⟩))
    go_ret2
    exact ⟨rfl, more hW _⟩
  · rw [decide_eq_false c1] at hx0
    rw [decide_eq_true c2] at hxm
    rw [decide_eq_false c3] at hf0
    clear c1 c2 c3
    go_enter Tryd.func57, Tryd.ntmps57
    go_wp2_with (first
      | (go_at_call 56; refine (sp _ h hb hp).mono ?_; rintro en w1 ⟨rfl, hb1⟩; have A := (box2_new w (.int .i64 (e : Int)) (.int .i64 (f : Int)) 23).stay hb1; have ⟨a0, a1⟩ := A; have hl := A.lt; have hW := next (more (Below.refl _ _) _) hb1)
      | (go_at_call 87; refine (mask_any e _ (by omega)).mono ?_; rintro en w2 ⟨rfl, rfl⟩))
    go_ret2
    exact ⟨rfl, more hW _⟩
  · rw [decide_eq_false c1] at hx0
    rw [decide_eq_false c2] at hxm
    clear hf0 c1 c2
    go_enter Tryd.func57, Tryd.ntmps57
    go_wp2_with (first
      | (go_at_call 56; refine (sp _ h hb hp).mono ?_; rintro en w1 ⟨rfl, hb1⟩; have A := (box2_new w (.int .i64 (e : Int)) (.int .i64 (f : Int)) 23).stay hb1; have ⟨a0, a1⟩ := A; have hl := A.lt; have hW := next (more (Below.refl _ _) _) hb1)
      | (go_at_call 87; refine (mask_any e _ (by omega)).mono ?_; rintro en w2 ⟨rfl, rfl⟩))
    go_ret2
    exact ⟨rfl, more hW _⟩

end Go.Proofs.YtmiheaoojmgalaaDoor

namespace Go.Proofs.YtmiheaoojmgalaaDoor
open Go.RowKit Go.Lb

theorem pw_u64 {f : Nat} (hf : f ≤ 52) : IntKind.u64.wrap (2 ^ f) = ((pw f : Nat) : Int) := by
  have hp : pw f ≤ 4503599627370496 := by have := pw_le hf; rw [show pw 52 = 4503599627370496 by unfold pw; rfl] at this; exact this
  rw [show (2 : Int) ^ f = ((pw f : Nat) : Int) by unfold pw; rw [Int.natCast_pow]; rfl]
  exact IntWalk.u64_in _ (by omega)

set_option maxRecDepth 100000 in
set_option maxHeartbeats 1600000 in
theorem refFields_any (e f b : Nat) (w : World) (he : e ≤ 11) (hf : f ≤ 52) (hb : b < 18446744073709551616) (hp : b < pw (1 + e + f)) :
    Calls Tryd.prog 96 #[.agg #[.int .i64 e, .int .i64 f], .int .u64 b] w fun en w' => en = .returned (.tuple #[.bool (sgB e f b), .int .i64 (exN e f b), .int .u64 (frN f b)]) ∧ Below w.heap.size w w' := by
  have ht : ((e : Int) + (f : Int)).toNat = e + f := by omega
  have wf := pw_u64 hf
  have we := pw_u64 (show e ≤ 52 by omega)
  have hpf := pw_pos f
  have hpe := pw_pos e
  have n1 : ¬ IntKind.u64.wrap (2 ^ f) = 0 := by rw [wf]; omega
  have n2 : ¬ IntKind.u64.wrap (2 ^ e) = 0 := by rw [we]; omega
  have e1 : ((b : Int) / 2 ^ (e + f) == 1) = sgB e f b := by
    rw [int_div_pow]
    unfold sgB takeN
    have h1 : b / pw (f + e) < 2 := by
      refine Nat.div_lt_of_lt_mul ?_
      rw [Nat.add_comm f e, Nat.mul_comm, ← pw_succ, show e + f + 1 = 1 + e + f by omega]
      exact hp
    have h2 : b / 2 ^ (e + f) = b / pw (f + e) := by unfold pw; rw [Nat.add_comm]
    rw [h2, show pw 1 = 2 by unfold pw; rfl, Nat.mod_eq_of_lt h1]
    generalize b / pw (f + e) = q at h1 ⊢
    rcases (by omega : q = 0 ∨ q = 1) with rfl | rfl <;> rfl
  have e2 : wrap64 (((b : Int) / 2 ^ f).tmod (IntKind.u64.wrap (2 ^ e))) = (exN e f b : Int) := by
    rw [we, int_div_pow, Int.tmod_eq_emod_of_nonneg (Int.natCast_nonneg _), ← Int.natCast_emod, show b / 2 ^ f % pw e = takeN b f e by unfold takeN pw; rfl]
    have := takeN_lt b f e
    have hle := pw_le he
    rw [show pw 11 = 2048 by unfold pw; rfl] at hle
    exact wrap64_nat (takeN b f e) (by omega)
  have e3 : (b : Int) % IntKind.u64.wrap (2 ^ f) = (frN f b : Int) := by
    rw [wf, ← Int.natCast_emod]
    unfold frN takeN
    rw [pw_zero, Nat.div_one]
  have E1 := Lib.hid e1
  have E2 := Lib.hid e2
  have E3 := Lib.hid e3
  clear wf we hpf hpe e1 e2 e3 hp
  go_enter Tryd.func96, Tryd.ntmps96
  go_wp2
  go_ret3
  refine ⟨?_, more (Below.refl _ _) _⟩
  show Ending.returned (.tuple #[.bool ((b : Int) / 2 ^ (e + f) == 1), .int .i64 (wrap64 (((b : Int) / 2 ^ f).tmod (IntKind.u64.wrap (2 ^ e)))), .int .u64 ((b : Int) % IntKind.u64.wrap (2 ^ f))]) = _
  rw [E1.out, E2.out, E3.out]

end Go.Proofs.YtmiheaoojmgalaaDoor

namespace Go.Proofs.YtmiheaoojmgalaaDoor
open Go.RowKit Go.Lb

theorem val_two {n : Nat} (h : n < 18446744073709551616) : val [n % 4294967296, n / 4294967296 % 4294967296] = n := by
  simp only [val]
  omega

theorem ok_two (n : Nat) : Ok [n % 4294967296, n / 4294967296 % 4294967296] := fun x hx => by
  simp at hx
  omega

theorem lits_two (n : Nat) : [Value.int .u32 ((n : Int) % 4294967296), Value.int .u32 ((n : Int) / 4294967296 % 4294967296)] = lvs [n % 4294967296, n / 4294967296 % 4294967296] := by
  unfold lvs lv
  simp

theorem own_two (w : World) (n : Nat) {x y : Int} (hx : x = (n : Int) % 4294967296) (hy : y = (n : Int) / 4294967296 % 4294967296) : (w.alloc (.cells #[.int .u32 x, .int .u32 y] 59)).ownsRow w.heap.size 59 1 (.slice (some ⟨w.heap.size, 0, none⟩) 2 2) 2 (lvs [n % 4294967296, n / 4294967296 % 4294967296]) := by
  subst hx
  subst hy
  rw [← lits_two n]
  exact World.ownsRow_lit w #[.int .u32 ((n : Int) % 4294967296), .int .u32 ((n : Int) / 4294967296 % 4294967296)] 2 (Nat.le_refl _) (by decide) rfl

set_option maxHeartbeats 800000 in
theorem natOf_any (n : Nat) (w : World) (hn : n < 18446744073709551616) :
    Calls Tryd.prog 19 #[.int .u64 n] w fun e w' => ∃ ao k c, e = .returned (.agg #[.slice ao k c]) ∧ Fr 59 w' w.heap.size ao k c (limbs n) ∧ Below w.heap.size w w' := by
  have hv := Lib.hid (val_two hn)
  go_enter Tryd.func19, Tryd.ntmps19
  go_wp2_with fail
  have ow := own_two (w.alloc (.cells #[.slice none 0 0] 35)) n (x := (n : Int) % 4294967296) (y := (n : Int) / 4294967296) rfl (by omega)
  rw [World.size_alloc] at ow
  refine (natTrimmed_own _ ow (ok_two n)).mono ?_
  rintro e w1 ⟨a1, k1, rfl, hF, hb1⟩
  rw [hv.out] at hF
  have B := ((box1_new w (.slice none 0 0) 35).alloc (.cells #[.int .u32 ((n : Int) % 4294967296), .int .u32 ((n : Int) / 4294967296)] 59)).stay hb1
  have ⟨b0, bz⟩ := B
  have hW := next (more (more (Below.refl _ _) _) _) hb1
  go_wp2
  refine bodyPost_ret (v := .agg #[.slice a1 k1 k1]) (by simp [results, Tryd.results19, go_sem, B.set]) rfl ⟨a1, k1, k1, rfl, (hF.setCell (by simp) _).mono (by omega), hW.setCell (by simp) _⟩

theorem ref_two (w : World) (n : Nat) {x y : Int} (hx : x = (n : Int) % 4294967296) (hy : y = (n : Int) / 4294967296 % 4294967296) : Fr 59 (w.alloc (.cells #[.int .u32 x, .int .u32 y] 59)) w.heap.size (some ⟨w.heap.size, 0, none⟩) 2 2 [n % 4294967296, n / 4294967296 % 4294967296] :=
  fr_own (own_two w n hx hy) (ok_two n) (k := 2) (c := 2) (Nat.le_refl _) (Nat.le_refl _) (Nat.le_refl _)

set_option maxHeartbeats 800000 in
theorem refOf_any (n : Nat) (w : World) (hn : n < 18446744073709551616) :
    Calls Tryd.prog 107 #[.int .u64 n] w fun e w' => ∃ ao k c, e = .returned (.agg #[.slice ao k c]) ∧ Fr 59 w' w.heap.size ao k c (limbs n) ∧ Below w.heap.size w w' := by
  have hv := Lib.hid (val_two hn)
  go_enter Tryd.func107, Tryd.ntmps107
  go_wp2_with fail
  have ow := ref_two (w.alloc (.cells #[.slice none 0 0] 35)) n (x := (n : Int) % 4294967296) (y := (n : Int) / 4294967296) rfl (by omega)
  rw [World.size_alloc] at ow
  refine (refTrim_any _ 2 2 _ _ ow).mono ?_
  rintro e w1 ⟨k1, rfl, hF, rfl⟩
  rw [hv.out] at hF
  go_wp2_with fail
  refine (refNat_any _ (some ⟨w.heap.size + 1, 0, none⟩) k1 2 rfl _).mono ?_
  rintro e w2 ⟨rfl, hb2⟩
  have B := ((box1_new w (.slice none 0 0) 35).alloc (.cells #[.int .u32 ((n : Int) % 4294967296), .int .u32 ((n : Int) / 4294967296)] 59)).stay hb2
  have ⟨b0, bz⟩ := B
  have hW := next (more (more (Below.refl _ _) _) _) hb2
  go_wp2
  refine bodyPost_ret (v := .agg #[.slice (some ⟨w.heap.size + 1, 0, none⟩) k1 2]) (by simp [results, Tryd.results107, go_sem, B.set]) rfl ⟨_, k1, 2, rfl, ((hF.below hb2).setCell (by simp) _).mono (by omega), hW.setCell (by simp) _⟩

end Go.Proofs.YtmiheaoojmgalaaDoor
