/-
  The walks of soft.Min, Max; of the reference's asked, Open. The walk of the reference's Open: a float taken apart.
-/
import Derived.Test.YtkifhlgmbckekaaGreatDoorSoftF
import Derived.Test.YtkifhlgmbckekaaGreatDoorLawValues
namespace Go.Proofs.YtkifhlgmbckekaaGreatDoor
open Go.RowKit Go.Lb

/-- The error of several, by the reference. -/
def askL (e f : Int) : List Nat → Int
  | [] => 0
  | a :: l => if fitsE e f a ≠ 0 then fitsE e f a else askL e f l

theorem askL_at {e f : Int} : ∀ {l : List Nat} {k : Nat} (hk : k < l.length), (∀ j, (h : j < k) → fitsE e f (l[j]'(by omega)) = 0) → fitsE e f l[k] ≠ 0 → askL e f l = fitsE e f l[k]
  | a :: l, 0, hk, h, hn => if_pos hn
  | a :: l, k + 1, hk, h, hn => by
    have h0 : fitsE e f a = 0 := h 0 (by omega)
    show (if fitsE e f a ≠ 0 then fitsE e f a else askL e f l) = _
    rw [if_neg (by simp [h0])]
    exact askL_at (l := l) (k := k) (by simp at hk; omega) (fun j hj => h (j + 1) (by omega)) hn

theorem askL_ok {e f : Int} : ∀ {l : List Nat}, (∀ j, (h : j < l.length) → fitsE e f l[j] = 0) → askL e f l = 0
  | [], _ => rfl
  | a :: l, h => by
    have h0 : fitsE e f a = 0 := h 0 (by simp)
    show (if fitsE e f a ≠ 0 then fitsE e f a else askL e f l) = _
    rw [if_neg (by simp [h0])]
    exact askL_ok fun j hj => h (j + 1) (by simp; omega)

theorem askL_two (e f : Int) (a b : Nat) : askL e f [a, b] = twoE e f a b := by
  unfold twoE
  show (if fitsE e f a ≠ 0 then fitsE e f a else if fitsE e f b ≠ 0 then fitsE e f b else 0) = _
  split
  · rfl
  · by_cases h : fitsE e f b = 0
    · rw [if_neg (by simp [h]), h]
    · rw [if_pos h]

/-- What asked answers. -/
def askE (e f m : Int) (l : List Nat) : Int := if askL e f l ≠ 0 then askL e f l else if 4 < m then 7 else 0

set_option maxRecDepth 100000 in
set_option maxHeartbeats 1600000 in
theorem asked_any (pl : Nat) (e f m : Int) (l : List Nat) (w : World) (hl : l.length ≤ 1000) (hv : ∀ j, (h : j < l.length) → l[j] < 18446744073709551616 ∧ w.cell? ⟨pl, j, none⟩ = some (.int .u64 (l[j] : Nat))) :
    Calls Tryz.prog 65 #[.agg #[.int .i64 e, .int .i64 f], .int .u8 m, .slice (some ⟨pl, 0, none⟩) l.length l.length] w fun en w' => en = .returned (.int .i64 (askE e f m l)) ∧ Below w.heap.size w w' := by
  go_enter Tryz.func65, Tryz.ntmps65
  go_wp2
  have A0 := box2_new w (.int .i64 e) (.int .i64 f) 23
  have hW0 := more (Below.refl w.heap.size w) (.cells #[.int .i64 e, .int .i64 f] 23)
  generalize w.alloc (.cells #[.int .i64 e, .int .i64 f] 23) = w0 at A0 hW0 ⊢
  go_loopw [6, 7] (fun r i wr => ∃ k : Nat, k ≤ l.length ∧ i = .int .i64 k ∧ r = .int .i64 0 ∧ Hid (∀ j, (h1 : j < k) → (h2 : j < l.length) → fitsE e f l[j] = 0) ∧ Below w0.heap.size w0 wr) (fun _ i _ => l.length - (intOf i).toNat)
  case atStart => exact ⟨0, by omega, rfl, rfl, Lib.hid (fun j h1 h2 => absurd h1 (by omega)), Below.refl _ _⟩
  case round =>
    obtain ⟨k, hk, rfl, rfl, hh, hbr⟩ := hrel
    have hW := next hW0 hbr
    have A := A0.stay hbr
    have ⟨a0, a1⟩ := A
    by_cases hkl : k < l.length
    · obtain ⟨v1, v2⟩ := hv k hkl
      have d0 := cellStay v2 hW
      have hat := @askL_at e f l k hkl (fun j h => hh.out j h (by omega))
      by_cases hE : fitsE e f l[k] = 0
      · have hB : (fitsE e f l[k] != 0) = false := by simp [hE]
        have hh' : Hid (∀ j, (h1 : j < k + 1) → (h2 : j < l.length) → fitsE e f l[j] = 0) := Lib.hid fun j h1 h2 => by
          rcases (by omega : j < k ∨ j = k) with h | rfl
          · exact hh.out j h h2
          · exact hE
        clear hat hh
        have cM := fun W => may_any e f l[k] W v1
        rw [hE] at cM
        go_wp2
        go_region_held3 (fun w' => w'.cell? ⟨w.heap.size, 0, none⟩ = some (.int .i64 e) ∧ w'.cell? ⟨w.heap.size, 1, none⟩ = some (.int .i64 f) ∧ w'.cell? ⟨pl, k, none⟩ = some (.int .u64 (l[k] : Nat)) ∧ Below w0.heap.size w0 w')
          ((go_split_ands; refine ⟨?_, ?_, ?_, ?_⟩ <;> (first | assumption | exact Below.drew (by assumption) | exact cellStay (by assumption) hb1 | exact next (by assumption) hb1 | (go_keep; done))))
          (first | (go_at_call 162; (with_reducible refine (cM _).mono ?_); rintro en w1 ⟨rfl, hb1⟩))
        go_split_ands
        go_wp2
        all_goals exact ⟨⟨k + 1, by omega, rfl, rfl, hh', by assumption⟩, by simp [intOf]; omega⟩
      · have hB : (fitsE e f l[k] != 0) = true := by simp [hE]
        have hm : askE e f m l = fitsE e f l[k] := by unfold askE; rw [hat hE, if_pos hE]
        clear hat hh
        have cM := fun W => may_any e f l[k] W v1
        generalize fitsE e f l[k] = E at hB cM hm
        go_wp2
        go_region_held3 (fun w' => w'.cell? ⟨w.heap.size, 0, none⟩ = some (.int .i64 e) ∧ w'.cell? ⟨w.heap.size, 1, none⟩ = some (.int .i64 f) ∧ w'.cell? ⟨pl, k, none⟩ = some (.int .u64 (l[k] : Nat)) ∧ Below w0.heap.size w0 w')
          ((go_split_ands; refine ⟨?_, ?_, ?_, ?_⟩ <;> (first | assumption | exact Below.drew (by assumption) | exact cellStay (by assumption) hb1 | exact next (by assumption) hb1 | (go_keep; done))))
          (first | (go_at_call 162; (with_reducible refine (cM _).mono ?_); rintro en w1 ⟨rfl, hb1⟩))
        go_split_ands
        go_wp2
        all_goals
          refine bodyPost_ret (v := .int .i64 E) (by simp [results, Tryz.results65, go_sem]) rfl ⟨by rw [hm], next hW0 (by assumption)⟩
    · have hok : askL e f l = 0 := askL_ok fun j h => hh.out j (by omega) h
      have hm : askE e f m l = if 4 < m then 7 else 0 := by unfold askE; rw [hok, if_neg (by simp)]
      clear hh
      by_cases h4 : 4 < m
      · rw [if_pos h4] at hm
        go_wp2
        go_ret
        exact ⟨by (first | (rw [hm]; rfl) | rfl), hW⟩
      · rw [if_neg h4] at hm
        go_wp2
        go_ret
        exact ⟨by (first | (rw [hm]; rfl) | rfl), hW⟩

end Go.Proofs.YtkifhlgmbckekaaGreatDoor

namespace Go.Proofs.YtkifhlgmbckekaaGreatDoor
open Go.RowKit Go.Lb

theorem cell_same (w : World) (a : Addr) (v : Value) (h : (w.cell? a).isSome = true) : (w.setCell a v).cell? a = some v := by
  obtain ⟨u, hu⟩ := Option.isSome_iff_exists.1 h
  exact World.cell?_setCell_same _ _ _ hu

/-- A block of seven cells. -/
structure Box7 (w : World) (b : Nat) (v0 v1 v2 v3 v4 v5 v6 : Value) : Prop where
  c0 : w.cell? ⟨b, 0, none⟩ = some v0
  c1 : w.cell? ⟨b, 1, none⟩ = some v1
  c2 : w.cell? ⟨b, 2, none⟩ = some v2
  c3 : w.cell? ⟨b, 3, none⟩ = some v3
  c4 : w.cell? ⟨b, 4, none⟩ = some v4
  c5 : w.cell? ⟨b, 5, none⟩ = some v5
  c6 : w.cell? ⟨b, 6, none⟩ = some v6
  z0 : w.frozen? ⟨b, 0, none⟩ = false
  z1 : w.frozen? ⟨b, 1, none⟩ = false
  z2 : w.frozen? ⟨b, 2, none⟩ = false
  z3 : w.frozen? ⟨b, 3, none⟩ = false
  z4 : w.frozen? ⟨b, 4, none⟩ = false
  z5 : w.frozen? ⟨b, 5, none⟩ = false
  z6 : w.frozen? ⟨b, 6, none⟩ = false

theorem Box7.stay {wp w' : World} {b : Nat} {v0 v1 v2 v3 v4 v5 v6 : Value} (h : Box7 wp b v0 v1 v2 v3 v4 v5 v6) (k : Below wp.heap.size wp w') : Box7 w' b v0 v1 v2 v3 v4 v5 v6 :=
  ⟨(cfStay ⟨h.c0, h.z0⟩ k).1, (cfStay ⟨h.c1, h.z1⟩ k).1, (cfStay ⟨h.c2, h.z2⟩ k).1, (cfStay ⟨h.c3, h.z3⟩ k).1, (cfStay ⟨h.c4, h.z4⟩ k).1, (cfStay ⟨h.c5, h.z5⟩ k).1, (cfStay ⟨h.c6, h.z6⟩ k).1,
   (cfStay ⟨h.c0, h.z0⟩ k).2, (cfStay ⟨h.c1, h.z1⟩ k).2, (cfStay ⟨h.c2, h.z2⟩ k).2, (cfStay ⟨h.c3, h.z3⟩ k).2, (cfStay ⟨h.c4, h.z4⟩ k).2, (cfStay ⟨h.c5, h.z5⟩ k).2, (cfStay ⟨h.c6, h.z6⟩ k).2⟩
theorem Box7.alloc {w : World} {b : Nat} {v0 v1 v2 v3 v4 v5 v6 : Value} (h : Box7 w b v0 v1 v2 v3 v4 v5 v6) (o : Obj) : Box7 (w.alloc o) b v0 v1 v2 v3 v4 v5 v6 := h.stay ((Below.refl _ _).alloc (Nat.le_refl _) o)
theorem Box7.lt {w : World} {b : Nat} {v0 v1 v2 v3 v4 v5 v6 : Value} (h : Box7 w b v0 v1 v2 v3 v4 v5 v6) : b < w.heap.size := World.block_lt_of_cell? w ⟨b, 0, none⟩ h.c0
theorem box7_new (w : World) (v0 v1 v2 v3 v4 v5 v6 : Value) (t : TypeId) : Box7 (w.alloc (.cells #[v0, v1, v2, v3, v4, v5, v6] t)) w.heap.size v0 v1 v2 v3 v4 v5 v6 :=
  ⟨by simp, by simp, by simp, by simp, by simp, by simp, by simp, by simp [go_sem], by simp [go_sem], by simp [go_sem], by simp [go_sem], by simp [go_sem], by simp [go_sem], by simp [go_sem]⟩

theorem Box7.set {w : World} {b : Nat} {v0 v1 v2 v3 v4 v5 v6 : Value} (h : Box7 w b v0 v1 v2 v3 v4 v5 v6) (u0 u1 u2 u3 u4 u5 u6 : Value) :
    Box7 (((((((w.setCell ⟨b, 0, none⟩ u0).setCell ⟨b, 1, none⟩ u1).setCell ⟨b, 2, none⟩ u2).setCell ⟨b, 3, none⟩ u3).setCell ⟨b, 4, none⟩ u4).setCell ⟨b, 5, none⟩ u5).setCell ⟨b, 6, none⟩ u6) b u0 u1 u2 u3 u4 u5 u6 := by
  obtain ⟨h0, h1, h2, h3, h4, h5, h6, z0, z1, z2, z3, z4, z5, z6⟩ := h
  constructor
  all_goals first
    | (simp [World.cell?_setCell_other, cell_same, h0, h1, h2, h3, h4, h5, h6]; done)
    | (simp [z0, z1, z2, z3, z4, z5, z6]; done)

theorem below_set7 {w wp : World} {b : Nat} (h : Below w.heap.size w wp) (hb : w.heap.size ≤ b) (u0 u1 u2 u3 u4 u5 u6 : Value) :
    Below w.heap.size w (((((((wp.setCell ⟨b, 0, none⟩ u0).setCell ⟨b, 1, none⟩ u1).setCell ⟨b, 2, none⟩ u2).setCell ⟨b, 3, none⟩ u3).setCell ⟨b, 4, none⟩ u4).setCell ⟨b, 5, none⟩ u5).setCell ⟨b, 6, none⟩ u6) :=
  ((((((h.setCell hb _).setCell hb _).setCell hb _).setCell hb _).setCell hb _).setCell hb _).setCell hb _

def infB (e f b : Nat) : Bool := decide (exN e f b = maskN e ∧ frN f b = 0)
def qtB (f b : Nat) : Bool := decide (frN f b / pw (f - 1) = 1)

/-- A float taken apart. -/
def Opened (e f b : Nat) (w : World) (en : Ending) (w' : World) : Prop :=
  ∃ (q s : Bool) (ao : Option Addr) (n c : Nat) (x : Int), en = .returned (.agg #[.bool (sgB e f b), .bool (nanB e f b), .bool q, .bool (infB e f b), .bool s, .slice ao n c, .int .i64 x]) ∧ (nanB e f b = true → q = qtB f b) ∧
    (exN e f b ≠ maskN e → s = valS e f b ∧ x = valX e f b ∧ Fr 150 w' w.heap.size ao n c (limbs (valN e f b))) ∧ Below w.heap.size w w'

set_option maxRecDepth 100000 in
set_option maxHeartbeats 1600000 in
theorem refOpen_fin (e f b : Nat) (w : World) (h : formE (e : Int) (f : Int) = 0) (hb : b < 18446744073709551616) (hp : b < pw (1 + e + f)) (hxm : exN e f b ≠ maskN e) :
    Calls Tryz.prog 66 #[.agg #[.int .i64 e, .int .i64 f], .int .u64 b] w (Opened e f b w) := by
  obtain ⟨q1, q2, q3, q4⟩ := formE_ok h
  have g2 : e ≤ 11 := by omega
  have g3 : f ≤ 52 := by omega
  have hw : IntKind.u64.wrap (e : Int) = (e : Int) := by rw [IntKind.wrap_u64]; omega
  have hlt : exN e f b < maskN e := by
    have := exN_lt e f b
    unfold maskN at hxm ⊢
    unfold pw at this
    omega
  have hm : decide ((exN e f b : Int) < wrap64 (wrap64 (2 ^ e) - 1)) = true := by rw [maskI g2]; simpa using hlt
  have hn : nanB e f b = false := decide_eq_false fun hh => hxm hh.1
  have hi : infB e f b = false := decide_eq_false fun hh => hxm hh.1
  have hV := val_fine h hp hxm
  have hO : ∀ en w', (∃ (s : Bool) (ao : Option Addr) (n c : Nat) (x : Int), en = .returned (.agg #[.bool (sgB e f b), .bool false, .bool false, .bool false, .bool s, .slice ao n c, .int .i64 x]) ∧
    (s = valS e f b ∧ x = valX e f b ∧ Fr 150 w' w.heap.size ao n c (limbs (valN e f b))) ∧ Below w.heap.size w w') → Opened e f b w en w' := by
    rintro en w' ⟨s, ao, n, c, x, rfl, hh, hW⟩
    exact ⟨false, s, ao, n, c, x, by rw [hn, hi], (fun h => by rw [hn] at h; cases h), fun _ => hh, hW⟩
  refine Calls.mono ?_ hO
  have Hm := Lib.hid hm
  clear hO hn hi hxm hlt hm
  go_enter Tryz.func66, Tryz.ntmps66
  go_wp2_with (first
    | (go_at_call 163; refine (refFields_any e f b _ (by omega) (by omega) hb hp).mono ?_; rintro en w1 ⟨rfl, hb1⟩; have hmo := Hm.out; have A := ((box2_new w (.int .i64 e) (.int .i64 f) 23).alloc (.cells #[.bool false, .bool false, .bool false, .bool false, .bool false, .slice none 0 0, .int .i64 0] 98)).stay hb1; have ⟨a0, a1⟩ := A; have R := (box7_new (w.alloc (.cells #[.int .i64 e, .int .i64 f] 23)) (.bool false) (.bool false) (.bool false) (.bool false) (.bool false) (.slice none 0 0) (.int .i64 0) 98).stay hb1; rw [World.size_alloc] at R; have hW := next (more (more (Below.refl _ _) _) _) hb1)
    | (go_at_call 164; refine (refValue_any e f b _ hb).mono ?_; rintro en w2 ⟨ao, n, c, rfl, hF, hb2⟩; rw [hV]; have D := box3_new w2 (.bool (valS e f b)) (.slice ao n c) (.int .i64 (valX e f b)) 81; have ⟨d0, d1, d2, dz0, dz1, dz2⟩ := D; have R2 := (R.stay hb2).alloc (.cells #[.bool (valS e f b), .slice ao n c, .int .i64 (valX e f b)] 81); have ⟨r0, r1, r2, r3, r4, r5, r6, rz0, rz1, rz2, rz3, rz4, rz5, rz6⟩ := R2; have hW2 := more (next hW hb2) (.cells #[.bool (valS e f b), .slice ao n c, .int .i64 (valX e f b)] 81)))
  have hsz := hb1.size
  simp only [World.size_alloc] at hsz
  have ⟨t0, t1, t2, t3, t4, t5, t6, _, _, _, _, _, _, _⟩ := R2.set (.bool (sgB e f b)) (.bool false) (.bool false) (.bool false) (.bool (valS e f b)) (.slice ao n c) (.int .i64 (valX e f b))
  refine bodyPost_ret (v := .agg #[.bool (sgB e f b), .bool false, .bool false, .bool false, .bool (valS e f b), .slice ao n c, .int .i64 (valX e f b)]) (by simp [results, Tryz.results66, go_sem, t0, t1, t2, t3, t4, t5, t6]) rfl
    ⟨_, _, _, _, _, rfl, ⟨rfl, rfl, ?_⟩, below_set7 hW2 (by omega) _ _ _ _ _ _ _⟩
  exact ((((((((hF.alloc _).setCell (by simp; omega) _).setCell (by simp; omega) _).setCell (by simp; omega) _).setCell (by simp; omega) _).setCell (by simp; omega) _).setCell (by simp; omega) _).setCell (by simp; omega) _).mono (by omega)

theorem quiet_eq (f b : Nat) : (((frN f b : Int) / 2 ^ (f - 1)) == 1) = qtB f b := by
  rw [int_div_pow]
  unfold qtB pw
  generalize frN f b / 2 ^ (f - 1) = q
  by_cases h : q = 1
  · subst h; rfl
  · rw [decide_eq_false h]; simp; omega

set_option maxRecDepth 100000 in
set_option maxHeartbeats 1600000 in
theorem refOpen_inf (e f b : Nat) (w : World) (h : formE (e : Int) (f : Int) = 0) (hb : b < 18446744073709551616) (hp : b < pw (1 + e + f)) (hxm : exN e f b = maskN e) (hf0 : frN f b = 0) :
    Calls Tryz.prog 66 #[.agg #[.int .i64 e, .int .i64 f], .int .u64 b] w (Opened e f b w) := by
  obtain ⟨q1, q2, q3, q4⟩ := formE_ok h
  have g2 : e ≤ 11 := by omega
  have g3 : f ≤ 52 := by omega
  have hw : IntKind.u64.wrap (e : Int) = (e : Int) := by rw [IntKind.wrap_u64]; omega
  have hm : decide ((exN e f b : Int) < wrap64 (wrap64 (2 ^ e) - 1)) = false := by rw [maskI g2, hxm]; simp
  have hz : ((frN f b : Int) == 0) = true := by rw [hf0]; rfl
  have hn : nanB e f b = false := decide_eq_false fun hh => hh.2 hf0
  have hi : infB e f b = true := decide_eq_true ⟨hxm, hf0⟩
  have hO : ∀ en w', (en = .returned (.agg #[.bool (sgB e f b), .bool false, .bool false, .bool true, .bool false, .slice none 0 0, .int .i64 0]) ∧ Below w.heap.size w w') → Opened e f b w en w' := by
    rintro en w' ⟨rfl, hW⟩
    exact ⟨false, false, none, 0, 0, 0, by rw [hn, hi], (fun h => by rw [hn] at h; cases h), fun hh => absurd hxm hh, hW⟩
  refine Calls.mono ?_ hO
  have Hm := Lib.hid hm
  clear hO hn hi hxm hm hf0
  go_enter Tryz.func66, Tryz.ntmps66
  go_wp2_with (go_at_call 163; refine (refFields_any e f b _ (by omega) (by omega) hb hp).mono ?_; rintro en w1 ⟨rfl, hb1⟩; have hmo := Hm.out; have A := ((box2_new w (.int .i64 e) (.int .i64 f) 23).alloc (.cells #[.bool false, .bool false, .bool false, .bool false, .bool false, .slice none 0 0, .int .i64 0] 98)).stay hb1; have ⟨a0, a1⟩ := A; have R := (box7_new (w.alloc (.cells #[.int .i64 e, .int .i64 f] 23)) (.bool false) (.bool false) (.bool false) (.bool false) (.bool false) (.slice none 0 0) (.int .i64 0) 98).stay hb1; rw [World.size_alloc] at R; have hW := next (more (more (Below.refl _ _) _) _) hb1; have ⟨r0, r1, r2, r3, r4, r5, r6, rz0, rz1, rz2, rz3, rz4, rz5, rz6⟩ := R)
  have ⟨t0, t1, t2, t3, t4, t5, t6, _, _, _, _, _, _, _⟩ := R.set (.bool (sgB e f b)) (.bool false) (.bool false) (.bool true) (.bool false) (.slice none 0 0) (.int .i64 0)
  refine bodyPost_ret (v := .agg #[.bool (sgB e f b), .bool false, .bool false, .bool true, .bool false, .slice none 0 0, .int .i64 0]) (by simp [results, Tryz.results66, go_sem, t0, t1, t2, t3, t4, t5, t6]) rfl
    ⟨rfl, below_set7 hW (by omega) _ _ _ _ _ _ _⟩

set_option maxRecDepth 100000 in
set_option maxHeartbeats 1600000 in
theorem refOpen_nan (e f b : Nat) (w : World) (h : formE (e : Int) (f : Int) = 0) (hb : b < 18446744073709551616) (hp : b < pw (1 + e + f)) (hxm : exN e f b = maskN e) (hf0 : frN f b ≠ 0) :
    Calls Tryz.prog 66 #[.agg #[.int .i64 e, .int .i64 f], .int .u64 b] w (Opened e f b w) := by
  obtain ⟨q1, q2, q3, q4⟩ := formE_ok h
  have g2 : e ≤ 11 := by omega
  have g3 : f ≤ 52 := by omega
  have hw : IntKind.u64.wrap (e : Int) = (e : Int) := by rw [IntKind.wrap_u64]; omega
  have hw1 : IntKind.i64.wrap ((f : Int) - 1) = (f : Int) - 1 := IntWalk.i64_in _ (by omega)
  have hw2 : IntKind.u64.wrap ((f : Int) - 1) = (f : Int) - 1 := by rw [IntKind.wrap_u64]; omega
  have ht : ((f : Int) - 1).toNat = f - 1 := by omega
  have hm : decide ((exN e f b : Int) < wrap64 (wrap64 (2 ^ e) - 1)) = false := by rw [maskI g2, hxm]; simp
  have hz : ((frN f b : Int) == 0) = false := by simp [hf0]
  have hn : nanB e f b = true := decide_eq_true ⟨hxm, hf0⟩
  have hi : infB e f b = false := decide_eq_false fun hh => hf0 hh.2
  have hO : ∀ en w', (en = .returned (.agg #[.bool (sgB e f b), .bool true, .bool (qtB f b), .bool false, .bool false, .slice none 0 0, .int .i64 0]) ∧ Below w.heap.size w w') → Opened e f b w en w' := by
    rintro en w' ⟨rfl, hW⟩
    exact ⟨_, false, none, 0, 0, 0, by rw [hn, hi], (fun _ => rfl), fun hh => absurd hxm hh, hW⟩
  refine Calls.mono ?_ hO
  have Hm := Lib.hid hm
  clear hO hn hi hxm hm
  go_enter Tryz.func66, Tryz.ntmps66
  go_wp2_with (go_at_call 163; refine (refFields_any e f b _ (by omega) (by omega) hb hp).mono ?_; rintro en w1 ⟨rfl, hb1⟩; have hmo := Hm.out; have A := ((box2_new w (.int .i64 e) (.int .i64 f) 23).alloc (.cells #[.bool false, .bool false, .bool false, .bool false, .bool false, .slice none 0 0, .int .i64 0] 98)).stay hb1; have ⟨a0, a1⟩ := A; have R := (box7_new (w.alloc (.cells #[.int .i64 e, .int .i64 f] 23)) (.bool false) (.bool false) (.bool false) (.bool false) (.bool false) (.slice none 0 0) (.int .i64 0) 98).stay hb1; rw [World.size_alloc] at R; have hW := next (more (more (Below.refl _ _) _) _) hb1; have ⟨r0, r1, r2, r3, r4, r5, r6, rz0, rz1, rz2, rz3, rz4, rz5, rz6⟩ := R)
  rw [quiet_eq]
  have ⟨t0, t1, t2, t3, t4, t5, t6, _, _, _, _, _, _, _⟩ := R.set (.bool (sgB e f b)) (.bool true) (.bool (qtB f b)) (.bool false) (.bool false) (.slice none 0 0) (.int .i64 0)
  refine bodyPost_ret (v := .agg #[.bool (sgB e f b), .bool true, .bool (qtB f b), .bool false, .bool false, .slice none 0 0, .int .i64 0]) (by simp [results, Tryz.results66, go_sem, t0, t1, t2, t3, t4, t5, t6]) rfl
    ⟨rfl, below_set7 hW (by omega) _ _ _ _ _ _ _⟩

theorem refOpen_any (e f b : Nat) (w : World) (h : formE (e : Int) (f : Int) = 0) (hb : b < 18446744073709551616) (hp : b < pw (1 + e + f)) :
    Calls Tryz.prog 66 #[.agg #[.int .i64 e, .int .i64 f], .int .u64 b] w (Opened e f b w) := by
  by_cases hxm : exN e f b = maskN e
  · by_cases hf0 : frN f b = 0
    · exact refOpen_inf e f b w h hb hp hxm hf0
    · exact refOpen_nan e f b w h hb hp hxm hf0
  · exact refOpen_fin e f b w h hb hp hxm

end Go.Proofs.YtkifhlgmbckekaaGreatDoor
