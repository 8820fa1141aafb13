/-
  The walks of forms.Payload, kit.nan, kit.open: a float opened, behind an interface. The walk of soft.all of two: both opened. The walks of soft.pick, Min, Max.
-/
import Derived.Test.YtkifhlgmbckekaaGreatDoorSoftC
import Derived.Test.YtkifhlgmbckekaaGreatDoorVals
import Derived.Test.YtkifhlgmbckekaaGreatDoorSumNs
import Derived.Test.YtkifhlgmbckekaaGreatDoorBooks
namespace Go.Proofs.YtkifhlgmbckekaaGreatDoor
open Go.RowKit Go.Lb

theorem classN_inf {e f b : Nat} (hxm : exN e f b = maskN e) (he : 2 ≤ e) (hf0 : frN f b = 0) : classN e (exN e f b) (frN f b) = 4 := by
  have hm := pw_le (show 2 ≤ e by omega)
  rw [show pw 2 = 4 by unfold pw; rfl] at hm
  have := maskN_eq e
  unfold classN
  rw [if_neg (by omega), if_pos hxm, if_pos hf0]

theorem classN_nan {e f b : Nat} (hxm : exN e f b = maskN e) (he : 2 ≤ e) (hf0 : frN f b ≠ 0) : classN e (exN e f b) (frN f b) = 5 := by
  have hm := pw_le (show 2 ≤ e by omega)
  rw [show pw 2 = 4 by unfold pw; rfl] at hm
  have := maskN_eq e
  unfold classN
  rw [if_neg (by omega), if_pos hxm, if_neg hf0]

theorem mask_i (k : Nat) (x : Int) (hx : x = (k : Int)) (w : World) (h2 : k ≤ 64) :
    Calls Tryz.prog 171 #[.int .i64 x] w fun en w' => en = .returned (.int .u64 (maskN k : Int)) ∧ w = w' := by
  subst hx
  exact mask_any k w h2

/-- A finite float is worth something. -/
theorem val_fine {e f b : Nat} (h : formE (e : Int) (f : Int) = 0) (hp : b < pw (1 + e + f)) (hxm : exN e f b ≠ maskN e) : valE (e : Int) (f : Int) b = 0 := by
  have hF := fitsE_ok h hp
  obtain ⟨q1, q2, q3, q4⟩ := formE_ok h
  rw [(val_yes hF hxm).2.2.2]
  have hv := vN_lt (e := e) (f := f) (b := b) (by omega)
  have hl : (limbs (vN e f b)).length ≤ 2 := limbs_length_le (by omega)
  have hc := chk_limbs (N := vN e f b) (by omega)
  unfold mkE
  rw [if_neg (by simp [hc])]
  split
  · rfl
  · rename_i h0
    rw [if_pos]
    have ht := tz_lt (ok_limbs (vN e f b)) h0
    have hx := exN_lt e f b
    have hle := pw_le (show e ≤ 11 by omega)
    rw [show pw 11 = 2048 by unfold pw; rfl] at hle
    have hb := biasN_eq e
    have hle2 := pw_le (show e - 1 ≤ 10 by omega)
    rw [show pw 10 = 1024 by unfold pw; rfl] at hle2
    have hpos := pw_pos (e - 1)
    have hX : -3000 ≤ vX e f b ∧ vX e f b ≤ 3000 := by
      unfold vX
      split <;> omega
    exact decide_eq_true ⟨hc, h0, by omega, by omega, by omega, by omega⟩

set_option maxRecDepth 100000 in
set_option maxHeartbeats 1600000 in
theorem payload_nan (e f b : Nat) (w : World) (h : formE (e : Int) (f : Int) = 0) (hb : b < 18446744073709551616) (hp : b < pw (1 + e + f)) (hxm : exN e f b = maskN e) (hf0 : frN f b ≠ 0) :
    Calls Tryz.prog 80 #[.agg #[.int .i64 e, .int .i64 f], .int .u64 b] w fun en w' => ∃ (p : Int) (q : Bool), en = .returned (.tuple #[.int .u64 p, .bool q, .int .i64 0]) ∧ Below w.heap.size w w' := by
  obtain ⟨q1, q2, q3, q4⟩ := formE_ok h
  have hC := classN_nan hxm (by omega) hf0
  have hf1 : (f : Int) - 1 = ((f - 1 : Nat) : Int) := by omega
  go_enter Tryz.func80, Tryz.ntmps80
  go_wp2_with (first
    | (go_at_call 78; refine (class_any e f b _ h hb hp).mono ?_; rintro en w1 ⟨rfl, hb1⟩; rw [hC]; have A := (box2_new w _ _ _).stay hb1; have ⟨a0, a1⟩ := A; have hW := next (more (Below.refl _ _) _) hb1)
    | (go_at_call 171; (with_reducible refine (mask_any f _ (by omega)).mono ?_); rintro en w2 ⟨rfl, rfl⟩)
    | (go_at_call 171; (with_reducible refine (mask_any (f - 1) _ (by omega)).mono ?_); rintro en w2 ⟨rfl, rfl⟩))
  refine bodyPost_ret (v := .tuple #[.int .u64 (bits .and .u64 (bits .and .u64 (b : Int) (maskN f : Int)) (maskN (f - 1) : Int)), .bool (bits .and .u64 (b : Int) (maskN f : Int) != bits .and .u64 (bits .and .u64 (b : Int) (maskN f : Int)) (maskN (f - 1) : Int)), .int .i64 0]) (by simp [results, Tryz.results80, go_sem]) rfl ⟨_, _, rfl, hW⟩

set_option maxRecDepth 100000 in
theorem kitNan_any (pk e f : Nat) (m fl : Int) (w : World) (h : formE (e : Int) (f : Int) = 0) (hK : Box3 w pk (.int .i64 e) (.int .i64 f) (.int .u8 m)) :
    Calls Tryz.prog 161 #[.pointer (some ⟨pk, 0, none⟩), .int .u8 fl] w fun en w' => en = .returned (.agg #[.int .u64 (nanN e f), .int .u8 fl, .int .i64 0]) ∧ Below w.heap.size w w' := by
  have K0 := hK.alloc (.cells #[.int .u64 0, .int .u8 0, .int .i64 0] 90)
  have ⟨k0, k1, k2, kz0, kz1, kz2⟩ := K0
  go_enter Tryz.func161, Tryz.ntmps161
  go_wp2_with (go_at_call 79; refine (formsNaN_zero e f _ h).mono ?_; rintro en w1 ⟨rfl, hb1⟩; have R := (box3_new w (.int .u64 0) (.int .u8 0) (.int .i64 0) 90).stay hb1; have ⟨r0, r1, r2, rz0, rz1, rz2⟩ := R; have hW := next (more (Below.refl _ _) _) hb1)
  obtain ⟨t0, t1, t2⟩ := R.set (.int .u64 (nanN e f)) (.int .u8 fl) (.int .i64 0)
  refine bodyPost_ret (v := .agg #[.int .u64 (nanN e f), .int .u8 fl, .int .i64 0]) (by simp [results, Tryz.results161, go_sem, t0, t1, t2]) rfl ⟨rfl, ((hW.setCell (by simp) _).setCell (by simp) _).setCell (by simp) _⟩

set_option maxRecDepth 100000 in
set_option maxHeartbeats 1600000 in
theorem kitOpen_inf (pk e f b : Nat) (m : Int) (w : World) (h : formE (e : Int) (f : Int) = 0) (hb : b < 18446744073709551616) (hp : b < pw (1 + e + f)) (hxm : exN e f b = maskN e) (hf0 : frN f b = 0)
    (hK : Box3 w pk (.int .i64 e) (.int .i64 f) (.int .u8 m)) :
    Calls Tryz.prog 160 #[.pointer (some ⟨pk, 0, none⟩), .int .u64 b] w fun en w' => ∃ v, en = .returned (.tuple #[.iface 283 v, .int .i64 0]) ∧ Below w.heap.size w w' := by
  obtain ⟨q1, q2, q3, q4⟩ := formE_ok h
  have hC := classN_inf hxm (by omega) hf0
  have ⟨k0, k1, k2, kz0, kz1, kz2⟩ := hK
  go_enter Tryz.func160, Tryz.ntmps160
  go_wp2_with (first
    | (go_at_call 78; refine (class_any e f b _ h hb hp).mono ?_; rintro en w1 ⟨rfl, hb1⟩; rw [hC]; have hW := hb1; have K1 := hK.stay hW; have ⟨j0, j1, j2, jz0, jz1, jz2⟩ := K1)
    | (go_at_call 170; refine (split_any e f b _ h hb hp).mono ?_; rintro en w2 ⟨rfl, hb2⟩; replace hW := next hW hb2))
  refine bodyPost_ret (v := .tuple #[.iface 283 (.agg #[.bool (sgB e f b)]), .int .i64 0]) (by simp [results, Tryz.results160, go_sem]) rfl ⟨_, rfl, more hW _⟩

set_option maxRecDepth 100000 in
set_option maxHeartbeats 1600000 in
theorem kitOpen_no (pk : Nat) (e f : Int) (b : Nat) (m : Int) (w : World) (h : fitsE e f b ≠ 0) (hb : b < 18446744073709551616)
    (hK : Box3 w pk (.int .i64 e) (.int .i64 f) (.int .u8 m)) :
    Calls Tryz.prog 160 #[.pointer (some ⟨pk, 0, none⟩), .int .u64 b] w fun en w' => ∃ v, en = .returned (.tuple #[v, .int .i64 (fitsE e f b)]) ∧ Below w.heap.size w w' := by
  have h0B : (fitsE e f b != 0) = true := by simp [h]
  have ⟨k0, k1, k2, kz0, kz1, kz2⟩ := hK
  go_enter Tryz.func160, Tryz.ntmps160
  go_wp2_with (first
    | (go_at_call 78; refine (class_no e f b _ h hb).mono ?_; rintro en w1 ⟨rfl, hb1⟩))
  refine bodyPost_ret (v := .tuple #[.nilIface, .int .i64 (fitsE e f b)]) (by simp [results, Tryz.results160, go_sem]) rfl ⟨_, rfl, hb1⟩

set_option maxRecDepth 100000 in
set_option maxHeartbeats 1600000 in
theorem kitOpen_nan (pk e f b : Nat) (m : Int) (w : World) (h : formE (e : Int) (f : Int) = 0) (hb : b < 18446744073709551616) (hp : b < pw (1 + e + f)) (hxm : exN e f b = maskN e) (hf0 : frN f b ≠ 0)
    (hK : Box3 w pk (.int .i64 e) (.int .i64 f) (.int .u8 m)) :
    Calls Tryz.prog 160 #[.pointer (some ⟨pk, 0, none⟩), .int .u64 b] w fun en w' => ∃ q : Bool, en = .returned (.tuple #[.iface 202 (.agg #[.bool q]), .int .i64 0]) ∧ Below w.heap.size w w' := by
  obtain ⟨q1, q2, q3, q4⟩ := formE_ok h
  have hC := classN_nan hxm (by omega) hf0
  have ⟨k0, k1, k2, kz0, kz1, kz2⟩ := hK
  go_enter Tryz.func160, Tryz.ntmps160
  go_wp2_with (first
    | (go_at_call 78; refine (class_any e f b _ h hb hp).mono ?_; rintro en w1 ⟨rfl, hb1⟩; rw [hC]; have hW := hb1; have K1 := hK.stay hW; have ⟨j0, j1, j2, jz0, jz1, jz2⟩ := K1)
    | (go_at_call 170; refine (split_any e f b _ h hb hp).mono ?_; rintro en w2 ⟨rfl, hb2⟩; replace hW := more (next hW hb2) (.cells #[.bool (sgB e f b), .int .i64 (maskN e), .int .u64 (frN f b)] 209); have K2 := hK.stay hW; have ⟨l0, l1, l2, lz0, lz1, lz2⟩ := K2)
    | (go_at_call 80; refine (payload_nan e f b _ h hb hp hxm hf0).mono ?_; rintro en w3 ⟨p, q, rfl, hb3⟩; replace hW := next hW hb3))
  refine bodyPost_ret (v := .tuple #[.iface 202 (.agg #[.bool (!q)]), .int .i64 0]) (by simp [results, Tryz.results160, go_sem]) rfl ⟨_, rfl, hW⟩

set_option maxRecDepth 100000 in
set_option maxHeartbeats 1600000 in
theorem kitOpen_fin (pk e f b : Nat) (m : Int) (w : World) (h : formE (e : Int) (f : Int) = 0) (hb : b < 18446744073709551616) (hp : b < pw (1 + e + f)) (hxm : exN e f b ≠ maskN e) (hT : Tab w)
    (hK : Box3 w pk (.int .i64 e) (.int .i64 f) (.int .u8 m)) :
    Calls Tryz.prog 160 #[.pointer (some ⟨pk, 0, none⟩), .int .u64 b] w fun en w' => ∃ v, en = .returned (.tuple #[.iface 176 v, .int .i64 0]) ∧ Below w.heap.size w w' := by
  obtain ⟨q1, q2, q3, q4⟩ := formE_ok h
  have hC : classN e (exN e f b) (frN f b) ≠ 5 ∧ classN e (exN e f b) (frN f b) ≠ 4 := by
    unfold classN
    rw [if_neg hxm]
    repeat' split
    all_goals exact ⟨by decide, by decide⟩
  have cl := fun W => class_any e f b W h hb hp
  have hV := val_fine h hp hxm
  generalize classN e (exN e f b) (frN f b) = cc at hC cl
  have hC5 : ((cc : Int) == 5) = false := by simp; omega
  have hC4 : ((cc : Int) == 4) = false := by simp; omega
  have ⟨k0, k1, k2, kz0, kz1, kz2⟩ := hK
  go_enter Tryz.func160, Tryz.ntmps160
  go_wp2_with (first
    | (go_at_call 78; refine (cl _).mono ?_; rintro en w1 ⟨rfl, hb1⟩; have hW := hb1; have K1 := hK.stay hW; have ⟨j0, j1, j2, jz0, jz1, jz2⟩ := K1)
    | (go_at_call 170; refine (split_any e f b _ h hb hp).mono ?_; rintro en w2 ⟨rfl, hb2⟩; replace hW := more (next hW hb2) (.cells #[.bool (sgB e f b), .int .i64 (exN e f b), .int .u64 (frN f b)] 209); have P := box3_new w2 (.bool (sgB e f b)) (.int .i64 (exN e f b)) (.int .u64 (frN f b)) 209; have ⟨pp0, pp1, pp2, pz0, pz1, pz2⟩ := P; have K2 := hK.stay hW; have ⟨l0, l1, l2, lz0, lz1, lz2⟩ := K2)
    | (go_at_call 82; refine (value_any e f b _ hb (hT.below hW)).mono ?_; rintro en w3 ⟨ao, n, c, rfl, hF, hb3⟩; rw [hV]; replace hW := next hW hb3; replace P := P.stay hb3; have Pa := P.alloc (.cells #[.bool (valS e f b), .slice ao n c, .int .i64 (valX e f b)] 81); have ⟨pa0, pa1, pa2, paz0, paz1, paz2⟩ := Pa))
  refine bodyPost_ret (v := .tuple #[.iface 176 (.agg #[.bool (sgB e f b), .bool (valS e f b), .slice ao n c, .int .i64 (valX e f b), .int .u64 b]), .int .i64 0]) (by simp [results, Tryz.results160, go_sem]) rfl ⟨_, rfl, more hW _⟩

end Go.Proofs.YtkifhlgmbckekaaGreatDoor

namespace Go.Proofs.YtkifhlgmbckekaaGreatDoor
open Go.RowKit Go.Lb

def nanB (e f b : Nat) : Bool := decide (exN e f b = maskN e ∧ frN f b ≠ 0)

/-- A float that fits, opened: is it none? -/
theorem kitOpen_good (pk e f b : Nat) (m : Int) (w : World) (h : formE (e : Int) (f : Int) = 0) (hb : b < 18446744073709551616) (hp : b < pw (1 + e + f)) (hT : Tab w)
    (hK : Box3 w pk (.int .i64 e) (.int .i64 f) (.int .u8 m)) :
    Calls Tryz.prog 160 #[.pointer (some ⟨pk, 0, none⟩), .int .u64 b] w fun en w' => ∃ T v, en = .returned (.tuple #[.iface T v, .int .i64 0]) ∧ (nanB e f b = true → T = 202 ∧ ∃ q, v = .agg #[.bool q]) ∧ (nanB e f b = false → T ≠ 202) ∧ Below w.heap.size w w' := by
  by_cases hxm : exN e f b = maskN e
  · by_cases hf0 : frN f b = 0
    · have hn : nanB e f b = false := decide_eq_false fun hh => hh.2 hf0
      refine (kitOpen_inf pk e f b m w h hb hp hxm hf0 hK).mono ?_
      rintro en w' ⟨v, rfl, hW⟩
      exact ⟨_, _, rfl, (fun hh => by rw [hn] at hh; cases hh), (fun _ => by decide), hW⟩
    · have hn : nanB e f b = true := decide_eq_true ⟨hxm, hf0⟩
      refine (kitOpen_nan pk e f b m w h hb hp hxm hf0 hK).mono ?_
      rintro en w' ⟨q, rfl, hW⟩
      exact ⟨_, _, rfl, fun _ => ⟨rfl, q, rfl⟩, fun hh => (by rw [hn] at hh; cases hh), hW⟩
  · have hn : nanB e f b = false := decide_eq_false fun hh => hxm hh.1
    refine (kitOpen_fin pk e f b m w h hb hp hxm hT hK).mono ?_
    rintro en w' ⟨v, rfl, hW⟩
    exact ⟨_, _, rfl, (fun hh => by rw [hn] at hh; cases hh), (fun _ => by decide), hW⟩

theorem float_info : (Tryz.prog.info? 94).map (fun i => (i.zero, i.size, i.bytes)) = some (some .nilIface, 1, 16) := by kernel_rfl

/-- What all answers. -/
def AllK (e f : Int) (w : World) (te : Int) (ok : Bool) (en : Ending) (w' : World) : Prop :=
  ∃ pk out tb tf, en = .returned (.tuple #[.pointer (some ⟨pk, 0, none⟩), out, .agg #[.int .u64 tb, .int .u8 tf, .int .i64 te], .bool ok]) ∧ Box3 w' pk (.int .i64 e) (.int .i64 f) (.int .u8 0) ∧ Below w.heap.size w w'

theorem none_info : (Tryz.prog.info? 202).map (fun i => i.zero) = some (some (.agg #[.bool false])) := by kernel_rfl

theorem ta_yes (v : Value) (W : World) : (Instr.typeAssert (.iface 202 v) 94 202 true).run Tryz.prog W = .ok (.tuple #[v, .bool true]) W := by
  simp [Instr.typeAssert, run_underlying Tryz.underlying202]

theorem ta_no {T : TypeId} (h : T ≠ 202) (v : Value) (W : World) : (Instr.typeAssert (.iface T v) 94 202 true).run Tryz.prog W = .ok (.tuple #[.agg #[.bool false], .bool false]) W := by
  obtain ⟨i, hi, hz⟩ := Option.map_eq_some_iff.1 none_info
  simp [Instr.typeAssert, run_underlying Tryz.underlying202, h, zeroValue, typeInfo, hi, hz]

theorem kitOpen_goodI (pk : Nat) (e f : Int) (b : Nat) (m : Int) (w : World) (h : fitsE e f b = 0) (hb : b < 18446744073709551616) (hT : Tab w)
    (hK : Box3 w pk (.int .i64 e) (.int .i64 f) (.int .u8 m)) :
    Calls Tryz.prog 160 #[.pointer (some ⟨pk, 0, none⟩), .int .u64 b] w fun en w' => ∃ T v q, en = .returned (.tuple #[.iface T v, .int .i64 0]) ∧ (∀ W : World, (Instr.typeAssert (.iface T v) 94 202 true).run Tryz.prog W = .ok (.tuple #[.agg #[.bool q], .bool (nanB e.toNat f.toNat b)]) W) ∧ Below w.heap.size w w' := by
  obtain ⟨h1, h2⟩ := fitsE_parts h
  obtain ⟨q1, q2, q3, q4⟩ := formE_ok h1
  obtain ⟨e, rfl⟩ := Int.eq_ofNat_of_zero_le (by omega : 0 ≤ e)
  obtain ⟨f, rfl⟩ := Int.eq_ofNat_of_zero_le (by omega : 0 ≤ f)
  refine (kitOpen_good pk e f b m w h1 hb h2 hT hK).mono ?_
  rintro en w' ⟨T, v, rfl, hn1, hn2, hW⟩
  show ∃ T v q, _ ∧ (∀ W : World, (Instr.typeAssert (.iface T v) 94 202 true).run Tryz.prog W = .ok (.tuple #[.agg #[.bool q], .bool (nanB e f b)]) W) ∧ _
  cases hh : nanB e f b
  · exact ⟨T, v, false, rfl, fun W => ta_no (hn2 hh) v W, hW⟩
  · obtain ⟨rfl, q, rfl⟩ := hn1 hh
    exact ⟨_, _, q, rfl, fun W => ta_yes _ W, hW⟩

theorem set3_other {w : World} {b p : Nat} {u v x : Value} (h : Box3 w b u v x) (hne : b ≠ p) (r0 r1 r2 : Value) : Box3 (((w.setCell ⟨p, 0, none⟩ r0).setCell ⟨p, 1, none⟩ r1).setCell ⟨p, 2, none⟩ r2) b u v x :=
  ⟨(cell_set3 hne r0 r1 r2).trans h.c0, (cell_set3 hne r0 r1 r2).trans h.c1, (cell_set3 hne r0 r1 r2).trans h.c2, by simp [h.z0], by simp [h.z1], by simp [h.z2]⟩

theorem kitNan_i (pk : Nat) (e f m fl : Int) (w : World) (h : formE e f = 0) (hK : Box3 w pk (.int .i64 e) (.int .i64 f) (.int .u8 m)) :
    Calls Tryz.prog 161 #[.pointer (some ⟨pk, 0, none⟩), .int .u8 fl] w fun en w' => en = .returned (.agg #[.int .u64 (nanN e.toNat f.toNat), .int .u8 fl, .int .i64 0]) ∧ Below w.heap.size w w' := by
  obtain ⟨q1, q2, q3, q4⟩ := formE_ok h
  obtain ⟨e, rfl⟩ := Int.eq_ofNat_of_zero_le (by omega : 0 ≤ e)
  obtain ⟨f, rfl⟩ := Int.eq_ofNat_of_zero_le (by omega : 0 ≤ f)
  exact kitNan_any pk e f m fl w h hK

/-- The error of two, and whether both are numbers. -/
def twoE (e f : Int) (a b : Nat) : Int := if fitsE e f a ≠ 0 then fitsE e f a else fitsE e f b
def anyK (e f : Int) (a b k : Nat) : Bool := (decide (1 ≤ k) && nanB e.toNat f.toNat a) || (decide (2 ≤ k) && nanB e.toNat f.toNat b)

def twoK (e f : Int) (a b : Nat) : Bool := decide (fitsE e f a = 0 ∧ fitsE e f b = 0) && !anyK e f a b 2

set_option maxRecDepth 100000 in
set_option maxHeartbeats 4000000 in
theorem all_any (pl : Nat) (e f : Int) (a b : Nat) (w : World) (ha : a < 18446744073709551616) (hb : b < 18446744073709551616) (hT : Tab w)
    (c0 : w.cell? ⟨pl, 0, none⟩ = some (.int .u64 a)) (c1 : w.cell? ⟨pl, 1, none⟩ = some (.int .u64 b)) :
    Calls Tryz.prog 64 #[.agg #[.int .i64 e, .int .i64 f], .int .u8 0, .slice (some ⟨pl, 0, none⟩) 2 2] w (AllK e f w (twoE e f a b) (twoK e f a b)) := by
  obtain ⟨i0, hi0, hz0, hz1, hz2⟩ := info_parts float_info
  have hpl := World.block_lt_of_cell? w ⟨pl, 0, none⟩ c0
  have hpl' : pl < w.heap.size := hpl
  go_enter Tryz.func64, Tryz.ntmps64
  go_wp2
  have hW3 := more (more (more (Below.refl w.heap.size w) (.cells #[.int .i64 e, .int .i64 f] 23)) (.cells #[.int .u64 0, .int .u8 0, .int .i64 0] 90)) (.cells #[.int .i64 e, .int .i64 f, .int .u8 0] 198)
  have R0 := (box3_new (w.alloc (.cells #[.int .i64 e, .int .i64 f] 23)) (.int .u64 0) (.int .u8 0) (.int .i64 0) 90).alloc (.cells #[.int .i64 e, .int .i64 f, .int .u8 0] 198)
  have Q0 := box3_new ((w.alloc (.cells #[.int .i64 e, .int .i64 f] 23)).alloc (.cells #[.int .u64 0, .int .u8 0, .int .i64 0] 90)) (.int .i64 e) (.int .i64 f) (.int .u8 0) 198
  rw [World.size_alloc] at R0
  rw [World.size_alloc, World.size_alloc] at Q0
  have z3 : (((w.alloc (.cells #[.int .i64 e, .int .i64 f] 23)).alloc (.cells #[.int .u64 0, .int .u8 0, .int .i64 0] 90)).alloc (.cells #[.int .i64 e, .int .i64 f, .int .u8 0] 198)).heap.size = w.heap.size + 1 + 1 + 1 := by simp
  generalize ((w.alloc (.cells #[.int .i64 e, .int .i64 f] 23)).alloc (.cells #[.int .u64 0, .int .u8 0, .int .i64 0] 90)).alloc (.cells #[.int .i64 e, .int .i64 f, .int .u8 0] 198) = w3 at hW3 R0 Q0 z3 ⊢
  go_loopw [6, 7, 10, 11, 24] (fun kp out flv an i wr => ∃ (k : Nat) (fl : Int) (L : List Value), kp = .pointer (some ⟨w.heap.size + 1 + 1, 0, none⟩) ∧ k ≤ 2 ∧ i = .int .i64 k ∧ flv = .int .u8 fl ∧ an = .bool (anyK e f a b k) ∧ (1 ≤ k → fitsE e f a = 0) ∧ (2 ≤ k → fitsE e f b = 0) ∧ wr.ownsRow w3.heap.size 94 1 out k L ∧ Below w3.heap.size w3 wr) (fun _ _ _ _ i _ => 2 - (intOf i).toNat)
  case atStart => exact ⟨0, 0, [], rfl, by omega, rfl, rfl, rfl, (fun h => absurd h (by omega)), (fun h => absurd h (by omega)), World.ownsRow_nil _ _ _ _, Below.refl _ _⟩
  case round =>
    obtain ⟨k, fl, L, rfl, hk, rfl, rfl, rfl, h1, h2, hown, hbr⟩ := hrel
    have hW := next hW3 hbr
    have d0 := cellStay c0 hW
    have d1 := cellStay c1 hW
    have R1 := R0.stay hbr
    have Q1 := Q0.stay hbr
    have hT1 := hT.below hW
    have ⟨q0, q1, q2, qz0, qz1, qz2⟩ := Q1
    rcases (by omega : k = 0 ∨ k = 1 ∨ k = 2) with rfl | rfl | rfl
    · by_cases hfa : fitsE e f a = 0
      · clear h1 h2
        cases hna : nanB e.toNat f.toNat a
        all_goals
          have cG := fun W hT1 Q1 => kitOpen_goodI (w.heap.size + 1 + 1) e f a 0 W hfa ha hT1 Q1
          rw [hna] at cG
          go_wp2_with (first
            | (go_at_call 160; (with_reducible refine (cG _ hT1 Q1).mono ?_); rintro en w4 ⟨T, v, q, rfl, hta, hb4⟩; have hW4 := next hbr hb4; have hown4 := own_keep hown hb4; have zz4 := hW4.size)
            | (at_builtin; refine wpList_append_vals _ rfl (.tmp 47) (.tmp 49) _ rfl w3.heap.size 94 i0 .nilIface 16 Tryz.underlying88 hi0 hz0 hz1 hz2 rfl _ 0 L rfl ((hown4.alloc _).alloc _) (some ⟨w4.heap.size + 1, 0, none⟩) 1 1 (fun _ => .iface T v) (fun _ => rfl) rfl (.inr ⟨w4.heap.size + 1, rfl, fun j hj => by (obtain rfl : j = 0 := by omega); simp⟩) (by unfold maxLen; omega) (by omega) (by simp; omega) ?_; intro v5 w5 hown5 hg5 hat5; have hW5 := grownOwn (more (more hW4 _) _) ((hown4.alloc _).alloc _) (Nat.le_refl _) hg5))
        all_goals exact ⟨⟨1, _, _, rfl, by omega, rfl, rfl, congrArg Value.bool (by simp [anyK, hna]), (fun _ => hfa), (fun h => absurd h (by omega)), hown5, hW5⟩, by simp [intOf]⟩
      · clear h1 h2
        have hE : twoE e f a b = fitsE e f a := if_pos hfa
        have hO : twoK e f a b = false := by unfold twoK; rw [decide_eq_false (fun hh => hfa hh.1)]; rfl
        have hB : (fitsE e f a != 0) = true := by simp [hfa]
        go_wp2_with (go_at_call 160; (with_reducible refine (kitOpen_no (w.heap.size + 1 + 1) e f a 0 _ hfa ha Q1).mono ?_); rintro en w4 ⟨v, rfl, hb4⟩; have R2 := R1.stay hb4; have ⟨r0, r1, r2, rz0, rz1, rz2⟩ := R2; have Q2 := Q1.stay hb4; have hW4 := next hW hb4)
        have ⟨t0, t1, t2⟩ := R2.set (.int .u64 0) (.int .u8 0) (.int .i64 (fitsE e f a))
        refine bodyPost_ret (v := .tuple #[.pointer (some ⟨w.heap.size + 1 + 1, 0, none⟩), .slice none 0 0, .agg #[.int .u64 0, .int .u8 0, .int .i64 (fitsE e f a)], .bool false]) (by simp [results, Tryz.results64, go_sem, t0, t1, t2]) rfl (by rw [hE, hO]; exact ⟨_, _, _, _, rfl, set3_other Q2 (by omega) _ _ _, ((hW4.setCell (by simp) _).setCell (by simp) _).setCell (by simp) _⟩)
    · have hfa := h1 (Nat.le_refl _)
      clear h1 h2
      by_cases hfb : fitsE e f b = 0
      · skip
        cases hna : nanB e.toNat f.toNat b
        all_goals
          have cG := fun W hT1 Q1 => kitOpen_goodI (w.heap.size + 1 + 1) e f b 0 W hfb hb hT1 Q1
          rw [hna] at cG
          go_wp2_with (first
            | (go_at_call 160; (with_reducible refine (cG _ hT1 Q1).mono ?_); rintro en w4 ⟨T, v, q, rfl, hta, hb4⟩; have hW4 := next hbr hb4; have hown4 := own_keep hown hb4; have zz4 := hW4.size)
            | (at_builtin; refine wpList_append_vals _ rfl (.tmp 47) (.tmp 49) _ rfl w3.heap.size 94 i0 .nilIface 16 Tryz.underlying88 hi0 hz0 hz1 hz2 rfl _ 1 L rfl ((hown4.alloc _).alloc _) (some ⟨w4.heap.size + 1, 0, none⟩) 1 1 (fun _ => .iface T v) (fun _ => rfl) rfl (.inr ⟨w4.heap.size + 1, rfl, fun j hj => by (obtain rfl : j = 0 := by omega); simp⟩) (by unfold maxLen; omega) (by omega) (by simp; omega) ?_; intro v5 w5 hown5 hg5 hat5; have hW5 := grownOwn (more (more hW4 _) _) ((hown4.alloc _).alloc _) (Nat.le_refl _) hg5))
        all_goals exact ⟨⟨2, _, _, rfl, by omega, rfl, rfl, congrArg Value.bool (by simp [anyK, hna]), (fun _ => hfa), (fun _ => hfb), hown5, hW5⟩, by simp [intOf]⟩
      · have hE : twoE e f a b = fitsE e f b := if_neg (by simp [hfa])
        have hO : twoK e f a b = false := by unfold twoK; rw [decide_eq_false (fun hh => hfb hh.2)]; rfl
        have hB : (fitsE e f b != 0) = true := by simp [hfb]
        go_wp2_with (go_at_call 160; (with_reducible refine (kitOpen_no (w.heap.size + 1 + 1) e f b 0 _ hfb hb Q1).mono ?_); rintro en w4 ⟨v, rfl, hb4⟩; have R2 := R1.stay hb4; have ⟨r0, r1, r2, rz0, rz1, rz2⟩ := R2; have Q2 := Q1.stay hb4; have hW4 := next hW hb4)
        have ⟨t0, t1, t2⟩ := R2.set (.int .u64 0) (.int .u8 0) (.int .i64 (fitsE e f b))
        refine bodyPost_ret (v := .tuple #[.pointer (some ⟨w.heap.size + 1 + 1, 0, none⟩), .slice none 0 0, .agg #[.int .u64 0, .int .u8 0, .int .i64 (fitsE e f b)], .bool false]) (by simp [results, Tryz.results64, go_sem, t0, t1, t2]) rfl (by rw [hE, hO]; exact ⟨_, _, _, _, rfl, set3_other Q2 (by omega) _ _ _, ((hW4.setCell (by simp) _).setCell (by simp) _).setCell (by simp) _⟩)
    · have hfa := h1 (by omega)
      have hfb := h2 (Nat.le_refl _)
      clear h1 h2
      have hE : twoE e f a b = 0 := by unfold twoE; rw [if_neg (by simp [hfa])]; exact hfb
      have hO : twoK e f a b = !anyK e f a b 2 := by unfold twoK; rw [decide_eq_true ⟨hfa, hfb⟩]; rfl
      have ⟨r0, r1, r2, rz0, rz1, rz2⟩ := R1
      have cN := fun W Q1 => kitNan_i (w.heap.size + 1 + 1) e f 0 fl W (fitsE_parts hfa).1 Q1
      cases hany : anyK e f a b 2
      · rw [hany] at hO
        go_wp2
        go_region
        all_goals go_wp2
        all_goals
          have ⟨t0, t1, t2⟩ := R1.set (.int .u64 0) (.int .u8 0) (.int .i64 0)
          refine bodyPost_ret (v := .tuple #[.pointer (some ⟨w.heap.size + 1 + 1, 0, none⟩), _, .agg #[.int .u64 0, .int .u8 0, .int .i64 0], .bool true]) (by simp [results, Tryz.results64, go_sem, t0, t1, t2]; rfl) rfl (by rw [hE, hO]; exact ⟨_, _, _, _, rfl, Box3.stay (set3_other Q1 (by omega) _ _ _) (Below.refl _ _).drew, (((hW.setCell (by simp) _).setCell (by simp) _).setCell (by simp) _).drew⟩)
      · rw [hany] at hO
        go_wp2_with (go_at_call 161; (with_reducible refine (cN _ Q1).mono ?_); rintro en w4 ⟨rfl, hb4⟩; have R2 := R1.stay hb4; have Q2 := Q1.stay hb4; have hW4 := next hW hb4; have ⟨rr0, rr1, rr2, rrz0, rrz1, rrz2⟩ := R2)
        have ⟨t0, t1, t2⟩ := R2.set (.int .u64 (nanN e.toNat f.toNat)) (.int .u8 fl) (.int .i64 0)
        refine bodyPost_ret (v := .tuple #[.pointer (some ⟨w.heap.size + 1 + 1, 0, none⟩), .slice none 0 0, .agg #[.int .u64 (nanN e.toNat f.toNat), .int .u8 fl, .int .i64 0], .bool false]) (by simp [results, Tryz.results64, go_sem, t0, t1, t2]) rfl (by rw [hE, hO]; exact ⟨_, _, _, _, rfl, set3_other Q2 (by omega) _ _ _, ((hW4.setCell (by simp) _).setCell (by simp) _).setCell (by simp) _⟩)

end Go.Proofs.YtkifhlgmbckekaaGreatDoor

namespace Go.Proofs.YtkifhlgmbckekaaGreatDoor
open Go.RowKit Go.Lb

/-- The one of both that is picked. -/
def pickN (e f : Int) (g : Bool) (a b : Nat) : Nat :=
  if twoE e f a b ≠ 0 then 0 else if anyK e f a b 2 = true then nanN e.toNat f.toNat else
  if (decide (rkN (e.toNat + f.toNat) a < rkN (e.toNat + f.toNat) b) == g) = true then b else a

theorem twoE_ok {e f : Int} {a b : Nat} (h : twoE e f a b = 0) : fitsE e f a = 0 ∧ fitsE e f b = 0 := by
  unfold twoE at h
  by_cases h0 : fitsE e f a = 0
  · rw [if_neg (by simp [h0])] at h
    exact ⟨h0, h⟩
  · rw [if_pos h0] at h
    exact absurd h h0

theorem twoK_of {e f : Int} {a b : Nat} (h : twoE e f a b = 0) : twoK e f a b = !anyK e f a b 2 := by
  obtain ⟨h1, h2⟩ := twoE_ok h
  unfold twoK
  rw [decide_eq_true ⟨h1, h2⟩]
  rfl

theorem twoK_no {e f : Int} {a b : Nat} (h : twoE e f a b ≠ 0) : twoK e f a b = false := by
  unfold twoK
  rw [decide_eq_false, Bool.false_and]
  intro hh
  unfold twoE at h
  rw [if_neg (by simp [hh.1])] at h
  exact h hh.2

end Go.Proofs.YtkifhlgmbckekaaGreatDoor
