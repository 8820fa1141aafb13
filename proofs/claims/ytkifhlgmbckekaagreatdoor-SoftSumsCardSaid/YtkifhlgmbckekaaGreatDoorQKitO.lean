/-
  A float of soft, opened: what stands behind the interface.
-/
import Derived.Test.YtkifhlgmbckekaaGreatDoorQMS17
import Derived.Test.YtkifhlgmbckekaaGreatDoorSoftF
import Derived.Test.YtkifhlgmbckekaaGreatDoorQMS0
namespace Go.Proofs.YtkifhlgmbckekaaGreatDoor

open Go.RowKit Go.Lb

theorem and_maskN {b k : Nat} (hb : b < 18446744073709551616) (hk : k ≤ 64) : bits .and .u64 (b : Int) (maskN k : Int) = ((b % pw k : Nat) : Int) := by
  have hp := pw_le hk
  rw [show pw 64 = 18446744073709551616 by unfold pw; rfl] at hp
  have hm := maskN_eq k
  have hpos := pw_pos k
  rw [u64_and_nat _ _ hb (by omega)]
  congr 1
  unfold maskN pw
  exact Nat.and_two_pow_sub_one_eq_mod b k

/-- Quiet, as the program reckons it. -/
theorem quiet_soft {f b : Nat} (hf : 1 ≤ f) (hf2 : f ≤ 52) (hb : b < 18446744073709551616) :
    (bits .and .u64 (b : Int) (maskN f : Int) != bits .and .u64 (bits .and .u64 (b : Int) (maskN f : Int)) (maskN (f - 1) : Int)) = qtB f b := by
  have h1 := and_maskN (b := b) (k := f) hb (by omega)
  have hlt : b % pw f < pw f := Nat.mod_lt _ (pw_pos f)
  have hp : pw f = 2 * pw (f - 1) := by
    obtain ⟨k, rfl⟩ : ∃ k, f = k + 1 := ⟨f - 1, by omega⟩
    rw [pw_succ]
    rfl
  have hle := pw_le (show f ≤ 52 from hf2)
  rw [show pw 52 = 4503599627370496 by unfold pw; rfl] at hle
  rw [h1, and_maskN (by omega) (by omega)]
  unfold qtB
  rw [frN_eq]
  have hpos := pw_pos (f - 1)
  generalize b % pw f = r at *
  generalize pw (f - 1) = P at *
  by_cases hr : r < P
  · rw [Nat.mod_eq_of_lt hr, Nat.div_eq_of_lt hr]
    simp
  · have hd : r / P = 1 := Nat.div_eq_of_lt_le (by omega) (by omega)
    have hmod : r % P = r - P := by rw [Nat.mod_eq_sub_mod (by omega), Nat.mod_eq_of_lt (by omega)]
    rw [hd, hmod]
    simp
    omega

set_option maxRecDepth 100000 in
set_option maxHeartbeats 1600000 in
theorem payload_q (e f b : Nat) (w : World) (h : formE (e : Int) (f : Int) = 0) (hb : b < 18446744073709551616) (hp : b < pw (1 + e + f)) (hxm : exN e f b = maskN e) (hf0 : frN f b ≠ 0) :
    Calls Tryz.prog 80 #[.agg #[.int .i64 e, .int .i64 f], .int .u64 b] w fun en w' => ∃ p : Int, en = .returned (.tuple #[.int .u64 p, .bool (qtB f b), .int .i64 0]) ∧ Below w.heap.size w w' := by
  obtain ⟨q1, q2, q3, q4⟩ := formE_ok h
  have hC := classN_nan hxm (by omega) hf0
  have hf1 : (f : Int) - 1 = ((f - 1 : Nat) : Int) := by omega
  have HQ := Lib.hid (quiet_soft (f := f) (b := b) (by omega) (by omega) hb)
  go_enter Tryz.func80, Tryz.ntmps80
  go_wp2_with (first
    | (go_at_call 78; refine (class_any e f b _ h hb hp).mono ?_; rintro en w1 ⟨rfl, hb1⟩; rw [hC]; have A := (box2_new w _ _ _).stay hb1; have ⟨a0, a1⟩ := A; have hW := next (more (Below.refl _ _) _) hb1)
    | (go_at_call 171; (with_reducible refine (mask_any f _ (by omega)).mono ?_); rintro en w2 ⟨rfl, rfl⟩)
    | (go_at_call 171; (with_reducible refine (mask_any (f - 1) _ (by omega)).mono ?_); rintro en w2 ⟨rfl, rfl⟩))
  refine bodyPost_ret (v := .tuple #[.int .u64 (bits .and .u64 (bits .and .u64 (b : Int) (maskN f : Int)) (maskN (f - 1) : Int)), .bool (bits .and .u64 (b : Int) (maskN f : Int) != bits .and .u64 (bits .and .u64 (b : Int) (maskN f : Int)) (maskN (f - 1) : Int)), .int .i64 0]) (by simp [results, Tryz.results80, go_sem]) rfl ⟨_, by rw [HQ.out], hW⟩

/-- A float, opened. -/
def OpF (e f b : Nat) (v : Value) (base : Nat) (w : World) : Prop :=
  (nanB e f b = true → v = .iface 202 (.agg #[.bool (!qtB f b)])) ∧
  (infB e f b = true → v = .iface 283 (.agg #[.bool (sgB e f b)])) ∧
  (exN e f b ≠ maskN e → ∃ ao n c, v = .iface 176 (.agg #[.bool (sgB e f b), .bool (valS e f b), .slice ao n c, .int .i64 (valX e f b), .int .u64 b]) ∧ Fr 150 w base ao n c (limbs (valN e f b)))

theorem OpF.below {e f b : Nat} {v : Value} {base : Nat} {w w' : World} (h : OpF e f b v base w) (hb : Below w.heap.size w w') : OpF e f b v base w' :=
  ⟨h.1, h.2.1, fun hx => by obtain ⟨ao, n, c, h1, h2⟩ := h.2.2 hx; exact ⟨ao, n, c, h1, h2.below hb⟩⟩

theorem OpF.mono {e f b : Nat} {v : Value} {base base' : Nat} {w : World} (h : OpF e f b v base w) (hb : base' ≤ base) : OpF e f b v base' w :=
  ⟨h.1, h.2.1, fun hx => by obtain ⟨ao, n, c, h1, h2⟩ := h.2.2 hx; exact ⟨ao, n, c, h1, h2.mono hb⟩⟩

theorem OpF.setCell {e f b : Nat} {v : Value} {base : Nat} {w : World} (h : OpF e f b v base w) {p : Addr} (hp : p.block < base) (u : Value) : OpF e f b v base (w.setCell p u) :=
  ⟨h.1, h.2.1, fun hx => by obtain ⟨ao, n, c, h1, h2⟩ := h.2.2 hx; exact ⟨ao, n, c, h1, h2.setCell hp u⟩⟩

theorem OpF.drew {e f b : Nat} {v : Value} {base : Nat} {w : World} (h : OpF e f b v base w) : OpF e f b v base w.drew :=
  ⟨h.1, h.2.1, fun hx => by obtain ⟨ao, n, c, h1, h2⟩ := h.2.2 hx; exact ⟨ao, n, c, h1, h2.drew⟩⟩

theorem OpF.alloc {e f b : Nat} {v : Value} {base : Nat} {w : World} (h : OpF e f b v base w) (o : Obj) : OpF e f b v base (w.alloc o) :=
  ⟨h.1, h.2.1, fun hx => by obtain ⟨ao, n, c, h1, h2⟩ := h.2.2 hx; exact ⟨ao, n, c, h1, h2.alloc o⟩⟩

/-- A number stays where a row of another kind grows. -/
theorem fr_grownT {e t : TypeId} {w w' : World} {base base' : Nat} {ao : Option Addr} {n c k : Nat} {xs : List Nat} {v : Value} {L : List Value} (h : Fr e w base ao n c xs) (hne : e ≠ t) (hown : w.ownsRow base' t 1 v k L) (hg : w.grownBy w' v.ownBlock) : Fr e w' base ao n c xs := by
  obtain ⟨h1, h2⟩ := h
  rcases h2 with ⟨rfl, rfl, rfl⟩ | ⟨g, cur, rfl, hg1, hh, hc⟩
  · exact ⟨⟨h1.len, h1.le, h1.cap, h1.ok, fun hn => absurd hn (by decide)⟩, .inl ⟨rfl, rfl, rfl⟩⟩
  · have hl := (Array.getElem?_eq_some_iff.1 hh).1
    have hb : some g ≠ v.ownBlock := by
      intro hE
      rcases hown.2 with ⟨rfl, _⟩ | ⟨g', cap, cur', rfl, _, hh', _⟩
      · cases hE
      · have : g = g' := by simpa [Value.ownBlock] using hE
        subst this
        rw [hh] at hh'
        injection hh' with hh'
        injection hh' with _ ht _
        exact hne ht
    have hk := hg.block g hl hb
    refine ⟨⟨h1.len, h1.le, h1.cap, h1.ok, fun hn => ?_⟩, .inr ⟨g, cur, rfl, hg1, hk.trans hh, hc⟩⟩
    obtain ⟨b, o, e1, _, hcell⟩ := h1.at_ hn
    cases e1
    exact ⟨g, 0, rfl, Nat.lt_of_lt_of_le hl hg.size, fun j hj => (World.cell?_of_block hk).trans (hcell j hj)⟩

theorem OpF.grown {e f b : Nat} {v x : Value} {base base' k : Nat} {w w' : World} {L : List Value} (h : OpF e f b v base w) (hown : w.ownsRow base' 94 1 x k L) (hg : w.grownBy w' x.ownBlock) : OpF e f b v base w' :=
  ⟨h.1, h.2.1, fun hx => by obtain ⟨ao, n, c, h1, h2⟩ := h.2.2 hx; exact ⟨ao, n, c, h1, fr_grownT h2 (by decide) hown hg⟩⟩

/-- What open answers of a float that fits. -/
def OpA (e f b : Nat) (w : World) (en : Ending) (w' : World) : Prop := ∃ v, en = .returned (.tuple #[v, .int .i64 0]) ∧ OpF e f b v w.heap.size w' ∧ Below w.heap.size w w'

set_option maxRecDepth 100000 in
set_option maxHeartbeats 1600000 in
theorem opA_inf (pk e f b : Nat) (m : Int) (w : World) (h : formE (e : Int) (f : Int) = 0) (hb : b < 18446744073709551616) (hp : b < pw (1 + e + f)) (hxm : exN e f b = maskN e) (hf0 : frN f b = 0)
    (hK : Box3 w pk (.int .i64 e) (.int .i64 f) (.int .u8 m)) :
    Calls Tryz.prog 160 #[.pointer (some ⟨pk, 0, none⟩), .int .u64 b] w (OpA e f b w) := by
  obtain ⟨q1, q2, q3, q4⟩ := formE_ok h
  have hC := classN_inf hxm (by omega) hf0
  have hn : nanB e f b = false := decide_eq_false fun hh => hh.2 hf0
  have hO : ∀ W, OpF e f b (.iface 283 (.agg #[.bool (sgB e f b)])) w.heap.size W := fun W => ⟨fun hh => (by rw [hn] at hh; cases hh), fun _ => rfl, fun hh => absurd hxm hh⟩
  have ⟨k0, k1, k2, kz0, kz1, kz2⟩ := hK
  go_enter Tryz.func160, Tryz.ntmps160
  go_wp2_with (first
    | (go_at_call 78; refine (class_any e f b _ h hb hp).mono ?_; rintro en w1 ⟨rfl, hb1⟩; rw [hC]; have hW := hb1; have K1 := hK.stay hW; have ⟨j0, j1, j2, jz0, jz1, jz2⟩ := K1)
    | (go_at_call 170; refine (split_any e f b _ h hb hp).mono ?_; rintro en w2 ⟨rfl, hb2⟩; replace hW := next hW hb2))
  refine bodyPost_ret (v := .tuple #[.iface 283 (.agg #[.bool (sgB e f b)]), .int .i64 0]) (by simp [results, Tryz.results160, go_sem]) rfl ⟨_, rfl, hO _, more hW _⟩

set_option maxRecDepth 100000 in
set_option maxHeartbeats 1600000 in
theorem opA_nan (pk e f b : Nat) (m : Int) (w : World) (h : formE (e : Int) (f : Int) = 0) (hb : b < 18446744073709551616) (hp : b < pw (1 + e + f)) (hxm : exN e f b = maskN e) (hf0 : frN f b ≠ 0)
    (hK : Box3 w pk (.int .i64 e) (.int .i64 f) (.int .u8 m)) :
    Calls Tryz.prog 160 #[.pointer (some ⟨pk, 0, none⟩), .int .u64 b] w (OpA e f b w) := by
  obtain ⟨q1, q2, q3, q4⟩ := formE_ok h
  have hC := classN_nan hxm (by omega) hf0
  have hi : infB e f b = false := decide_eq_false fun hh => hf0 hh.2
  have hO : ∀ W, OpF e f b (.iface 202 (.agg #[.bool (!qtB f b)])) w.heap.size W := fun W => ⟨fun _ => rfl, fun hh => (by rw [hi] at hh; cases hh), fun hh => absurd hxm hh⟩
  have cP := fun W => payload_q e f b W h hb hp hxm hf0
  generalize qtB f b = q at hO cP
  have ⟨k0, k1, k2, kz0, kz1, kz2⟩ := hK
  go_enter Tryz.func160, Tryz.ntmps160
  go_wp2_with (first
    | (go_at_call 78; refine (class_any e f b _ h hb hp).mono ?_; rintro en w1 ⟨rfl, hb1⟩; rw [hC]; have hW := hb1; have K1 := hK.stay hW; have ⟨j0, j1, j2, jz0, jz1, jz2⟩ := K1)
    | (go_at_call 170; refine (split_any e f b _ h hb hp).mono ?_; rintro en w2 ⟨rfl, hb2⟩; replace hW := more (next hW hb2) (.cells #[.bool (sgB e f b), .int .i64 (maskN e), .int .u64 (frN f b)] 209); have K2 := hK.stay hW; have ⟨l0, l1, l2, lz0, lz1, lz2⟩ := K2)
    | (go_at_call 80; refine (cP _).mono ?_; rintro en w3 ⟨p, rfl, hb3⟩; replace hW := next hW hb3))
  refine bodyPost_ret (v := .tuple #[.iface 202 (.agg #[.bool (!q)]), .int .i64 0]) (by simp [results, Tryz.results160, go_sem]) rfl ⟨_, rfl, hO _, hW⟩

set_option maxRecDepth 100000 in
set_option maxHeartbeats 1600000 in
theorem opA_fin (pk e f b : Nat) (m : Int) (w : World) (h : formE (e : Int) (f : Int) = 0) (hb : b < 18446744073709551616) (hp : b < pw (1 + e + f)) (hxm : exN e f b ≠ maskN e) (hT : Tab w)
    (hK : Box3 w pk (.int .i64 e) (.int .i64 f) (.int .u8 m)) :
    Calls Tryz.prog 160 #[.pointer (some ⟨pk, 0, none⟩), .int .u64 b] w (OpA e f b w) := by
  obtain ⟨q1, q2, q3, q4⟩ := formE_ok h
  have hC : classN e (exN e f b) (frN f b) ≠ 5 ∧ classN e (exN e f b) (frN f b) ≠ 4 := by
    unfold classN
    rw [if_neg hxm]
    repeat' split
    all_goals exact ⟨by decide, by decide⟩
  have hn : nanB e f b = false := decide_eq_false fun hh => hxm hh.1
  have hi : infB e f b = false := decide_eq_false fun hh => hxm hh.1
  have hO : ∀ W ao n c, Fr 150 W w.heap.size ao n c (limbs (valN e f b)) → OpF e f b (.iface 176 (.agg #[.bool (sgB e f b), .bool (valS e f b), .slice ao n c, .int .i64 (valX e f b), .int .u64 b])) w.heap.size W := fun W ao n c hF => ⟨fun hh => (by rw [hn] at hh; cases hh), fun hh => (by rw [hi] at hh; cases hh), fun _ => ⟨ao, n, c, rfl, hF⟩⟩
  have cl := fun W => class_any e f b W h hb hp
  have hV := val_fine h hp hxm
  clear hxm hn hi
  generalize classN e (exN e f b) (frN f b) = cc at hC cl
  have hC5 : ((cc : Int) == 5) = false := by simp; omega
  have hC4 : ((cc : Int) == 4) = false := by simp; omega
  have ⟨k0, k1, k2, kz0, kz1, kz2⟩ := hK
  go_enter Tryz.func160, Tryz.ntmps160
  go_wp2_with (first
    | (go_at_call 78; refine (cl _).mono ?_; rintro en w1 ⟨rfl, hb1⟩; have hW := hb1; have K1 := hK.stay hW; have ⟨j0, j1, j2, jz0, jz1, jz2⟩ := K1)
    | (go_at_call 170; refine (split_any e f b _ h hb hp).mono ?_; rintro en w2 ⟨rfl, hb2⟩; replace hW := more (next hW hb2) (.cells #[.bool (sgB e f b), .int .i64 (exN e f b), .int .u64 (frN f b)] 209); have P := box3_new w2 (.bool (sgB e f b)) (.int .i64 (exN e f b)) (.int .u64 (frN f b)) 209; have ⟨pp0, pp1, pp2, pz0, pz1, pz2⟩ := P; have K2 := hK.stay hW; have ⟨l0, l1, l2, lz0, lz1, lz2⟩ := K2)
    | (go_at_call 82; refine (value_any e f b _ hb (hT.below hW)).mono ?_; rintro en w3 ⟨ao, n, c, rfl, hF, hb3⟩; rw [hV]; have sz := hW.size; replace hW := next hW hb3; replace P := P.stay hb3; have Pa := P.alloc (.cells #[.bool (valS e f b), .slice ao n c, .int .i64 (valX e f b)] 81); have ⟨pa0, pa1, pa2, paz0, paz1, paz2⟩ := Pa))
  refine bodyPost_ret (v := .tuple #[.iface 176 (.agg #[.bool (sgB e f b), .bool (valS e f b), .slice ao n c, .int .i64 (valX e f b), .int .u64 b]), .int .i64 0]) (by simp [results, Tryz.results160, go_sem]) rfl ⟨_, rfl, hO _ _ _ _ ((hF.mono sz).alloc _), more hW _⟩

theorem opA_any (pk : Nat) (e f : Int) (b : Nat) (m : Int) (w : World) (h : fitsE e f b = 0) (hb : b < 18446744073709551616) (hT : Tab w)
    (hK : Box3 w pk (.int .i64 e) (.int .i64 f) (.int .u8 m)) :
    Calls Tryz.prog 160 #[.pointer (some ⟨pk, 0, none⟩), .int .u64 b] w (OpA e.toNat f.toNat b w) := by
  obtain ⟨h1, hp⟩ := fitsE_parts h
  obtain ⟨q1, q2, q3, q4⟩ := formE_ok h1
  obtain ⟨e, rfl⟩ := Int.eq_ofNat_of_zero_le (by omega : 0 ≤ e)
  obtain ⟨f, rfl⟩ := Int.eq_ofNat_of_zero_le (by omega : 0 ≤ f)
  show Calls _ _ _ _ (OpA e f b w)
  by_cases hxm : exN e f b = maskN e
  · by_cases hf0 : frN f b = 0
    · exact opA_inf pk e f b m w h1 hb hp hxm hf0 hK
    · exact opA_nan pk e f b m w h1 hb hp hxm hf0 hK
  · exact opA_fin pk e f b m w h1 hb hp hxm hT hK

/-- Is it none? -/
theorem OpF.ask {e f b : Nat} {v : Value} {base : Nat} {w : World} (h : OpF e f b v base w) :
    ∃ T x, v = .iface T x ∧ ∀ W : World, (Instr.typeAssert (.iface T x) 94 202 true).run Tryz.prog W = .ok (.tuple #[.agg #[.bool (nanB e f b && !qtB f b)], .bool (nanB e f b)]) W := by
  by_cases hxm : exN e f b = maskN e
  · by_cases hf0 : frN f b = 0
    · have hn : nanB e f b = false := decide_eq_false fun hh => hh.2 hf0
      exact ⟨_, _, h.2.1 (decide_eq_true ⟨hxm, hf0⟩), fun W => by rw [hn]; exact ta_no (by decide) _ W⟩
    · have hn : nanB e f b = true := decide_eq_true ⟨hxm, hf0⟩
      exact ⟨_, _, h.1 hn, fun W => by rw [hn]; exact ta_yes _ W⟩
  · have hn : nanB e f b = false := decide_eq_false fun hh => hxm hh.1
    obtain ⟨ao, n, c, h1, _⟩ := h.2.2 hxm
    exact ⟨_, _, h1, fun W => by rw [hn]; exact ta_no (by decide) _ W⟩

end Go.Proofs.YtkifhlgmbckekaaGreatDoor

