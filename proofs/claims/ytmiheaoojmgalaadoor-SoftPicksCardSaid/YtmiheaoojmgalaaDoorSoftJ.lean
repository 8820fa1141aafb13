/-
  The walks of the reference's nans, less, pick, Min, Max. The walks of the reference's pick, Min, Max.
-/
import Derived.Test.YtmiheaoojmgalaaDoorSoftH
import Derived.Deep.Cut
import Derived.Deep.RegionHeld3
namespace Go.Proofs.YtmiheaoojmgalaaDoor
open Go.RowKit Go.Lb

/-- Is one none, and is one of these loud? -/
def nansB : List (Bool × Bool) → Bool
  | [] => false
  | p :: l => p.1 || nansB l
def loudB : List (Bool × Bool) → Bool
  | [] => false
  | p :: l => (p.1 && !p.2) || loudB l

theorem nansB_snoc (p : Bool × Bool) : ∀ l : List (Bool × Bool), nansB (l ++ [p]) = (nansB l || p.1)
  | [] => by simp [nansB]
  | q :: l => by simp [nansB, nansB_snoc p l, Bool.or_assoc]
theorem loudB_snoc (p : Bool × Bool) : ∀ l : List (Bool × Bool), loudB (l ++ [p]) = (loudB l || (p.1 && !p.2))
  | [] => by simp [loudB]
  | q :: l => by simp [loudB, loudB_snoc p l, Bool.or_assoc]

def loudN (l : List (Bool × Bool)) : Int := if loudB l = true then 16 else 0

theorem take_snoc {L : List (Bool × Bool)} {k : Nat} (h : k < L.length) : L.take (k + 1) = L.take k ++ [L[k]] := by
  rw [List.take_add_one, List.getElem?_eq_getElem h]; rfl

set_option maxRecDepth 100000 in
set_option maxHeartbeats 1600000 in
theorem nans_any (pl : Nat) (L : List (Bool × Bool)) (w : World) (hl : L.length ≤ 1000) (hv : ∀ j, (h : j < L.length) → w.cell? ⟨pl, j * 7 + 1, none⟩ = some (.bool L[j].1) ∧ w.cell? ⟨pl, j * 7 + 2, none⟩ = some (.bool L[j].2)) :
    Calls Tryd.prog 72 #[.slice (some ⟨pl, 0, none⟩) L.length L.length] w fun en w' => en = .returned (.tuple #[.bool (nansB L), .int .u8 (loudN L)]) ∧ Below w.heap.size w w' := by
  go_enter Tryd.func72, Tryd.ntmps72
  go_wp2
  go_loopw [4, 5, 6] (fun an fl i wr => ∃ k : Nat, k ≤ L.length ∧ i = .int .i64 k ∧ an = .bool (nansB (L.take k)) ∧ fl = .int .u8 (loudN (L.take k)) ∧ wr = w) (fun _ _ i _ => L.length - (intOf i).toNat)
  case atStart => exact ⟨0, by omega, rfl, rfl, rfl, rfl⟩
  case round =>
    obtain ⟨k, hk, rfl, rfl, rfl, rfl⟩ := hrel
    by_cases hkl : k < L.length
    · obtain ⟨v1, v2⟩ := hv k hkl
      have ht := take_snoc hkl
      have t1 := nansB_snoc L[k] (L.take k)
      have t2 := loudB_snoc L[k] (L.take k)
      rw [← ht] at t1 t2
      have t3 : loudN (L.take (k + 1)) = if (L[k].1 && !L[k].2) = true then 16 else loudN (L.take k) := by
        unfold loudN
        rw [t2]
        cases loudB (List.take k L) <;> cases (L[k].1 && !L[k].2) <;> rfl
      clear t2 ht hv
      cases h1 : L[k].1
      · rw [h1] at v1 t1 t3
        go_wp2
        exact ⟨⟨k + 1, by omega, rfl, by rw [t1, Bool.or_false], by rw [t3]; rfl, trivial⟩, by simp [intOf]; omega⟩
      · rw [h1] at v1 t1 t3
        cases h2 : L[k].2
        · rw [h2] at v2 t3
          go_wp2
          exact ⟨⟨k + 1, by omega, rfl, by rw [t1, Bool.or_true], by rw [t3]; rfl, trivial⟩, by simp [intOf]; omega⟩
        · rw [h2] at v2 t3
          go_wp2
          exact ⟨⟨k + 1, by omega, rfl, by rw [t1, Bool.or_true], by rw [t3]; rfl, trivial⟩, by simp [intOf]; omega⟩
    · obtain rfl : k = L.length := by omega
      rw [List.take_length]
      clear hv
      go_wp2
      refine bodyPost_ret (v := .tuple #[.bool (nansB L), .int .u8 (loudN L)]) (by simp [results, Tryd.results72, go_sem]) rfl ⟨rfl, Below.refl _ _⟩

theorem Box7.other {w : World} {b : Nat} {v0 v1 v2 v3 v4 v5 v6 : Value} (h : Box7 w b v0 v1 v2 v3 v4 v5 v6) {p : Nat} (hne : p ≠ b) (u0 u1 u2 u3 u4 u5 u6 : Value) :
    Box7 (((((((w.setCell ⟨p, 0, none⟩ u0).setCell ⟨p, 1, none⟩ u1).setCell ⟨p, 2, none⟩ u2).setCell ⟨p, 3, none⟩ u3).setCell ⟨p, 4, none⟩ u4).setCell ⟨p, 5, none⟩ u5).setCell ⟨p, 6, none⟩ u6) b v0 v1 v2 v3 v4 v5 v6 := by
  obtain ⟨h0, h1, h2, h3, h4, h5, h6, z0, z1, z2, z3, z4, z5, z6⟩ := h
  constructor
  all_goals first
    | (simp [World.cell?_setCell_other, h0, h1, h2, h3, h4, h5, h6]; done)
    | (simp [z0, z1, z2, z3, z4, z5, z6]; done)

theorem box7_at {w : World} {b : Nat} (hb : w.heap.size = b) (v0 v1 v2 v3 v4 v5 v6 : Value) (t : TypeId) : Box7 (w.alloc (.cells #[v0, v1, v2, v3, v4, v5, v6] t)) b v0 v1 v2 v3 v4 v5 v6 := hb ▸ box7_new w v0 v1 v2 v3 v4 v5 v6 t
theorem box7_nex {w : World} {b : Nat} (hb : w.heap.size = b) (o : Obj) (v0 v1 v2 v3 v4 v5 v6 : Value) (t : TypeId) : Box7 ((w.alloc o).alloc (.cells #[v0, v1, v2, v3, v4, v5, v6] t)) (b + 1) v0 v1 v2 v3 v4 v5 v6 := by
  have := box7_new (w.alloc o) v0 v1 v2 v3 v4 v5 v6 t
  rw [World.size_alloc, hb] at this
  exact this

/-- Seven cells, whatever they hold. -/
def Ex7 (w : World) (b : Nat) : Prop := ∃ v0 v1 v2 v3 v4 v5 v6, Box7 w b v0 v1 v2 v3 v4 v5 v6
theorem Ex7.of {w : World} {b : Nat} {v0 v1 v2 v3 v4 v5 v6 : Value} (h : Box7 w b v0 v1 v2 v3 v4 v5 v6) : Ex7 w b := ⟨_, _, _, _, _, _, _, h⟩
theorem Ex7.alloc {w : World} {b : Nat} (h : Ex7 w b) (o : Obj) : Ex7 (w.alloc o) b := by
  obtain ⟨_, _, _, _, _, _, _, h⟩ := h
  exact .of (h.alloc o)
theorem Ex7.set {w : World} {b : Nat} (h : Ex7 w b) (u0 u1 u2 u3 u4 u5 u6 : Value) :
    Box7 (((((((w.setCell ⟨b, 0, none⟩ u0).setCell ⟨b, 1, none⟩ u1).setCell ⟨b, 2, none⟩ u2).setCell ⟨b, 3, none⟩ u3).setCell ⟨b, 4, none⟩ u4).setCell ⟨b, 5, none⟩ u5).setCell ⟨b, 6, none⟩ u6) b u0 u1 u2 u3 u4 u5 u6 := by
  obtain ⟨_, _, _, _, _, _, _, h⟩ := h
  exact h.set ..
theorem Ex7.other {w : World} {b : Nat} (h : Ex7 w b) {p : Nat} (hne : p ≠ b) (u0 u1 u2 u3 u4 u5 u6 : Value) :
    Ex7 (((((((w.setCell ⟨p, 0, none⟩ u0).setCell ⟨p, 1, none⟩ u1).setCell ⟨p, 2, none⟩ u2).setCell ⟨p, 3, none⟩ u3).setCell ⟨p, 4, none⟩ u4).setCell ⟨p, 5, none⟩ u5).setCell ⟨p, 6, none⟩ u6) b := by
  obtain ⟨_, _, _, _, _, _, _, h⟩ := h
  exact .of (h.other hne ..)

/-- A number made of late: its block lies between two bounds. -/
structure FrT (e : TypeId) (w : World) (base top : Nat) (ao : Option Addr) (n c : Nat) (xs : List Nat) : Prop where
  fr : Fr e w base ao n c xs
  le : top ≤ w.heap.size
  lt : ∀ g, blkOf ao = some g → g < top

theorem frT {e : TypeId} {w : World} {base : Nat} {ao : Option Addr} {n c : Nat} {xs : List Nat} (h : Fr e w base ao n c xs) : FrT e w base w.heap.size ao n c xs := ⟨h, Nat.le_refl _, fun _ hg => (fr_lt h hg).2⟩
theorem FrT.slo {e : TypeId} {w w' : World} {base top : Nat} {ao : Option Addr} {n c : Nat} {xs : List Nat} (_ : FrT e w base top ao n c xs) (h : FrT e w' base top ao n c xs) : Sl w' ao n c xs := h.fr.sl
theorem FrT.below {e : TypeId} {w w' : World} {base top : Nat} {ao : Option Addr} {n c : Nat} {xs : List Nat} (h : FrT e w base top ao n c xs) (hb : Below w.heap.size w w') : FrT e w' base top ao n c xs := ⟨h.fr.below hb, Nat.le_trans h.le hb.size, h.lt⟩
theorem FrT.alloc {e : TypeId} {w : World} {base top : Nat} {ao : Option Addr} {n c : Nat} {xs : List Nat} (h : FrT e w base top ao n c xs) (o : Obj) : FrT e (w.alloc o) base top ao n c xs := h.below ((Below.refl _ _).alloc (Nat.le_refl _) o)
theorem FrT.drew {e : TypeId} {w : World} {base top : Nat} {ao : Option Addr} {n c : Nat} {xs : List Nat} (h : FrT e w base top ao n c xs) : FrT e w.drew base top ao n c xs := h.below (Below.refl _ _).drew
theorem FrT.setCell {e : TypeId} {w : World} {base top : Nat} {ao : Option Addr} {n c : Nat} {xs : List Nat} (h : FrT e w base top ao n c xs) {p : Addr} (hp : p.block < base ∨ top ≤ p.block) (v : Value) : FrT e (w.setCell p v) base top ao n c xs :=
  ⟨fr_at h.fr (by simp) fun g hg _ => Below.heap_setCell w p v g (by have := (fr_lt h.fr hg).1; have := h.lt g hg; omega), by simpa using h.le, h.lt⟩
theorem FrT.set7 {e : TypeId} {w : World} {base top : Nat} {ao : Option Addr} {n c : Nat} {xs : List Nat} (h : FrT e w base top ao n c xs) {p : Nat} (hp : p < base ∨ top ≤ p) (u0 u1 u2 u3 u4 u5 u6 : Value) :
    FrT e (((((((w.setCell ⟨p, 0, none⟩ u0).setCell ⟨p, 1, none⟩ u1).setCell ⟨p, 2, none⟩ u2).setCell ⟨p, 3, none⟩ u3).setCell ⟨p, 4, none⟩ u4).setCell ⟨p, 5, none⟩ u5).setCell ⟨p, 6, none⟩ u6) base top ao n c xs :=
  ((((((h.setCell hp _).setCell hp _).setCell hp _).setCell hp _).setCell hp _).setCell hp _).setCell hp _

/-- Two floats taken apart, each in its box. -/
structure TwoF (e f a b : Nat) (w0 wx : World) (bx bY : Nat) (qa sa : Bool) (aoa : Option Addr) (na ca : Nat) (xa : Int) (qb sb : Bool) (aob : Option Addr) (nb cb : Nat) (xb : Int) : Prop where
  below : Below w0.heap.size w0 wx
  cx : Box7 wx bx (.bool (sgB e f a)) (.bool (nanB e f a)) (.bool qa) (.bool (infB e f a)) (.bool sa) (.slice aoa na ca) (.int .i64 xa)
  cy : Box7 wx bY (.bool (sgB e f b)) (.bool (nanB e f b)) (.bool qb) (.bool (infB e f b)) (.bool sb) (.slice aob nb cb) (.int .i64 xb)
  qx : nanB e f a = true → qa = qtB f a
  qy : nanB e f b = true → qb = qtB f b
  fx : exN e f a ≠ maskN e → sa = valS e f a ∧ xa = valX e f a ∧ Sl wx aoa na ca (limbs (valN e f a))
  fy : exN e f b ≠ maskN e → sb = valS e f b ∧ xb = valX e f b ∧ Sl wx aob nb cb (limbs (valN e f b))

/-- Does one stand below the other? (the reference's way) -/
def lessB (e f a b : Nat) : Bool := if sgB e f a != sgB e f b then sgB e f a else if sgB e f a then decide (b < a) else decide (a < b)

theorem lessB_of {e f a b : Nat} {s t : Bool} (hs : sgB e f a = s) (ht : sgB e f b = t) : lessB e f a b = if s != t then s else if s then decide (b < a) else decide (a < b) := by
  unfold lessB
  rw [hs, ht]

set_option maxRecDepth 100000 in
set_option maxHeartbeats 1600000 in
theorem less_any (e f a b : Nat) (w : World) (h : formE (e : Int) (f : Int) = 0) (ha : a < 18446744073709551616) (pa : a < pw (1 + e + f)) (hb : b < 18446744073709551616) (pb : b < pw (1 + e + f)) :
    Calls Tryd.prog 75 #[.agg #[.int .i64 e, .int .i64 f], .int .u64 a, .int .u64 b] w fun en w' => en = .returned (.bool (lessB e f a b)) ∧ Below w.heap.size w w' := by
  have cA := fun W => refOpen_any e f a W h ha pa
  have cB := fun W => refOpen_any e f b W h hb pb
  go_enter Tryd.func75, Tryd.ntmps75
  go_wp2
  have A0 := box2_new w (.int .i64 e) (.int .i64 f) 23
  have hW0 := more (Below.refl w.heap.size w) (.cells #[.int .i64 e, .int .i64 f] 23)
  generalize w.alloc (.cells #[.int .i64 e, .int .i64 f] 23) = w0 at A0 hW0 ⊢
  have kS : ∀ w' : World, Below w0.heap.size w0 w' → (w'.cell? ⟨w.heap.size, 0, none⟩ = some (.int .i64 e) ∧ w'.cell? ⟨w.heap.size, 1, none⟩ = some (.int .i64 f) ∧ Below w0.heap.size w0 w') := fun w' hb => ⟨cellStay A0.c0 hb, cellStay A0.c1 hb, hb⟩
  go_cut [7, 8] from 9 (fun vx vy wx => ∃ bx bY qa sa aoa na ca xa qb sb aob nb cb xb, vx = .pointer (some ⟨bx, 0, none⟩) ∧ vy = .pointer (some ⟨bY, 0, none⟩) ∧ TwoF e f a b w0 wx bx bY qa sa aoa na ca xa qb sb aob nb cb xb)
  case first =>
    go_region_held3 (fun w' => w'.cell? ⟨w.heap.size, 0, none⟩ = some (.int .i64 e) ∧ w'.cell? ⟨w.heap.size, 1, none⟩ = some (.int .i64 f) ∧ Below w0.heap.size w0 w')
      ((refine kS _ ?_; (repeat (with_reducible (first | exact hWB | exact hWA | exact Below.refl _ _ | refine Below.drew ?_ | refine more ?_ _ | refine Below.setCell ?_ ?_ _ | exact Nat.le_refl _ | exact szA | exact szB | exact Nat.le_succ_of_le szA | exact Nat.le_succ _ | exact Nat.le_succ_of_le szB))); done))
      (first | (go_at_call 73; (with_reducible refine (cA _).mono ?_); rintro en wA ⟨qa, sa, aoa, na, ca, xa, rfl, hqa, hfa, hbA⟩; have hWA : Below w0.heap.size w0 wA := (by go_split_ands; exact next (by assumption) hbA); have szA := hWA.size; (first | (have Z1 := ((box7_new w0 (.bool false) (.bool false) (.bool false) (.bool false) (.bool false) (.slice none 0 0) (.int .i64 0) 107).alloc (.cells #[.bool false, .bool false, .bool false, .bool false, .bool false, .slice none 0 0, .int .i64 0] 107)).stay (by first | exact hbA | exact undrew hbA); have Z2 := (box7_new (w0.alloc (.cells #[.bool false, .bool false, .bool false, .bool false, .bool false, .slice none 0 0, .int .i64 0] 107)) (.bool false) (.bool false) (.bool false) (.bool false) (.bool false) (.slice none 0 0) (.int .i64 0) 107).stay (by first | exact hbA | exact undrew hbA); rw [World.size_alloc] at Z2; have ⟨v1_0, v1_1, v1_2, v1_3, v1_4, v1_5, v1_6, v1z0, v1z1, v1z2, v1z3, v1z4, v1z5, v1z6⟩ := Z1; have v1l := Z1.lt; have v1m := Nat.lt_succ_of_lt v1l; have ⟨v2_0, v2_1, v2_2, v2_3, v2_4, v2_5, v2_6, v2z0, v2z1, v2z2, v2z3, v2z4, v2z5, v2z6⟩ := Z2; have v2l := Z2.lt; have v2m := Nat.lt_succ_of_lt v2l) | (have Z1 := (box7_new w0 (.bool false) (.bool false) (.bool false) (.bool false) (.bool false) (.slice none 0 0) (.int .i64 0) 107).stay (by first | exact hbA | exact undrew hbA); have ⟨v3_0, v3_1, v3_2, v3_3, v3_4, v3_5, v3_6, v3z0, v3z1, v3z2, v3z3, v3z4, v3z5, v3z6⟩ := Z1; have v3l := Z1.lt; have v3m := Nat.lt_succ_of_lt v3l) | skip)) | (go_at_call 73; (with_reducible refine (cB _).mono ?_); rintro en wB ⟨qb, sb, aob, nb, cb, xb, rfl, hqb, hfb, hbB⟩; have hWB : Below w0.heap.size w0 wB := (by go_split_ands; exact next (by assumption) hbB); have szB := hWB.size; have hAB : Below wA.heap.size wA wB := (by first | exact hbB | exact undrew hbB | exact next (more (Below.refl _ _) _) hbB | exact next (more (Below.refl _ _) _).drew hbB | exact next (more (more (Below.refl _ _) _) _) hbB | exact next (more (more (Below.refl _ _) _) _).drew hbB); have szC := hAB.size; (first | (have Y1 := Z1.stay hAB; have Y2 := Z2.stay hAB; have ⟨v4_0, v4_1, v4_2, v4_3, v4_4, v4_5, v4_6, v4z0, v4z1, v4z2, v4z3, v4z4, v4z5, v4z6⟩ := Y1; have v4l := Y1.lt; have v4m := Nat.lt_succ_of_lt v4l; have ⟨v5_0, v5_1, v5_2, v5_3, v5_4, v5_5, v5_6, v5z0, v5z1, v5z2, v5z3, v5z4, v5z5, v5z6⟩ := Y2; have v5l := Y2.lt; have v5m := Nat.lt_succ_of_lt v5l) | (have Y1 := Z1.stay hAB; have ⟨v6_0, v6_1, v6_2, v6_3, v6_4, v6_5, v6_6, v6z0, v6z1, v6z2, v6z3, v6z4, v6z5, v6z6⟩ := Y1; have v6l := Y1.lt; have v6m := Nat.lt_succ_of_lt v6l; have Y3 := (box7_new wA (.bool false) (.bool false) (.bool false) (.bool false) (.bool false) (.slice none 0 0) (.int .i64 0) 107).stay (by first | exact hbB | exact undrew hbB); have ⟨v7_0, v7_1, v7_2, v7_3, v7_4, v7_5, v7_6, v7z0, v7z1, v7z2, v7z3, v7z4, v7z5, v7z6⟩ := Y3; have v7l := Y3.lt; have v7m := Nat.lt_succ_of_lt v7l) | (have Y1 := Z1.stay hAB; have ⟨v8_0, v8_1, v8_2, v8_3, v8_4, v8_5, v8_6, v8z0, v8z1, v8z2, v8z3, v8z4, v8z5, v8z6⟩ := Y1; have v8l := Y1.lt; have v8m := Nat.lt_succ_of_lt v8l) | (have Y3 := ((box7_new wA (.bool false) (.bool false) (.bool false) (.bool false) (.bool false) (.slice none 0 0) (.int .i64 0) 107).alloc (.cells #[.bool false, .bool false, .bool false, .bool false, .bool false, .slice none 0 0, .int .i64 0] 107)).stay (by first | exact hbB | exact undrew hbB); have Y4 := (box7_new (wA.alloc (.cells #[.bool false, .bool false, .bool false, .bool false, .bool false, .slice none 0 0, .int .i64 0] 107)) (.bool false) (.bool false) (.bool false) (.bool false) (.bool false) (.slice none 0 0) (.int .i64 0) 107).stay (by first | exact hbB | exact undrew hbB); rw [World.size_alloc] at Y4; have ⟨v9_0, v9_1, v9_2, v9_3, v9_4, v9_5, v9_6, v9z0, v9z1, v9z2, v9z3, v9z4, v9z5, v9z6⟩ := Y3; have v9l := Y3.lt; have v9m := Nat.lt_succ_of_lt v9l; have ⟨v10_0, v10_1, v10_2, v10_3, v10_4, v10_5, v10_6, v10z0, v10z1, v10z2, v10z3, v10z4, v10z5, v10z6⟩ := Y4; have v10l := Y4.lt; have v10m := Nat.lt_succ_of_lt v10l) | (have Y3 := (box7_new wA (.bool false) (.bool false) (.bool false) (.bool false) (.bool false) (.slice none 0 0) (.int .i64 0) 107).stay (by first | exact hbB | exact undrew hbB); have ⟨v11_0, v11_1, v11_2, v11_3, v11_4, v11_5, v11_6, v11z0, v11z1, v11z2, v11z3, v11z4, v11z5, v11z6⟩ := Y3; have v11l := Y3.lt; have v11m := Nat.lt_succ_of_lt v11l) | skip)))
    all_goals go_split_ands
    all_goals go_wp2
    all_goals go_meet
    all_goals
      refine ⟨_, _, qa, sa, aoa, na, ca, xa, qb, sb, aob, nb, cb, xb, rfl, rfl, ⟨?_, ?_, ?_, hqa, hqb, ?_, ?_⟩⟩
      · (repeat (with_reducible (first | exact hWB | exact hWA | exact Below.refl _ _ | refine Below.drew ?_ | refine more ?_ _ | refine Below.setCell ?_ ?_ _ | exact Nat.le_refl _ | exact szA | exact szB | exact Nat.le_succ_of_le szA | exact Nat.le_succ _ | exact Nat.le_succ_of_le szB)))
      · (repeat (with_reducible (first | assumption | exact box7_at (by first | rfl | (simp; done)) .. | exact box7_nex (by first | rfl | (simp; done)) .. | refine Box7.alloc ?_ _ | refine Ex7.set ?_ .. | exact Ex7.of Z1 | exact Ex7.of Z2 | exact Ex7.of Y1 | exact Ex7.of Y2 | exact Ex7.of Y3 | exact Ex7.of Y4 | exact Ex7.of (box7_at (by first | rfl | (simp; done)) ..) | exact Ex7.of (box7_nex (by first | rfl | (simp; done)) ..) | refine Ex7.alloc ?_ _ | refine Ex7.other ?_ (by first | exact Nat.ne_of_lt (by assumption) | exact (Nat.ne_of_lt (by assumption)).symm | exact Nat.ne_of_lt (Nat.lt_succ_self _) | exact (Nat.ne_of_lt (Nat.lt_succ_self _)).symm | omega) .. | refine Box7.other ?_ (by first | exact Nat.ne_of_lt (by assumption) | exact (Nat.ne_of_lt (by assumption)).symm | exact Nat.ne_of_lt (Nat.lt_succ_self _) | exact (Nat.ne_of_lt (Nat.lt_succ_self _)).symm | omega) ..)))
      · (repeat (with_reducible (first | assumption | exact box7_at (by first | rfl | (simp; done)) .. | exact box7_nex (by first | rfl | (simp; done)) .. | refine Box7.alloc ?_ _ | refine Ex7.set ?_ .. | exact Ex7.of Z1 | exact Ex7.of Z2 | exact Ex7.of Y1 | exact Ex7.of Y2 | exact Ex7.of Y3 | exact Ex7.of Y4 | exact Ex7.of (box7_at (by first | rfl | (simp; done)) ..) | exact Ex7.of (box7_nex (by first | rfl | (simp; done)) ..) | refine Ex7.alloc ?_ _ | refine Ex7.other ?_ (by first | exact Nat.ne_of_lt (by assumption) | exact (Nat.ne_of_lt (by assumption)).symm | exact Nat.ne_of_lt (Nat.lt_succ_self _) | exact (Nat.ne_of_lt (Nat.lt_succ_self _)).symm | omega) .. | refine Box7.other ?_ (by first | exact Nat.ne_of_lt (by assumption) | exact (Nat.ne_of_lt (by assumption)).symm | exact Nat.ne_of_lt (Nat.lt_succ_self _) | exact (Nat.ne_of_lt (Nat.lt_succ_self _)).symm | omega) ..)))
      · intro h; obtain ⟨h1, h2, h3⟩ := hfa h; refine ⟨h1, h2, ?_⟩; have F := frT h3; (try simp only [World.size_alloc] at F); refine FrT.slo F ?_; (repeat (with_reducible (first | exact F | exact FrT.below F hAB | refine FrT.alloc ?_ _ | refine FrT.drew ?_ | refine FrT.set7 ?_ (by first | (simp; done) | (simp; omega) | omega) ..)))
      · intro h; obtain ⟨h1, h2, h3⟩ := hfb h; refine ⟨h1, h2, ?_⟩; have F := frT h3; (try simp only [World.size_alloc] at F); refine FrT.slo F ?_; (repeat (with_reducible (first | exact F | exact FrT.below F hAB | refine FrT.alloc ?_ _ | refine FrT.drew ?_ | refine FrT.set7 ?_ (by first | (simp; done) | (simp; omega) | omega) ..)))
  case rest =>
    obtain ⟨bx, bY, qa, sa, aoa, na, ca, xa, qb, sb, aob, nb, cb, xb, rfl, rfl, H⟩ := hcut
    have hW := next hW0 H.below
    have x0 := H.cx.c0
    have y0 := H.cy.c0
    clear cA cB H A0
    cases hs : sgB e f a <;> cases ht : sgB e f b
    all_goals
      have hv := lessB_of hs ht
      rw [hs] at x0
      rw [ht] at y0
      simp at hv
      have HV := Lib.hid hv
      clear hv hs ht
      go_wp2
      go_ret
      exact ⟨by simp [HV.out], hW⟩

end Go.Proofs.YtmiheaoojmgalaaDoor

namespace Go.Proofs.YtmiheaoojmgalaaDoor
open Go.RowKit Go.Lb

theorem sg_top {e f b : Nat} (hp : b < pw (1 + e + f)) : sgB e f b = decide (¬ b < pw (e + f)) := by
  have hpp : pw (1 + e + f) = 2 * pw (e + f) := by rw [show 1 + e + f = e + f + 1 by omega, pw_succ]
  rw [hpp] at hp
  have hp0 := pw_pos (e + f)
  unfold sgB takeN
  rw [Nat.add_comm f e]
  have h2 : pw 1 = 2 := by unfold pw; rfl
  rw [h2]
  by_cases h : b < pw (e + f)
  · rw [Nat.div_eq_of_lt h, decide_eq_false (show ¬ ¬ b < pw (e + f) from fun hn => hn h)]
    rfl
  · have hd : b / pw (e + f) = 1 := by
      rw [Nat.div_eq_iff hp0]
      omega
    rw [hd, decide_eq_true h]
    rfl

theorem less_rank {e f a b : Nat} (pa : a < pw (1 + e + f)) (pb : b < pw (1 + e + f)) : lessB e f a b = decide (rkN (e + f) a < rkN (e + f) b) := by
  have hpp : pw (1 + e + f) = 2 * pw (e + f) := by rw [show 1 + e + f = e + f + 1 by omega, pw_succ]
  unfold lessB rkN
  rw [sg_top pa, sg_top pb]
  rw [hpp] at pa pb
  generalize pw (e + f) = P at *
  by_cases h1 : a < P <;> by_cases h2 : b < P <;> simp [h1, h2] <;> omega

set_option maxRecDepth 100000 in
set_option maxHeartbeats 1600000 in
theorem refPick_bad (e f : Int) (g : Bool) (a b : Nat) (w : World) (ha : a < 18446744073709551616) (hb : b < 18446744073709551616) (h : twoE e f a b ≠ 0) :
    Calls Tryd.prog 41 #[.agg #[.int .i64 e, .int .i64 f], .int .u64 a, .int .u64 b, .bool g] w fun en w' => en = .returned (.tuple #[.int .u64 0, .int .i64 (twoE e f a b)]) ∧ Below w.heap.size w w' := by
  have hB : (twoE e f a b != 0) = true := by simp [h]
  have cA := fun W hv => asked_any (w.heap.size + 1) e f 0 [a, b] W (by simp) hv
  have hE : askE e f 0 [a, b] = twoE e f a b := by unfold askE; rw [askL_two, if_pos h]
  rw [hE] at cA
  have hv : ∀ W : World, W.cell? ⟨w.heap.size + 1, 0, none⟩ = some (.int .u64 a) → W.cell? ⟨w.heap.size + 1, 1, none⟩ = some (.int .u64 b) → ∀ j, (h : j < [a, b].length) → [a, b][j] < 18446744073709551616 ∧ W.cell? ⟨w.heap.size + 1, j, none⟩ = some (.int .u64 ([a, b][j] : Nat)) := by
    intro W c0 c1 j hj
    match j, hj with
    | 0, _ => exact ⟨ha, c0⟩
    | 1, _ => exact ⟨hb, c1⟩
  clear hE
  generalize twoE e f a b = E at hB cA ⊢
  go_enter Tryd.func41, Tryd.ntmps41
  go_wp2_with (go_at_call 71; refine (cA _ (hv _ (by simp) (by simp))).mono ?_; rintro en w1 ⟨rfl, hb1⟩)
  refine bodyPost_ret (v := .tuple #[.int .u64 0, .int .i64 E]) (by simp [results, Tryd.results41, go_sem]) rfl ⟨rfl, next (more (more (Below.refl _ _) _) _) hb1⟩

theorem nans_two (pl : Nat) (x q y r : Bool) (w : World) (h1 : w.cell? ⟨pl, 1, none⟩ = some (.bool x)) (h2 : w.cell? ⟨pl, 2, none⟩ = some (.bool q)) (h3 : w.cell? ⟨pl, 8, none⟩ = some (.bool y)) (h4 : w.cell? ⟨pl, 9, none⟩ = some (.bool r)) :
    Calls Tryd.prog 72 #[.slice (some ⟨pl, 0, none⟩) 2 2] w fun en w' => en = .returned (.tuple #[.bool (x || y), .int .u8 (loudN [(x, q), (y, r)])]) ∧ Below w.heap.size w w' := by
  refine (nans_any pl [(x, q), (y, r)] w (by simp) ?_).mono ?_
  · intro j hj
    match j, hj with
    | 0, _ => exact ⟨h1, h2⟩
    | 1, _ => exact ⟨h3, h4⟩
  · rintro en w' ⟨rfl, hW⟩
    exact ⟨by simp [nansB], hW⟩

set_option maxRecDepth 100000 in
set_option maxHeartbeats 1600000 in
theorem refPick_good (e f : Nat) (g : Bool) (a b : Nat) (w : World) (ha : a < 18446744073709551616) (hb : b < 18446744073709551616) (h : twoE e f a b = 0) :
    Calls Tryd.prog 41 #[.agg #[.int .i64 e, .int .i64 f], .int .u64 a, .int .u64 b, .bool g] w fun en w' => en = .returned (.tuple #[.int .u64 (pickN e f g a b), .int .i64 0]) ∧ Below w.heap.size w w' := by
  have cA := fun W hv => asked_any (w.heap.size + 1) e f 0 [a, b] W (by simp) hv
  have hE : askE e f 0 [a, b] = 0 := by unfold askE; rw [askL_two, if_neg (by simp [h])]; rfl
  rw [hE] at cA
  have hv : ∀ W : World, W.cell? ⟨w.heap.size + 1, 0, none⟩ = some (.int .u64 a) → W.cell? ⟨w.heap.size + 1, 1, none⟩ = some (.int .u64 b) → ∀ j, (h : j < [a, b].length) → [a, b][j] < 18446744073709551616 ∧ W.cell? ⟨w.heap.size + 1, j, none⟩ = some (.int .u64 ([a, b][j] : Nat)) := by
    intro W c0 c1 j hj
    match j, hj with
    | 0, _ => exact ⟨ha, c0⟩
    | 1, _ => exact ⟨hb, c1⟩
  clear hE
  obtain ⟨p1, p2⟩ := twoE_ok h
  obtain ⟨f1, l1⟩ := fitsE_parts p1
  have l2 := (fitsE_parts p2).2
  have cO1 := fun W => refOpen_any e f a W f1 ha l1
  have cO2 := fun W => refOpen_any e f b W f1 hb l2
  go_enter Tryd.func41, Tryd.ntmps41
  go_wp2_with (go_at_call 71; refine (cA _ (hv _ (by simp) (by simp))).mono ?_; rintro en w1 ⟨rfl, hb1⟩; have hW := next (more (more (Below.refl _ _) _) _) hb1; have A := ((box2_new w (.int .i64 e) (.int .i64 f) 23).alloc (.cells #[.int .u64 a, .int .u64 b] 24)).stay hb1; have ⟨a0, a1⟩ := A)
  have kS : ∀ w' : World, Below w1.heap.size w1 w' → (w'.cell? ⟨w.heap.size, 0, none⟩ = some (.int .i64 e) ∧ w'.cell? ⟨w.heap.size, 1, none⟩ = some (.int .i64 f) ∧ Below w1.heap.size w1 w') := fun w' hb => ⟨cellStay a0 hb, cellStay a1 hb, hb⟩
  go_region_held3 (fun w' => w'.cell? ⟨w.heap.size, 0, none⟩ = some (.int .i64 e) ∧ w'.cell? ⟨w.heap.size, 1, none⟩ = some (.int .i64 f) ∧ Below w1.heap.size w1 w')
    ((refine kS _ ?_; (repeat (with_reducible (first | exact hWN | exact hWB | exact hWA | exact Below.refl _ _ | refine Below.drew ?_ | refine more ?_ _))); done))
    (first
      | (go_at_call 73; (with_reducible refine (cO1 _).mono ?_); rintro en wA ⟨qa, sa, aoa, na, ca, xa, rfl, hqa, hfa, hbA⟩; have hWA : Below w1.heap.size w1 wA := (by go_split_ands; exact next (by assumption) hbA))
      | (go_at_call 73; (with_reducible refine (cO2 _).mono ?_); rintro en wB ⟨qb, sb, aob, nb, cb, xb, rfl, hqb, hfb, hbB⟩; have hWB : Below w1.heap.size w1 wB := (by go_split_ands; exact next (by assumption) hbB))
      | (go_at_call 72; refine (nans_two _ (nanB e f a) qa (nanB e f b) qb _ (by simp) (by simp) (by simp) (by simp)).mono ?_; rintro en wN ⟨rfl, hbN⟩; have hWN : Below w1.heap.size w1 wN := (by go_split_ands; exact next (by assumption) hbN)))
  go_split_ands
  have hWn := next hW hWN
  have n0 := cellStay a0 hWN
  have n1 := cellStay a1 hWN
  have hK : anyK e f a b 2 = (nanB e f a || nanB e f b) := by simp [anyK]
  have cN := fun W => refNaN7_any e f W f1
  have cL := fun W => less_any e f a b W f1 ha l1 hb l2
  have hlr := less_rank (e := e) (f := f) l1 l2
  rw [hlr] at cL
  have hP : pickN e f g a b = if (nanB e f a || nanB e f b) = true then nanN e f else if (decide (rkN (e + f) a < rkN (e + f) b) == g) = true then b else a := by
    unfold pickN
    rw [if_neg (by simp [h]), hK]
    rfl
  clear hlr hK cA cO1 cO2 hqa hfa hqb hfb hv kS
  generalize (nanB e f a || nanB e f b) = v at hP ⊢
  generalize decide (rkN (e + f) a < rkN (e + f) b) = R at hP cL
  have HP := Lib.hid hP
  clear hP
  cases v
  · cases hg : (R == g)
    all_goals
      go_wp2_with (go_at_call 75; refine (cL _).mono ?_; rintro en wL ⟨rfl, hbL⟩; have hWL := next hWn hbL)
      refine bodyPost_ret (v := .tuple #[.int .u64 (pickN e f g a b), .int .i64 0]) (by simp [results, Tryd.results41, go_sem, HP.out, hg]) rfl ⟨rfl, hWL⟩
  · go_wp2_with (go_at_call 74; refine (cN _).mono ?_; rintro en wL ⟨rfl, hbL⟩; have hWL := next hWn hbL)
    refine bodyPost_ret (v := .tuple #[.int .u64 (pickN e f g a b), .int .i64 0]) (by simp [results, Tryd.results41, go_sem, HP.out]) rfl ⟨rfl, hWL⟩

theorem refPick_any (e f : Int) (g : Bool) (a b : Nat) (w : World) (ha : a < 18446744073709551616) (hb : b < 18446744073709551616) :
    Calls Tryd.prog 41 #[.agg #[.int .i64 e, .int .i64 f], .int .u64 a, .int .u64 b, .bool g] w fun en w' => en = .returned (.tuple #[.int .u64 (pickN e f g a b), .int .i64 (twoE e f a b)]) ∧ Below w.heap.size w w' := by
  by_cases h : twoE e f a b = 0
  · obtain ⟨q1, q2, q3, q4⟩ := formE_ok (fitsE_parts (twoE_ok h).1).1
    obtain ⟨e, rfl⟩ := Int.eq_ofNat_of_zero_le (by omega : 0 ≤ e)
    obtain ⟨f, rfl⟩ := Int.eq_ofNat_of_zero_le (by omega : 0 ≤ f)
    rw [h]
    exact refPick_good e f g a b w ha hb h
  · have hv : pickN e f g a b = 0 := if_pos h
    rw [hv]
    exact refPick_bad e f g a b w ha hb h

set_option maxRecDepth 100000 in
theorem refMin_any (e f : Int) (a b : Nat) (w : World) (ha : a < 18446744073709551616) (hb : b < 18446744073709551616) :
    Calls Tryd.prog 15 #[.agg #[.int .i64 e, .int .i64 f], .int .u64 a, .int .u64 b] w fun en w' => en = .returned (.tuple #[.int .u64 (pickN e f false a b), .int .i64 (twoE e f a b)]) ∧ Below w.heap.size w w' := by
  generalize hP : pickN e f false a b = P
  generalize hE : twoE e f a b = E
  go_enter Tryd.func15, Tryd.ntmps15
  go_wp2_with (go_at_call 41; refine (refPick_any e f false a b _ ha hb).mono ?_; rintro en w1 ⟨rfl, hb1⟩; rw [hP, hE])
  refine bodyPost_ret (v := .tuple #[.int .u64 P, .int .i64 E]) (by simp [results, Tryd.results15, go_sem]) rfl ⟨rfl, next (more (Below.refl _ _) _) hb1⟩

set_option maxRecDepth 100000 in
theorem refMax_any (e f : Int) (a b : Nat) (w : World) (ha : a < 18446744073709551616) (hb : b < 18446744073709551616) :
    Calls Tryd.prog 17 #[.agg #[.int .i64 e, .int .i64 f], .int .u64 a, .int .u64 b] w fun en w' => en = .returned (.tuple #[.int .u64 (pickN e f true a b), .int .i64 (twoE e f a b)]) ∧ Below w.heap.size w w' := by
  generalize hP : pickN e f true a b = P
  generalize hE : twoE e f a b = E
  go_enter Tryd.func17, Tryd.ntmps17
  go_wp2_with (go_at_call 41; refine (refPick_any e f true a b _ ha hb).mono ?_; rintro en w1 ⟨rfl, hb1⟩; rw [hP, hE])
  refine bodyPost_ret (v := .tuple #[.int .u64 P, .int .i64 E]) (by simp [results, Tryd.results17, go_sem]) rfl ⟨rfl, next (more (Below.refl _ _) _) hb1⟩

end Go.Proofs.YtmiheaoojmgalaaDoor
