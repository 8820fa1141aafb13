/-
  The walks of forms.place.take, forms.Split, and of the reference's Fields: bits taken apart.
-/
import Derived.Test.YtnokabglkmiidaaDoorFits
import Derived.Test.YtnokabglkmiidaaDoorBox2
import Derived.Deep.RegionHeld3
namespace Go.Proofs.YtnokabglkmiidaaDoor
open Go.RowKit Go.Lb

/-- A field of bits. (No simp rule looks into it.) -/
def takeN (b fr sz : Nat) : Nat := b / pw fr % pw sz

theorem and_mask {b sz : Nat} (hs : sz ≤ 64) (hb : b < 18446744073709551616) : bits BinOp.and IntKind.u64 (b : Int) (maskN sz : Int) = ((b % pw sz : Nat) : Int) := by
  have h64 : pw 64 = 18446744073709551616 := by unfold pw; rfl
  have hm : maskN sz < 18446744073709551616 := by
    have := pw_le hs
    have := pw_pos sz
    rw [maskN_eq]
    omega
  rw [u64_and_nat _ _ hb hm]
  unfold maskN pw
  rw [Nat.and_two_pow_sub_one_eq_mod]

set_option maxRecDepth 100000 in
set_option maxHeartbeats 800000 in
theorem take_any (fr sz b : Nat) (w : World) (hs : fr + sz ≤ 64) (hb : b < 18446744073709551616) :
    Calls Tryd.prog 74 #[.agg #[.int .i64 fr, .int .i64 sz], .int .u64 b] w fun en w' => en = .returned (.int .u64 (takeN b fr sz : Int)) ∧ Below w.heap.size w w' := by
  have hq : b / 2 ^ fr < 18446744073709551616 := Nat.lt_of_le_of_lt (Nat.div_le_self _ _) hb
  have e1 := int_div_pow b fr
  have e2 := and_mask (b := b / 2 ^ fr) (sz := sz) (by omega) hq
  have E2 := Lib.hid e2
  have E1 := Lib.hid e1
  clear e1 e2
  go_enter Tryd.func74, Tryd.ntmps74
  go_wp2_with (go_at_call 75; refine (mask_any sz _ (by omega)).mono ?_; rintro en w1 ⟨rfl, rfl⟩)
  go_ret
  exact ⟨congrArg (fun q => Ending.returned (Value.int IntKind.u64 q)) (by rw [E1.out, E2.out]; unfold takeN pw; rfl), more (Below.refl _ _) _⟩

theorem takeN_lt (b fr sz : Nat) : takeN b fr sz < pw sz := Nat.mod_lt _ (pw_pos sz)

/-- The sign, the exponent's bits, the fraction's bits. -/
def sgB (e f b : Nat) : Bool := decide (takeN b (f + e) 1 ≠ 0)
def exN (e f b : Nat) : Nat := takeN b f e
def frN (f b : Nat) : Nat := takeN b 0 f

theorem take0_any (sz b : Nat) (w : World) (hs : sz ≤ 64) (hb : b < 18446744073709551616) :
    Calls Tryd.prog 74 #[.agg #[.int .i64 0, .int .i64 sz], .int .u64 b] w fun en w' => en = .returned (.int .u64 (frN sz b : Int)) ∧ Below w.heap.size w w' := take_any 0 sz b w (by omega) hb

theorem takeTop_any (e f b : Nat) (w : World) (hs : f + e + 1 ≤ 64) (hb : b < 18446744073709551616) :
    Calls Tryd.prog 74 #[.agg #[.int .i64 ((f : Int) + (e : Int)), .int .i64 1], .int .u64 b] w fun en w' => en = .returned (.int .u64 (takeN b (f + e) 1 : Int)) ∧ Below w.heap.size w w' := by
  have h := take_any (f + e) 1 b w hs hb
  rw [show ((f + e : Nat) : Int) = (f : Int) + (e : Int) from by omega] at h
  exact h

/-- What stays through Split's last statement: the layout, the result's cells. -/
structure SplitK (e f h p : Nat) (w w' : World) : Prop where
  a0 : w'.cell? ⟨p, 0, none⟩ = some (.int .i64 0)
  a1 : w'.cell? ⟨p, 1, none⟩ = some (.int .i64 f)
  a2 : w'.cell? ⟨p, 2, none⟩ = some (.int .i64 f)
  a3 : w'.cell? ⟨p, 3, none⟩ = some (.int .i64 e)
  a4 : w'.cell? ⟨p, 4, none⟩ = some (.int .i64 (↑f + ↑e))
  a5 : w'.cell? ⟨p, 5, none⟩ = some (.int .i64 1)
  bel : Below w.heap.size w w'
  res : Res3 w' (h + 1)
  lt : h + 1 < p
  le : w.heap.size ≤ h

theorem SplitK.stay {e f h p : Nat} {w wp w' : World} (k : SplitK e f h p w wp) (hb : Below wp.heap.size wp w') : SplitK e f h p w w' :=
  ⟨cellStay k.a0 hb, cellStay k.a1 hb, cellStay k.a2 hb, cellStay k.a3 hb, cellStay k.a4 hb, cellStay k.a5 hb, next k.bel hb, k.res.stay hb, k.lt, k.le⟩
theorem SplitK.drew {e f h p : Nat} {w wp : World} (k : SplitK e f h p w wp) : SplitK e f h p w wp.drew := k.stay ((Below.refl _ _).drew)
theorem SplitK.set {e f h p : Nat} {w wp : World} (k : SplitK e f h p w wp) (u v x : Value) : SplitK e f h p w (((wp.setCell ⟨h + 1, 0, none⟩ u).setCell ⟨h + 1, 1, none⟩ v).setCell ⟨h + 1, 2, none⟩ x) := by
  have hne : p ≠ h + 1 := by have := k.lt; omega
  have hle := k.le
  exact ⟨(cell_set3 hne u v x).trans k.a0, (cell_set3 hne u v x).trans k.a1, (cell_set3 hne u v x).trans k.a2, (cell_set3 hne u v x).trans k.a3, (cell_set3 hne u v x).trans k.a4, (cell_set3 hne u v x).trans k.a5,
    ((k.bel.setCell (by simp; omega) _).setCell (by simp; omega) _).setCell (by simp; omega) _, k.res.set u v x, k.lt, k.le⟩
theorem SplitK.conj {e f h p : Nat} {w w' : World} (k : SplitK e f h p w w') :
    w'.cell? ⟨p, 0, none⟩ = some (.int .i64 0) ∧ w'.cell? ⟨p, 1, none⟩ = some (.int .i64 f) ∧ w'.cell? ⟨p, 2, none⟩ = some (.int .i64 f) ∧ w'.cell? ⟨p, 3, none⟩ = some (.int .i64 e) ∧ w'.cell? ⟨p, 4, none⟩ = some (.int .i64 (↑f + ↑e)) ∧ w'.cell? ⟨p, 5, none⟩ = some (.int .i64 1) ∧
    w'.cell? ⟨h + 1, 0, none⟩ = some (cellOf w' (h + 1) 0) ∧ w'.cell? ⟨h + 1, 1, none⟩ = some (cellOf w' (h + 1) 1) ∧ w'.cell? ⟨h + 1, 2, none⟩ = some (cellOf w' (h + 1) 2) ∧
    w'.frozen? ⟨h + 1, 0, none⟩ = false ∧ w'.frozen? ⟨h + 1, 1, none⟩ = false ∧ w'.frozen? ⟨h + 1, 2, none⟩ = false ∧ SplitK e f h p w w' :=
  ⟨k.a0, k.a1, k.a2, k.a3, k.a4, k.a5, k.res.c0, k.res.c1, k.res.c2, k.res.z0, k.res.z1, k.res.z2, k⟩

set_option maxRecDepth 100000 in
set_option maxHeartbeats 6000000 in
theorem split_any (e f b : Nat) (w : World) (h : formE (e : Int) (f : Int) = 0) (hb : b < 18446744073709551616) (hp : b < pw (1 + e + f)) :
    Calls Tryd.prog 47 #[.agg #[.int .i64 e, .int .i64 f], .int .u64 b] w fun en w' => en = .returned (.tuple #[.agg #[.bool (sgB e f b), .int .i64 (exN e f b), .int .u64 (frN f b)], .int .i64 0]) ∧ Below w.heap.size w w' := by
  obtain ⟨h1, h2, h3, h4⟩ := formE_ok h
  have g1 : 2 ≤ e := by omega
  have g2 : e ≤ 11 := by omega
  have g3 : f ≤ 52 := by omega
  have hfit := fitsE_ok h hp
  have hz : (fitsE (e : Int) (f : Int) b != 0) = false := by simp [hfit]
  clear h h1 h2 h3 h4 hfit
  go_enter Tryd.func47, Tryd.ntmps47
  go_wp2_with (first
    | (go_at_call 72; refine (fits_any e f b _ hb).mono ?_; rintro en w1 ⟨rfl, hb1⟩; have A := ((box2_new w (.int .i64 (e : Int)) (.int .i64 (f : Int)) 40).alloc _).stay hb1; have ⟨c0, c1⟩ := A; have B := (box3_new _ _ _ _ _).stay hb1; rw [World.size_alloc] at B; have hW := next (more (more (Below.refl _ _) _) _) hb1)
    | (go_at_call 73; refine (layout_any e f _ g2 g3).mono ?_; rintro en w2 ⟨rfl, hb2⟩; replace B := B.stay hb2; replace hW := next hW hb2))
  have hK : SplitK e f w.heap.size w2.heap.size w (w2.alloc (.cells #[.int .i64 0, .int .i64 f, .int .i64 f, .int .i64 e, .int .i64 (↑f + ↑e), .int .i64 1] 91)) := ⟨by simp, by simp, by simp, by simp, by simp, by simp, more hW _, (B.alloc _).res, B.lt, Nat.le_refl _⟩
  clear c0 c1 hb1 hb2 A B hW
  go_region_held3 (fun w' => w'.cell? ⟨w2.heap.size, 0, none⟩ = some (.int .i64 0) ∧ w'.cell? ⟨w2.heap.size, 1, none⟩ = some (.int .i64 f) ∧ w'.cell? ⟨w2.heap.size, 2, none⟩ = some (.int .i64 f) ∧ w'.cell? ⟨w2.heap.size, 3, none⟩ = some (.int .i64 e) ∧ w'.cell? ⟨w2.heap.size, 4, none⟩ = some (.int .i64 (↑f + ↑e)) ∧ w'.cell? ⟨w2.heap.size, 5, none⟩ = some (.int .i64 1) ∧ w'.cell? ⟨w.heap.size + 1, 0, none⟩ = some (cellOf w' (w.heap.size + 1) 0) ∧ w'.cell? ⟨w.heap.size + 1, 1, none⟩ = some (cellOf w' (w.heap.size + 1) 1) ∧ w'.cell? ⟨w.heap.size + 1, 2, none⟩ = some (cellOf w' (w.heap.size + 1) 2) ∧ w'.frozen? ⟨w.heap.size + 1, 0, none⟩ = false ∧ w'.frozen? ⟨w.heap.size + 1, 1, none⟩ = false ∧ w'.frozen? ⟨w.heap.size + 1, 2, none⟩ = false ∧ SplitK e f w.heap.size w2.heap.size w w')
    ((first | exact SplitK.conj hK.drew | (go_split_ands; exact SplitK.conj (SplitK.stay (by assumption) hbB)) | (go_split_ands; exact SplitK.conj (SplitK.set (by assumption) _ _ _)) | (go_keep; done)))
    (first | (go_at_call 74; (with_reducible refine (take0_any f b _ (by omega) hb).mono ?_); rintro en wB ⟨rfl, hbB⟩) | (go_at_call 74; (with_reducible refine (take_any f e b _ (by omega) hb).mono ?_); rintro en wB ⟨rfl, hbB⟩) | (go_at_call 74; (with_reducible refine (takeTop_any e f b _ (by omega) hb).mono ?_); rintro en wB ⟨rfl, hbB⟩))
  go_wp2
  have KB : SplitK e f w.heap.size w2.heap.size w wB := SplitK.stay (SplitK.stay (SplitK.stay hK.drew (by assumption)) (by assumption)) hbB
  have hex : IntKind.i64.wrap (takeN b f e : Int) = (exN e f b : Int) := IntWalk.i64_in _ (by have := takeN_lt b f e; have := pw_le g2; have e11 : pw 11 = 2048 := (by unfold pw; rfl); constructor <;> omega)
  have hsg : ((takeN b (f + e) 1 : Int) != 0) = sgB e f b := by unfold sgB; rw [Bool.eq_iff_iff]; simp
  have KS := KB.set (.bool ((takeN b (f + e) 1 : Int) != 0)) (.int .i64 (IntKind.i64.wrap (takeN b f e : Int))) (.int .u64 (frN f b : Int))
  obtain ⟨t0, t1, t2⟩ := KB.res.box.set (.bool ((takeN b (f + e) 1 : Int) != 0)) (.int .i64 (IntKind.i64.wrap (takeN b f e : Int))) (.int .u64 (frN f b : Int))
  refine bodyPost_ret (v := .tuple #[.agg #[.bool ((takeN b (f + e) 1 : Int) != 0), .int .i64 (IntKind.i64.wrap (takeN b f e : Int)), .int .u64 (frN f b : Int)], .int .i64 0]) ?_ rfl ⟨by rw [hex, hsg], KS.bel⟩
  clear KS
  simp only [results, Tryd.results47]
  simp [go_sem, t0, t1, t2]

end Go.Proofs.YtnokabglkmiidaaDoor
