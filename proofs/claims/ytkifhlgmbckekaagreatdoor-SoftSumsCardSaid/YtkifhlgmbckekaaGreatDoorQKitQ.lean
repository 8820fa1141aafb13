/-
  soft.Add: the walk, over what plus answers.
-/
import Derived.Deep.CutRange
import Derived.Test.YtkifhlgmbckekaaGreatDoorQKitP
namespace Go.Proofs.YtkifhlgmbckekaaGreatDoor

open Go.RowKit Go.Lb

/-- What a method of an opened float answers, with another one. -/
def Meth (name : String) (e f : Int) (a b m : Nat) (B : Nat) (G er : Int) : Prop :=
  ∀ (v0 : Value) (base0 : Nat) (W0 : World), OpF e.toNat f.toNat a v0 base0 W0 → ∃ T x F, v0 = .iface T x ∧ (∀ n V, (method (n + 1) T x name).run Tryz.prog V = .ok (F, x) V) ∧ (∀ args V, (callFunc F args).run Tryz.prog V = .ok (.enter F args) V) ∧
    ∀ (pk : Nat) (v1 : Value) (base : Nat) (W : World), OpF e.toNat f.toNat a v0 base W → OpF e.toNat f.toNat b v1 base W → Box3 W pk (.int .i64 e) (.int .i64 f) (.int .u8 (m : Int)) → Tab W →
      Calls Tryz.prog F #[x, .pointer (some ⟨pk, 0, none⟩), v1] W fun en w' => en = .returned (.agg #[.int .u64 (B : Int), .int .u8 G, .int .i64 er]) ∧ Below W.heap.size W w'

set_option maxRecDepth 100000 in
set_option maxHeartbeats 4000000 in
theorem softAdd_no (e f : Int) (a b m : Nat) (w : World) (hm : m < 256) (ha : a < 18446744073709551616) (hb : b < 18446744073709551616) (hT : Tab w) (hk : alK e f m [a, b] = false) :
    Calls Tryz.prog 16 #[.agg #[.int .i64 e, .int .i64 f], .int .u64 (a : Int), .int .u64 (b : Int), .int .u8 (m : Int)] w fun en w' => en = .returned (.tuple #[.int .u64 (alB e f m [a, b] : Int), .int .u8 (alF e f m [a, b]), .int .i64 (askE e f m [a, b])]) ∧ Below w.heap.size w w' := by
  have hv : ∀ W : World, W.cell? ⟨w.heap.size + 1, 0, none⟩ = some (.int .u64 a) → W.cell? ⟨w.heap.size + 1, 1, none⟩ = some (.int .u64 b) → ∀ j, (h : j < [a, b].length) → [a, b][j] < 18446744073709551616 ∧ W.cell? ⟨w.heap.size + 1, j, none⟩ = some (.int .u64 ([a, b][j] : Nat)) := by
    intro W c0 c1 j hj
    match j, hj with
    | 0, _ => exact ⟨ha, c0⟩
    | 1, _ => exact ⟨hb, c1⟩
  have cA := fun W hv hT => all_list (w.heap.size + 1) e f m [a, b] W hm (by simp) (by simp) hv hT
  unfold AllO at cA
  rw [hk] at cA
  generalize alB e f m [a, b] = B at *
  generalize alF e f m [a, b] = G at *
  generalize askE e f m [a, b] = E at *
  go_enter Tryz.func16, Tryz.ntmps16
  go_wp2_with (go_at_call 64; refine (cA _ (hv _ (by simp) (by simp)) ((hT.alloc _).alloc _)).mono ?_; rintro en w1 ⟨pk, out, rfl, hR, hQ, hb1⟩; have hW := next (more (more (Below.refl _ _) _) _) hb1)
  go_quiet (fail)
  go_wp2
  refine bodyPost_ret (v := .tuple #[.int .u64 (B : Int), .int .u8 G, .int .i64 E]) (by simp [results, Tryz.results16, go_sem]) rfl ⟨rfl, drewn (more hW _) nq⟩

set_option maxRecDepth 100000 in
set_option maxHeartbeats 4000000 in
theorem softAdd_yes (e f : Int) (a b m : Nat) (w : World) (hm : m < 256) (ha : a < 18446744073709551616) (hb : b < 18446744073709551616) (hT : Tab w) (hk : alK e f m [a, b] = true) {B : Nat} {G er : Int} (hM : Meth "numeral/soft.plus" e f a b m B G er) :
    Calls Tryz.prog 16 #[.agg #[.int .i64 e, .int .i64 f], .int .u64 (a : Int), .int .u64 (b : Int), .int .u8 (m : Int)] w fun en w' => en = .returned (.tuple #[.int .u64 (B : Int), .int .u8 G, .int .i64 er]) ∧ Below w.heap.size w w' := by
  have hv : ∀ W : World, W.cell? ⟨w.heap.size + 1, 0, none⟩ = some (.int .u64 a) → W.cell? ⟨w.heap.size + 1, 1, none⟩ = some (.int .u64 b) → ∀ j, (h : j < [a, b].length) → [a, b][j] < 18446744073709551616 ∧ W.cell? ⟨w.heap.size + 1, j, none⟩ = some (.int .u64 ([a, b][j] : Nat)) := by
    intro W c0 c1 j hj
    match j, hj with
    | 0, _ => exact ⟨ha, c0⟩
    | 1, _ => exact ⟨hb, c1⟩
  have cA := fun W hv hT => all_list (w.heap.size + 1) e f m [a, b] W hm (by simp) (by simp) hv hT
  unfold AllO at cA
  rw [hk] at cA
  go_enter Tryz.func16, Tryz.ntmps16
  go_upto_region 1 with fail
  go_wp2_with fail
  refine (cA _ (hv _ (by simp) (by simp)) ((hT.alloc _).alloc _)).mono ?_
  rintro en w1 ⟨pk, out, rfl, hR, hQ, hb1⟩
  have hW := next (more (more (Below.refl _ _) _) _) hb1
  have hT1 := ((hT.alloc (.cells #[.int .i64 e, .int .i64 f] 23)).alloc (.cells #[.int .u64 a, .int .u64 b] 24)).below hb1
  obtain ⟨ob, cap, rfl, hcap, _, hC⟩ := hR trivial
  obtain ⟨v0, c0, o0⟩ := hC 0 (by simp)
  obtain ⟨v1, c1, o1⟩ := hC 1 (by simp)
  simp only [List.getElem_cons_zero, List.getElem_cons_succ] at o0 o1
  obtain ⟨base, hbase⟩ : ∃ base, base = ((w.alloc (Obj.cells #[.int .i64 e, .int .i64 f] 23)).alloc (.cells #[.int .u64 a, .int .u64 b] 24)).heap.size := ⟨_, rfl⟩
  rw [← hbase] at o0 o1
  obtain ⟨T, x, F, rfl, hcm, hcf, hPl⟩ := hM v0 base w1 o0
  clear hR hC hbase hb1 cA hv hM
  generalize alB e f m [a, b] = tb
  generalize alF e f m [a, b] = tf
  generalize askE e f m [a, b] = te
  go_upto_region 2 with fail
  have R2 := box3_new w1 (.int .u64 tb) (.int .u8 tf) (.int .i64 te) 90
  have hs := more (Below.refl w1.heap.size w1) (.cells #[.int .u64 tb, .int .u8 tf, .int .i64 te] 90)
  generalize w1.alloc (.cells #[.int .u64 tb, .int .u8 tf, .int .i64 te] 90) = w2 at *
  have d0 := cellStay c0 hs
  have d1 := cellStay c1 hs
  go_upto_region 3 with fail
  go_region_held3 (fun w' => w'.cell? ⟨ob, 0, none⟩ = some (.iface T x) ∧ w'.cell? ⟨ob, 1, none⟩ = some v1 ∧ Below w1.heap.size w1 w')
    ((refine ⟨cellStay c0 ?_, cellStay c1 ?_, ?_⟩; (all_goals (repeat (with_reducible (first | assumption | exact Below.refl _ _ | refine Below.drew ?_ | refine Below.setCell ?_ ?_ _ | exact Nat.le_refl _)))); done))
    (first | ((with_reducible refine (hPl pk v1 base _ (o0.below ?_) (o1.below ?_) (hQ.stay ?_) (hT1.below ?_)).mono ?_); (focus (go_split_ands; assumption)); (focus (go_split_ands; assumption)); (focus (go_split_ands; assumption)); (focus (go_split_ands; assumption)); rintro en wB ⟨rfl, hbB⟩; have hWB : Below w1.heap.size w1 wB := (by go_split_ands; exact next (by assumption) hbB); have R3 := R2.stay (by first | exact hbB | exact undrew hbB); have ⟨r0, r1, r2, rz0, rz1, rz2⟩ := R3))
  go_split_ands
  have R4 := R3.set (.int .u64 (B : Int)) (.int .u8 G) (.int .i64 er)
  have ⟨s0, s1, s2⟩ := R4
  clear R2 R3 r0 r1 r2 rz0 rz1 rz2
  have V : Below w1.heap.size w1 (((wB.setCell ⟨w1.heap.size, 0, none⟩ (.int .u64 (B : Int))).setCell ⟨w1.heap.size, 1, none⟩ (.int .u8 G)).setCell ⟨w1.heap.size, 2, none⟩ (.int .i64 er)) := ((hWB.setCell (Nat.le_refl _) _).setCell (Nat.le_refl _) _).setCell (Nat.le_refl _) _
  generalize ((wB.setCell ⟨w1.heap.size, 0, none⟩ (.int .u64 (B : Int))).setCell ⟨w1.heap.size, 1, none⟩ (.int .u8 G)).setCell ⟨w1.heap.size, 2, none⟩ (.int .i64 er) = w3 at *
  go_upto_region 4 with fail
  go_quiet (fail)
  go_wp2
  refine bodyPost_ret (v := .tuple #[.int .u64 (B : Int), .int .u8 G, .int .i64 er]) (by simp [results, Tryz.results16, go_sem]) rfl ⟨rfl, drewn (next hW V) nq⟩

end Go.Proofs.YtkifhlgmbckekaaGreatDoor

