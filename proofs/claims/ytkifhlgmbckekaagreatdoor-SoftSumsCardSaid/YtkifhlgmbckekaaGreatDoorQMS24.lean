/-
  The law numerallaw07.SoftSums answers true. (Printed by wip/gen/softlaw.py.)
-/
import Derived.Test.YtkifhlgmbckekaaGreatDoorQSubR
import Derived.Test.YtkifhlgmbckekaaGreatDoorRowTab
namespace Go.Proofs.YtkifhlgmbckekaaGreatDoor

open Go.RowKit Go.Lb

set_option maxRecDepth 100000 in
theorem of7_any (b g e : Int) (w : World) :
    Calls Tryz.prog 15 #[.int .u64 b, .int .u8 g, .int .i64 e] w fun en w' => en = .returned (.agg #[.int .u64 b, .int .u8 g, .int .i64 e]) ∧ Below w.heap.size w w' := by
  go_enter Tryz.func15, Tryz.ntmps15
  go_wp2
  refine bodyPost_ret (v := .agg #[.int .u64 b, .int .u8 g, .int .i64 e]) (by simp [results, Tryz.results15, go_sem]) rfl ⟨rfl, more (Below.refl _ _) _⟩

set_option maxRecDepth 100000 in
set_option maxHeartbeats 4000000 in
theorem softSums_any (e f : Int) (a b c m : Nat) (w : World) (hm : m < 256) (ha : a < 18446744073709551616) (hb : b < 18446744073709551616) (_hc : c < 18446744073709551616) (hT : Tab w) :
    Calls Tryz.prog 3 #[.agg #[.int .i64 e, .int .i64 f, .int .u64 (a : Int), .int .u64 (b : Int), .int .u64 (c : Int), .int .u8 (m : Int)]] w fun en w' => en = .returned (.bool true) ∧ Below w.heap.size w w' := by
  have x0 : (w.alloc (.cells #[.int .i64 e, .int .i64 f, .int .u64 (a : Int), .int .u64 (b : Int), .int .u64 (c : Int), .int .u8 (m : Int)] 26)).cell? ⟨w.heap.size, 0, none⟩ = some (.int .i64 e) := by simp
  have x1 : (w.alloc (.cells #[.int .i64 e, .int .i64 f, .int .u64 (a : Int), .int .u64 (b : Int), .int .u64 (c : Int), .int .u8 (m : Int)] 26)).cell? ⟨w.heap.size, 1, none⟩ = some (.int .i64 f) := by simp
  have x2 : (w.alloc (.cells #[.int .i64 e, .int .i64 f, .int .u64 (a : Int), .int .u64 (b : Int), .int .u64 (c : Int), .int .u8 (m : Int)] 26)).cell? ⟨w.heap.size, 2, none⟩ = some (.int .u64 (a : Int)) := by simp
  have x3 : (w.alloc (.cells #[.int .i64 e, .int .i64 f, .int .u64 (a : Int), .int .u64 (b : Int), .int .u64 (c : Int), .int .u8 (m : Int)] 26)).cell? ⟨w.heap.size, 3, none⟩ = some (.int .u64 (b : Int)) := by simp
  have x4 : (w.alloc (.cells #[.int .i64 e, .int .i64 f, .int .u64 (a : Int), .int .u64 (b : Int), .int .u64 (c : Int), .int .u8 (m : Int)] 26)).cell? ⟨w.heap.size, 4, none⟩ = some (.int .u64 (c : Int)) := by simp
  have x5 : (w.alloc (.cells #[.int .i64 e, .int .i64 f, .int .u64 (a : Int), .int .u64 (b : Int), .int .u64 (c : Int), .int .u8 (m : Int)] 26)).cell? ⟨w.heap.size, 5, none⟩ = some (.int .u8 (m : Int)) := by simp
  have hW0 := more (Below.refl w.heap.size w) (.cells #[.int .i64 e, .int .i64 f, .int .u64 (a : Int), .int .u64 (b : Int), .int .u64 (c : Int), .int .u8 (m : Int)] 26)
  go_enter Tryz.func3, Tryz.ntmps3
  go_upto_region 1 with fail
  generalize w.alloc (.cells #[.int .i64 e, .int .i64 f, .int .u64 (a : Int), .int .u64 (b : Int), .int .u64 (c : Int), .int .u8 (m : Int)] 26) = w0 at *
  have kS : ∀ w' : World, Below w0.heap.size w0 w' → (w'.cell? ⟨w.heap.size, 0, none⟩ = some (.int .i64 e) ∧ w'.cell? ⟨w.heap.size, 1, none⟩ = some (.int .i64 f) ∧ w'.cell? ⟨w.heap.size, 2, none⟩ = some (.int .u64 (a : Int)) ∧ w'.cell? ⟨w.heap.size, 3, none⟩ = some (.int .u64 (b : Int)) ∧ w'.cell? ⟨w.heap.size, 4, none⟩ = some (.int .u64 (c : Int)) ∧ w'.cell? ⟨w.heap.size, 5, none⟩ = some (.int .u8 (m : Int)) ∧ Below w0.heap.size w0 w') := fun w' hb => ⟨cellStay x0 hb, cellStay x1 hb, cellStay x2 hb, cellStay x3 hb, cellStay x4 hb, cellStay x5 hb, hb⟩
  have qT : ∀ w' : World, Below w0.heap.size w0 w' → Tab w' := fun w' hb => hT.below (next hW0 hb)
  have hb0 := Below.refl w0.heap.size w0
  go_region_held3 (fun w' => w'.cell? ⟨w.heap.size, 0, none⟩ = some (.int .i64 e) ∧ w'.cell? ⟨w.heap.size, 1, none⟩ = some (.int .i64 f) ∧ w'.cell? ⟨w.heap.size, 2, none⟩ = some (.int .u64 (a : Int)) ∧ w'.cell? ⟨w.heap.size, 3, none⟩ = some (.int .u64 (b : Int)) ∧ w'.cell? ⟨w.heap.size, 4, none⟩ = some (.int .u64 (c : Int)) ∧ w'.cell? ⟨w.heap.size, 5, none⟩ = some (.int .u8 (m : Int)) ∧ Below w0.heap.size w0 w')
    ((refine kS _ ?_; (repeat (with_reducible (first | assumption | exact Below.refl _ _ | refine Below.drew ?_ | refine more ?_ _))); done))
    (first
      | (go_at_call 16; (with_reducible refine (softAdd_any e f a b m _ hm ha hb (qT _ (by go_split_ands; first | assumption | exact Below.drew (by assumption)))).mono ?_); rintro en wX ⟨rfl, hbX⟩; have hWX : Below w0.heap.size w0 wX := (by go_split_ands; exact next (by assumption) hbX))
      | (go_at_call 17; (with_reducible refine (refAdd7_any e f a b m _ hm ha hb).mono ?_); rintro en wX ⟨rfl, hbX⟩; have hWX : Below w0.heap.size w0 wX := (by go_split_ands; exact next (by assumption) hbX))
      | (go_at_call 15; refine (of7_any _ _ _ _).mono ?_; rintro en wX ⟨rfl, hbX⟩; have hWX : Below w0.heap.size w0 wX := (by go_split_ands; exact next (by assumption) hbX)))
  go_split_ands
  go_wp2
  go_region_held3 (fun w' => w'.cell? ⟨w.heap.size, 0, none⟩ = some (.int .i64 e) ∧ w'.cell? ⟨w.heap.size, 1, none⟩ = some (.int .i64 f) ∧ w'.cell? ⟨w.heap.size, 2, none⟩ = some (.int .u64 (a : Int)) ∧ w'.cell? ⟨w.heap.size, 3, none⟩ = some (.int .u64 (b : Int)) ∧ w'.cell? ⟨w.heap.size, 4, none⟩ = some (.int .u64 (c : Int)) ∧ w'.cell? ⟨w.heap.size, 5, none⟩ = some (.int .u8 (m : Int)) ∧ Below w0.heap.size w0 w')
    ((refine kS _ ?_; (repeat (with_reducible (first | assumption | exact Below.refl _ _ | refine Below.drew ?_ | refine more ?_ _))); done))
    (first
      | (go_at_call 16; (with_reducible refine (softAdd_any e f b a m _ hm hb ha (qT _ (by go_split_ands; first | assumption | exact Below.drew (by assumption)))).mono ?_); rintro en wX ⟨rfl, hbX⟩; have hWX : Below w0.heap.size w0 wX := (by go_split_ands; exact next (by assumption) hbX))
      | (go_at_call 17; (with_reducible refine (refAdd7_any e f b a m _ hm hb ha).mono ?_); rintro en wX ⟨rfl, hbX⟩; have hWX : Below w0.heap.size w0 wX := (by go_split_ands; exact next (by assumption) hbX))
      | (go_at_call 15; refine (of7_any _ _ _ _).mono ?_; rintro en wX ⟨rfl, hbX⟩; have hWX : Below w0.heap.size w0 wX := (by go_split_ands; exact next (by assumption) hbX)))
  go_split_ands
  go_wp2
  go_region_held3 (fun w' => w'.cell? ⟨w.heap.size, 0, none⟩ = some (.int .i64 e) ∧ w'.cell? ⟨w.heap.size, 1, none⟩ = some (.int .i64 f) ∧ w'.cell? ⟨w.heap.size, 2, none⟩ = some (.int .u64 (a : Int)) ∧ w'.cell? ⟨w.heap.size, 3, none⟩ = some (.int .u64 (b : Int)) ∧ w'.cell? ⟨w.heap.size, 4, none⟩ = some (.int .u64 (c : Int)) ∧ w'.cell? ⟨w.heap.size, 5, none⟩ = some (.int .u8 (m : Int)) ∧ Below w0.heap.size w0 w')
    ((refine kS _ ?_; (repeat (with_reducible (first | assumption | exact Below.refl _ _ | refine Below.drew ?_ | refine more ?_ _))); done))
    (first
      | (go_at_call 18; (with_reducible refine (softSub_any e f a b m _ hm ha hb (qT _ (by go_split_ands; first | assumption | exact Below.drew (by assumption)))).mono ?_); rintro en wX ⟨rfl, hbX⟩; have hWX : Below w0.heap.size w0 wX := (by go_split_ands; exact next (by assumption) hbX))
      | (go_at_call 19; (with_reducible refine (refSub7_any e f a b m _ hm ha hb).mono ?_); rintro en wX ⟨rfl, hbX⟩; have hWX : Below w0.heap.size w0 wX := (by go_split_ands; exact next (by assumption) hbX))
      | (go_at_call 15; refine (of7_any _ _ _ _).mono ?_; rintro en wX ⟨rfl, hbX⟩; have hWX : Below w0.heap.size w0 wX := (by go_split_ands; exact next (by assumption) hbX)))
  go_split_ands
  go_wp2
  go_region_held3 (fun w' => w'.cell? ⟨w.heap.size, 0, none⟩ = some (.int .i64 e) ∧ w'.cell? ⟨w.heap.size, 1, none⟩ = some (.int .i64 f) ∧ w'.cell? ⟨w.heap.size, 2, none⟩ = some (.int .u64 (a : Int)) ∧ w'.cell? ⟨w.heap.size, 3, none⟩ = some (.int .u64 (b : Int)) ∧ w'.cell? ⟨w.heap.size, 4, none⟩ = some (.int .u64 (c : Int)) ∧ w'.cell? ⟨w.heap.size, 5, none⟩ = some (.int .u8 (m : Int)) ∧ Below w0.heap.size w0 w')
    ((refine kS _ ?_; (repeat (with_reducible (first | assumption | exact Below.refl _ _ | refine Below.drew ?_ | refine more ?_ _))); done))
    (first
      | (go_at_call 16; (with_reducible refine (softAdd_any e f a a m _ hm ha ha (qT _ (by go_split_ands; first | assumption | exact Below.drew (by assumption)))).mono ?_); rintro en wX ⟨rfl, hbX⟩; have hWX : Below w0.heap.size w0 wX := (by go_split_ands; exact next (by assumption) hbX))
      | (go_at_call 17; (with_reducible refine (refAdd7_any e f a a m _ hm ha ha).mono ?_); rintro en wX ⟨rfl, hbX⟩; have hWX : Below w0.heap.size w0 wX := (by go_split_ands; exact next (by assumption) hbX))
      | (go_at_call 15; refine (of7_any _ _ _ _).mono ?_; rintro en wX ⟨rfl, hbX⟩; have hWX : Below w0.heap.size w0 wX := (by go_split_ands; exact next (by assumption) hbX)))
  go_split_ands
  go_wp2
  go_region_held3 (fun w' => w'.cell? ⟨w.heap.size, 0, none⟩ = some (.int .i64 e) ∧ w'.cell? ⟨w.heap.size, 1, none⟩ = some (.int .i64 f) ∧ w'.cell? ⟨w.heap.size, 2, none⟩ = some (.int .u64 (a : Int)) ∧ w'.cell? ⟨w.heap.size, 3, none⟩ = some (.int .u64 (b : Int)) ∧ w'.cell? ⟨w.heap.size, 4, none⟩ = some (.int .u64 (c : Int)) ∧ w'.cell? ⟨w.heap.size, 5, none⟩ = some (.int .u8 (m : Int)) ∧ Below w0.heap.size w0 w')
    ((refine kS _ ?_; (repeat (with_reducible (first | assumption | exact Below.refl _ _ | refine Below.drew ?_ | refine more ?_ _))); done))
    (first
      | (go_at_call 18; (with_reducible refine (softSub_any e f a a m _ hm ha ha (qT _ (by go_split_ands; first | assumption | exact Below.drew (by assumption)))).mono ?_); rintro en wX ⟨rfl, hbX⟩; have hWX : Below w0.heap.size w0 wX := (by go_split_ands; exact next (by assumption) hbX))
      | (go_at_call 19; (with_reducible refine (refSub7_any e f a a m _ hm ha ha).mono ?_); rintro en wX ⟨rfl, hbX⟩; have hWX : Below w0.heap.size w0 wX := (by go_split_ands; exact next (by assumption) hbX))
      | (go_at_call 15; refine (of7_any _ _ _ _).mono ?_; rintro en wX ⟨rfl, hbX⟩; have hWX : Below w0.heap.size w0 wX := (by go_split_ands; exact next (by assumption) hbX)))
  go_split_ands
  go_wp2
  go_ret
  exact ⟨rfl, next hW0 (by assumption)⟩

end Go.Proofs.YtkifhlgmbckekaaGreatDoor

/-
  What an operation of layer 7 is asked, opened.
-/
namespace Go.Proofs.YtkifhlgmbckekaaGreatDoor

open Go.RowKit Go.Lb Go.ChangeShapes Go.WideShapes Go.ChangeAt Go.Joins

theorem readsA : Tryz.prog.readableRec 26 = true := by kernel_rfl

theorem rowA : 26 < Tryz.prog.types.size := of_decide_eq_true (by kernel_rfl)

theorem cellsA : Tryz.prog.cellsOf 26 = 6 := by kernel_rfl

theorem cellsU : Tryz.prog.cellsOf 24 = 1 := by kernel_rfl

theorem cellsI : Tryz.prog.cellsOf 3 = 1 := by kernel_rfl

theorem array6 {α : Type} {cs : Array α} (h : cs.size = 6) : ∃ c0 c1 c2 c3 c4 c5, cs = #[c0, c1, c2, c3, c4, c5] := by
  obtain ⟨l⟩ := cs
  match l, h with
  | [c0, c1, c2, c3, c4, c5], _ => exact ⟨c0, c1, c2, c3, c4, c5, rfl⟩

theorem five_of {α : Type} {l : List α} (h : l.length = 5) : ∃ y0 y1 y2 y3 y4, l = [y0, y1, y2, y3, y4] := by
  match l, h with
  | [y0, y1, y2, y3, y4], _ => exact ⟨y0, y1, y2, y3, y4, rfl⟩

theorem u64_lit {n : Int} (h : (Lit.int .u64 n).wf = true) : ∃ b : Nat, n = (b : Int) ∧ b < 18446744073709551616 := by
  have hx : 0 ≤ n ∧ n ≤ 18446744073709551615 := by simpa [Lit.wf, IntKind.min, IntKind.max, IntKind.signed, IntKind.bits] using h
  obtain ⟨b, rfl⟩ := Int.eq_ofNat_of_zero_le hx.1
  exact ⟨b, rfl, by omega⟩

theorem u8_lit {n : Int} (h : (Lit.int .u8 n).wf = true) : ∃ b : Nat, n = (b : Int) ∧ b < 256 := by
  have hx : 0 ≤ n ∧ n ≤ 255 := by simpa [Lit.wf, IntKind.min, IntKind.max, IntKind.signed, IntKind.bits] using h
  obtain ⟨b, rfl⟩ := Int.eq_ofNat_of_zero_le hx.1
  exact ⟨b, rfl, by omega⟩

set_option maxRecDepth 100000 in
/-- A form, two, three floats and a mode, by value, opened. -/
theorem open_asked {H : Type} {enc : TypeId × Value → H} {w : World} {r : Reach} {b0 : Nat} {v : Value} {d : DataW H} {p : List MemPlace} (hv : Value.okWide Tryz.prog w r b0 26 v) (h : DataW.Trod enc Tryz.prog w 0 (fun _ => true) true 26 v d p)
    : ∃ (e f : Int) (a b c m : Nat), v = .agg #[.int .i64 e, .int .i64 f, .int .u64 (a : Int), .int .u64 (b : Int), .int .u64 (c : Int), .int .u8 (m : Int)] ∧ a < 18446744073709551616 ∧ b < 18446744073709551616 ∧ c < 18446744073709551616 ∧ m < 256 := by
  obtain ⟨cs, rfl, hsz⟩ := okWide_struct Tryz.underlying26 hv
  rw [cellsA] at hsz
  obtain ⟨c0, c1, c2, c3, c4, c5, rfl⟩ := array6 hsz
  obtain ⟨fuel, hf⟩ := h
  obtain ⟨xs, n, _, _, _, hlen, hfs⟩ := DataW.trod_struct Tryz.underlying26 hf
  obtain ⟨y0, y1, y2, y3, y4, rfl⟩ := five_of hlen
  have g0 := hfs 0 _ rfl
  have g1 := hfs 1 _ rfl
  have g2 := hfs 2 _ rfl
  have g3 := hfs 3 _ rfl
  have g4 := hfs 4 _ rfl
  simp only [Value.cells] at g0 g1 g2 g3 g4
  obtain ⟨z0, z1, k, _, _, q0, q1⟩ := trod_struct2 Tryz.underlying23 g0
  obtain ⟨e, he, _, _⟩ := DataW.trod_int Tryz.underlying3 q0
  obtain ⟨f, hf', _, _⟩ := DataW.trod_int Tryz.underlying3 q1
  obtain ⟨a, ha, _, wa⟩ := DataW.trod_int Tryz.underlying24 g1
  obtain ⟨b, hb, _, wb⟩ := DataW.trod_int Tryz.underlying24 g2
  obtain ⟨c, hc, _, wc⟩ := DataW.trod_int Tryz.underlying24 g3
  obtain ⟨m, hm, _, wm⟩ := DataW.trod_int Tryz.underlying5 g4
  obtain ⟨a, rfl, la⟩ := u64_lit wa
  obtain ⟨b, rfl, lb⟩ := u64_lit wb
  obtain ⟨c, rfl, lc⟩ := u64_lit wc
  obtain ⟨m, rfl, lm⟩ := u8_lit wm
  simp [cellsI, cellsF, cellsU, cells8] at he hf' ha hb hc hm
  subst he hf' ha hb hc hm
  exact ⟨e, f, a, b, c, m, rfl, la, lb, lc, lm⟩

end Go.Proofs.YtkifhlgmbckekaaGreatDoor

