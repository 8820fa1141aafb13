/-
  The law SoftPicks answers true.
-/
import Derived.Test.YtmiheaoojmgalaaDoorSoftJ
namespace Go.Proofs.YtmiheaoojmgalaaDoor
open Go.RowKit Go.Lb

set_option maxRecDepth 100000 in
theorem pair_any (b e : Int) (w : World) :
    Calls Tryd.prog 9 #[.int .u64 b, .int .i64 e] w fun en w' => en = .returned (.agg #[.int .u64 b, .int .u8 0, .int .i64 e]) ∧ Below w.heap.size w w' := by
  go_enter Tryd.func9, Tryd.ntmps9
  go_wp2
  refine bodyPost_ret (v := .agg #[.int .u64 b, .int .u8 0, .int .i64 e]) (by simp [results, Tryd.results9, go_sem]) rfl ⟨rfl, more (Below.refl _ _) _⟩

set_option maxRecDepth 100000 in
set_option maxHeartbeats 1600000 in
theorem picks_any (e f : Int) (a b : Nat) (w : World) (ha : a < 18446744073709551616) (hb : b < 18446744073709551616) (hT : Tab w) :
    Calls Tryd.prog 3 #[.agg #[.int .i64 e, .int .i64 f], .int .u64 a, .int .u64 b] w fun en w' => en = .returned (.bool true) ∧ Below w.heap.size w w' := by
  go_enter Tryd.func3, Tryd.ntmps3
  go_wp2
  have A0 := box2_new w (.int .i64 e) (.int .i64 f) 23
  have hW0 := more (Below.refl w.heap.size w) (.cells #[.int .i64 e, .int .i64 f] 23)
  generalize w.alloc (.cells #[.int .i64 e, .int .i64 f] 23) = w0 at A0 hW0 ⊢
  have kS : ∀ w' : World, Below w0.heap.size w0 w' → (w'.cell? ⟨w.heap.size, 0, none⟩ = some (.int .i64 e) ∧ w'.cell? ⟨w.heap.size, 1, none⟩ = some (.int .i64 f) ∧ Below w0.heap.size w0 w') := fun w' hb => ⟨cellStay A0.c0 hb, cellStay A0.c1 hb, hb⟩
  have qT : ∀ w' : World, Below w0.heap.size w0 w' → Tab w' := fun w' hb => hT.below (next hW0 hb)
  have hb0 := Below.refl w0.heap.size w0
  go_region_held3 (fun w' => w'.cell? ⟨w.heap.size, 0, none⟩ = some (.int .i64 e) ∧ w'.cell? ⟨w.heap.size, 1, none⟩ = some (.int .i64 f) ∧ Below w0.heap.size w0 w')
    ((refine kS _ ?_; (repeat (with_reducible (first | assumption | exact Below.refl _ _ | refine Below.drew ?_ | refine more ?_ _))); done))
    (first
      | (go_at_call 10; refine (softNeg_any e f a _ ha).mono ?_; rintro en wX ⟨rfl, hbX⟩; have hWX : Below w0.heap.size w0 wX := (by go_split_ands; exact next (by assumption) hbX))
      | (go_at_call 11; refine (refNeg7_any e f a _ ha).mono ?_; rintro en wX ⟨rfl, hbX⟩; have hWX : Below w0.heap.size w0 wX := (by go_split_ands; exact next (by assumption) hbX))
      | (go_at_call 9; refine (pair_any _ _ _).mono ?_; rintro en wX ⟨rfl, hbX⟩; have hWX : Below w0.heap.size w0 wX := (by go_split_ands; exact next (by assumption) hbX)))
  go_split_ands
  go_wp2
  go_region_held3 (fun w' => w'.cell? ⟨w.heap.size, 0, none⟩ = some (.int .i64 e) ∧ w'.cell? ⟨w.heap.size, 1, none⟩ = some (.int .i64 f) ∧ Below w0.heap.size w0 w')
    ((refine kS _ ?_; (repeat (with_reducible (first | assumption | exact Below.refl _ _ | refine Below.drew ?_ | refine more ?_ _))); done))
    (first
      | (go_at_call 12; refine (softAbs_any e f a _ ha).mono ?_; rintro en wX ⟨rfl, hbX⟩; have hWX : Below w0.heap.size w0 wX := (by go_split_ands; exact next (by assumption) hbX))
      | (go_at_call 13; refine (refAbs7_any e f a _ ha).mono ?_; rintro en wX ⟨rfl, hbX⟩; have hWX : Below w0.heap.size w0 wX := (by go_split_ands; exact next (by assumption) hbX))
      | (go_at_call 9; refine (pair_any _ _ _).mono ?_; rintro en wX ⟨rfl, hbX⟩; have hWX : Below w0.heap.size w0 wX := (by go_split_ands; exact next (by assumption) hbX)))
  go_split_ands
  go_wp2
  go_region_held3 (fun w' => w'.cell? ⟨w.heap.size, 0, none⟩ = some (.int .i64 e) ∧ w'.cell? ⟨w.heap.size, 1, none⟩ = some (.int .i64 f) ∧ Below w0.heap.size w0 w')
    ((refine kS _ ?_; (repeat (with_reducible (first | assumption | exact Below.refl _ _ | refine Below.drew ?_ | refine more ?_ _))); done))
    (first
      | (go_at_call 14; refine (softMin_any e f a b _ ha hb (qT _ (by go_split_ands; first | assumption | exact Below.drew (by assumption)))).mono ?_; rintro en wX ⟨rfl, hbX⟩; have hWX : Below w0.heap.size w0 wX := (by go_split_ands; exact next (by assumption) hbX))
      | (go_at_call 15; refine (refMin_any e f a b _ ha hb).mono ?_; rintro en wX ⟨rfl, hbX⟩; have hWX : Below w0.heap.size w0 wX := (by go_split_ands; exact next (by assumption) hbX))
      | (go_at_call 9; refine (pair_any _ _ _).mono ?_; rintro en wX ⟨rfl, hbX⟩; have hWX : Below w0.heap.size w0 wX := (by go_split_ands; exact next (by assumption) hbX)))
  go_split_ands
  go_wp2
  go_region_held3 (fun w' => w'.cell? ⟨w.heap.size, 0, none⟩ = some (.int .i64 e) ∧ w'.cell? ⟨w.heap.size, 1, none⟩ = some (.int .i64 f) ∧ Below w0.heap.size w0 w')
    ((refine kS _ ?_; (repeat (with_reducible (first | assumption | exact Below.refl _ _ | refine Below.drew ?_ | refine more ?_ _))); done))
    (first
      | (go_at_call 16; refine (softMax_any e f a b _ ha hb (qT _ (by go_split_ands; first | assumption | exact Below.drew (by assumption)))).mono ?_; rintro en wX ⟨rfl, hbX⟩; have hWX : Below w0.heap.size w0 wX := (by go_split_ands; exact next (by assumption) hbX))
      | (go_at_call 17; refine (refMax_any e f a b _ ha hb).mono ?_; rintro en wX ⟨rfl, hbX⟩; have hWX : Below w0.heap.size w0 wX := (by go_split_ands; exact next (by assumption) hbX))
      | (go_at_call 9; refine (pair_any _ _ _).mono ?_; rintro en wX ⟨rfl, hbX⟩; have hWX : Below w0.heap.size w0 wX := (by go_split_ands; exact next (by assumption) hbX)))
  go_split_ands
  go_wp2
  go_ret
  exact ⟨rfl, next hW0 (by assumption)⟩

end Go.Proofs.YtmiheaoojmgalaaDoor
