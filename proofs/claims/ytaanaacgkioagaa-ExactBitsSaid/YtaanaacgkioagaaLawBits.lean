/-
  The walk of the law ExactBits: it answers true, whatever it is asked; nothing that was there has turned.
-/
import Derived.Test.YtaanaacgkioagaaBitsZ
import Derived.Test.YtaanaacgkioagaaLent
namespace Go.Proofs.Ytaanaacgkioagaa
open Go.RowKit Go.Lb

set_option maxHeartbeats 1000000 in
theorem still_any (neg : Bool) (g cap : Nat) (ao : Option Addr) (n c base : Nat) (x : Int) (xs : List Nat) (w : World) (h : Sl w ao n c xs)
    (hown : w.ownsRow base 52 1 (.slice (some ⟨g, 0, none⟩) (n + 3) cap) (n + 3) (lvs (xs ++ [77, 78, 79]))) (hn : n ≤ 35184372088832) :
    Calls Try.prog 9 #[.agg #[.bool neg, .slice (some ⟨g, 0, none⟩) n cap, .int .i64 x], .agg #[.bool neg, .slice ao n c, .int .i64 x]] w fun e w' => e = .returned (.bool true) ∧ Below w.heap.size w w' := by
  have hl := hown.lt g rfl
  go_enter Try.func9, Try.ntmps9
  go_wp2_with (go_at_call 25; refine (kept_any g cap ao n c base xs _ ((h.alloc _).alloc _) ((hown.alloc _).alloc _) (by simp; omega) hn).mono ?_; rintro en w1 ⟨rfl, hb1⟩)
  go_ret
  exact ⟨rfl, next (more (more (Below.refl _ _) _) _) hb1⟩

set_option maxRecDepth 100000 in
set_option maxHeartbeats 2000000 in
theorem law_any (e f : Int) (neg : Bool) (ao : Option Addr) (n c : Nat) (x : Int) (xs : List Nat) (w : World) (h : Sl w ao n c xs) (hn : n + 3 ≤ 35184372088832) :
    Calls Try.prog 3 #[.agg #[.int .i64 e, .int .i64 f], .agg #[.bool neg, .slice ao n c, .int .i64 x]] w fun en w' => en = .returned (.bool true) ∧ Below w.heap.size w w' := by
  go_enter Try.func3, Try.ntmps3
  go_wp2_with (first
    | (go_at_call 4; refine (rfBits_any e f neg ao n c x xs _ ((h.alloc _).alloc _)).mono ?_; rintro en w1 ⟨rfl, hb1⟩; have hc1 := (bcell hb1).1; have c0 : w1.cell? ⟨w.heap.size, 0, none⟩ = some (.int .i64 e) := (hc1 _ _ (by simp <;> omega)).trans (boxA _ _ _ _ _); have c1 : w1.cell? ⟨w.heap.size, 1, none⟩ = some (.int .i64 f) := (hc1 _ _ (by simp <;> omega)).trans (boxA _ _ _ _ _); have d0 : w1.cell? ⟨w.heap.size + 1, 0, none⟩ = some (.bool neg) := (hc1 _ _ (by simp)).trans (boxB _ _ _ _ _); have d1 : w1.cell? ⟨w.heap.size + 1, 1, none⟩ = some (.slice ao n c) := (hc1 _ _ (by simp)).trans (boxB _ _ _ _ _); have d2 : w1.cell? ⟨w.heap.size + 1, 2, none⟩ = some (.int .i64 x) := (hc1 _ _ (by simp)).trans (boxB _ _ _ _ _); have hW := next (more (more (Below.refl _ _) _) _) hb1; have S1 := ((h.alloc _).alloc _).below hb1; clear hc1)
    | (go_at_call 5; refine (own_any neg ao n c x xs _ S1 hn).mono ?_; rintro en w2 ⟨g, cap, rfl, hown2, hb2, hg2⟩; replace c0 := cellStay c0 hb2; replace c1 := cellStay c1 hb2; replace d0 := cellStay d0 hb2; replace d1 := cellStay d1 hb2; replace d2 := cellStay d2 hb2; replace hW := next hW hb2; replace S1 := S1.below hb2; have O2 := sl_own hown2 h.len h.ok; have l0 := World.block_lt_of_cell? _ _ c0; have l1 := World.block_lt_of_cell? _ _ d0; simp only [] at l0 l1)
    | (go_at_call 6; refine (exBits_any e f neg _ n cap x xs _ (O2.alloc _)).mono ?_; rintro en w3 ⟨rfl, hb3⟩; have hc3 := (bcell hb3).1; have x0 : w3.cell? ⟨w2.heap.size, 0, none⟩ = some (.bool neg) := (hc3 _ _ (by simp)).trans (World.cell?_alloc_new _ _ _ _); have x1 : w3.cell? ⟨w2.heap.size, 1, none⟩ = some (.slice (some ⟨g, 0, none⟩) n cap) := (hc3 _ _ (by simp)).trans (World.cell?_alloc_new _ _ _ _); have x2 : w3.cell? ⟨w2.heap.size, 2, none⟩ = some (.int .i64 x) := (hc3 _ _ (by simp)).trans (World.cell?_alloc_new _ _ _ _); clear hc3; replace d0 := cellStay (cellStay d0 ((Below.refl _ _).alloc (Nat.le_refl _) _)) hb3; replace d1 := cellStay (cellStay d1 ((Below.refl _ _).alloc (Nat.le_refl _) _)) hb3; replace d2 := cellStay (cellStay d2 ((Below.refl _ _).alloc (Nat.le_refl _) _)) hb3; replace hW := next (more hW _) hb3; replace S1 := (S1.alloc _).below hb3; replace O2 := (O2.alloc _).below hb3; replace hown2 := own_below (hown2.alloc _) hb3))
  have hn3 : n ≤ 35184372088832 := by omega
  go_region_held3 (fun w' => w'.cell? ⟨w2.heap.size, 0, none⟩ = some (.bool neg) ∧ w'.cell? ⟨w2.heap.size, 1, none⟩ = some (.slice (some ⟨g, 0, none⟩) n cap) ∧ w'.cell? ⟨w2.heap.size, 2, none⟩ = some (.int .i64 x) ∧ w'.cell? ⟨w.heap.size + 1, 0, none⟩ = some (.bool neg) ∧ w'.cell? ⟨w.heap.size + 1, 1, none⟩ = some (.slice ao n c) ∧ w'.cell? ⟨w.heap.size + 1, 2, none⟩ = some (.int .i64 x) ∧ Below w.heap.size w w' ∧ Sl w' ao n c xs ∧ Sl w' (some ⟨g, 0, none⟩) n cap xs ∧ w'.ownsRow w1.heap.size 52 1 (.slice (some ⟨g, 0, none⟩) (n + 3) cap) (n + 3) (lvs (xs ++ [77, 78, 79])))
    ((go_split_ands; refine ⟨?_, ?_, ?_, ?_, ?_, ?_, ?_, ?_, ?_, ?_⟩ <;> (first | assumption | exact Below.drew (by assumption) | exact Sl.drew (by assumption) | exact World.ownsRow.drew (by assumption) | exact cellStay (by assumption) hbB | exact next (by assumption) hbB | exact Sl.below (by assumption) hbB | exact own_below (by assumption) hbB | (go_keep; done))))
    (first | (go_at_call 7; (with_reducible refine (dyCheck_any neg (some ⟨g, 0, none⟩) n cap x xs _ ?_).mono ?_); (go_split_ands; assumption); rintro en wB ⟨rfl, hbB⟩) | (go_at_call 8; (with_reducible refine (refDyCheck_any neg ao n c x xs _ ?_).mono ?_); (go_split_ands; assumption); rintro en wB ⟨rfl, hbB⟩) | (go_at_call 9; (with_reducible refine (still_any neg g cap ao n c w1.heap.size x xs _ ?_ ?_ hn3).mono ?_); (go_split_ands; assumption); (go_split_ands; assumption); rintro en wB ⟨rfl, hbB⟩))
  go_split_ands
  go_wp2
  go_ret
  exact ⟨rfl, by assumption⟩
end Go.Proofs.Ytaanaacgkioagaa
