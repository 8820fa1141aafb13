/-
  The walks of forms.layout, join, Join and of the reference's May.
-/
import Derived.Test.YtnokabglkmiidaaDoorFormA
import Derived.Deep.RegionHeld3
namespace Go.Proofs.YtnokabglkmiidaaDoor
open Go.RowKit Go.Lb

theorem layout_any (e f : Nat) (w : World) (he : e ≤ 11) (hf : f ≤ 52) :
    Calls Tryd.prog 73 #[.agg #[.int .i64 e, .int .i64 f]] w fun en w' => en = .returned (.agg #[.int .i64 0, .int .i64 f, .int .i64 f, .int .i64 e, .int .i64 ((f + e : Nat) : Int), .int .i64 1]) ∧ Below w.heap.size w w' := by
  go_enter Tryd.func73, Tryd.ntmps73
  go_wp2
  refine bodyPost_ret (v := .agg #[.int .i64 0, .int .i64 f, .int .i64 f, .int .i64 e, .int .i64 ((f + e : Nat) : Int), .int .i64 1]) (by simp [results, Tryd.results73, go_sem]) rfl ⟨rfl, ?_⟩
  exact more (more (Below.refl _ _) _) _

theorem put0_any (sz fld : Nat) (w : World) (hs : sz ≤ 64) (hf : fld < pw sz) :
    Calls Tryd.prog 126 #[.agg #[.int .i64 0, .int .i64 sz], .int .u64 0, .int .u64 fld] w fun en w' => en = .returned (.int .u64 (fld : Int)) ∧ Below w.heap.size w w' := by
  have h := put_any 0 sz 0 fld w (pw_pos 0) (by omega) hf
  rw [show putN 0 fld 0 = fld from by unfold putN; rw [pw_zero]; omega] at h
  exact h

theorem putTop_any (e f b : Nat) (w : World) (hs : f + e + 1 ≤ 64) (hb : b < pw (f + e)) :
    Calls Tryd.prog 126 #[.agg #[.int .i64 ((f : Int) + (e : Int)), .int .i64 1], .int .u64 b, .int .u64 1] w fun en w' => en = .returned (.int .u64 (putN b 1 (e + f) : Int)) ∧ Below w.heap.size w w' := by
  have h := put_any (f + e) 1 b 1 w hb hs (by unfold pw; decide)
  rw [Nat.add_comm f e, show ((e + f : Nat) : Int) = (f : Int) + (e : Int) from by omega] at h
  exact h

/-- Fields put together. -/
def joinN (e f : Nat) (neg : Bool) (exp frac : Nat) : Nat := if neg = true then putN (putN frac exp f) 1 (e + f) else putN frac exp f

set_option maxHeartbeats 800000 in
theorem join_any (e f : Nat) (neg : Bool) (exp frac : Nat) (w : World) (he1 : 2 ≤ e) (he : e ≤ 11) (hf : f ≤ 52) (hx : exp < pw e) (hy : frac < pw f) :
    Calls Tryd.prog 122 #[.agg #[.int .i64 e, .int .i64 f], .bool neg, .int .u64 exp, .int .u64 frac] w fun en w' => en = .returned (.int .u64 (joinN e f neg exp frac : Int)) ∧ Below w.heap.size w w' := by
  go_enter Tryd.func122, Tryd.ntmps122
  go_wp2_with (go_at_call 73; refine (layout_any e f _ he hf).mono ?_; rintro en w1 ⟨rfl, hb1⟩; obtain ⟨hc1, hf1⟩ := bcell hb1; have hz1 : w.heap.size < w1.heap.size := by have := hb1.size; simp at this; omega)
  have hB0 : Below w.heap.size w (w1.alloc (.cells #[.int .i64 0, .int .i64 f, .int .i64 f, .int .i64 e, .int .i64 (↑f + ↑e), .int .i64 1] 91)) := more (next (more (Below.refl _ _) _) hb1) _
  have hfp : frac < pw f := hy
  go_region_held3 (fun w' => w'.cell? ⟨w1.heap.size, 0, none⟩ = some (.int .i64 0) ∧ w'.cell? ⟨w1.heap.size, 1, none⟩ = some (.int .i64 f) ∧ w'.cell? ⟨w1.heap.size, 2, none⟩ = some (.int .i64 f) ∧ w'.cell? ⟨w1.heap.size, 3, none⟩ = some (.int .i64 e) ∧ w'.cell? ⟨w1.heap.size, 4, none⟩ = some (.int .i64 (↑f + ↑e)) ∧ w'.cell? ⟨w1.heap.size, 5, none⟩ = some (.int .i64 1) ∧ Below w.heap.size w w')
    ((go_split_ands; refine ⟨?_, ?_, ?_, ?_, ?_, ?_, ?_⟩ <;> (first | assumption | exact Below.drew (by assumption) | exact cellStay (by assumption) hb2 | exact next (by assumption) hb2 | (go_keep; done))))
    (first | (go_at_call 126; (with_reducible refine (put0_any f frac _ (by omega) hy).mono ?_); rintro en w2 ⟨rfl, hb2⟩) | (go_at_call 126; (with_reducible refine (put_any f e frac exp _ hfp (by omega) hx).mono ?_); rintro en w2 ⟨rfl, hb2⟩))
  rename_i w2 hS
  obtain ⟨k0, k1, k2, k3, k4, k5, hB2⟩ := hS
  have e3 : putN frac exp f < pw (f + e) := (put_bits (b := frac) (fr := f) (sz := e) (fld := exp) hy (by omega) hx).2.2
  cases neg
  · have H : Hid (joinN e f false exp frac = putN frac exp f) := Lib.hid (by simp [joinN])
    go_wp2
    go_ret
    exact ⟨by rw [H.out]; rfl, hB2⟩
  · have H : Hid (joinN e f true exp frac = putN (putN frac exp f) 1 (e + f)) := Lib.hid (by simp [joinN])
    go_wp2_with (go_at_call 126; (with_reducible refine (putTop_any e f _ _ (by omega) e3).mono ?_); rintro en w3 ⟨rfl, hb3⟩)
    go_ret
    exact ⟨by rw [H.out]; rfl, next hB2 hb3⟩
theorem maskN_le {e : Nat} (h : e ≤ 11) : maskN e ≤ 2047 := by
  have := pw_le h
  have e11 : pw 11 = 2048 := by unfold pw; rfl
  rw [maskN_eq]; omega

end Go.Proofs.YtnokabglkmiidaaDoor
