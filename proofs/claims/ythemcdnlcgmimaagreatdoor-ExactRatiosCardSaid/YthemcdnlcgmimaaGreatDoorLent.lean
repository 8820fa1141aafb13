/-
  The walks of the laws' own helpers: lent, kept, own, still.
-/
import Derived.Test.YthemcdnlcgmimaaGreatDoorNats
import Derived.Test.YthemcdnlcgmimaaGreatDoorBase
import Derived.Deep.RegionHeld3
namespace Go.Proofs.YthemcdnlcgmimaaGreatDoor
open Go.RowKit Go.Lb

theorem u32_info : (Tryz.prog.info? 46).map (fun i => (i.zero, i.size, i.bytes)) = some (some (.int .u32 0), 1, 4) := by kernel_rfl

/-- What lent hands back: the number's limbs in a row of its own, with marks behind them. -/
def Lent (w : World) (xs : List Nat) (n : Nat) (e : Ending) (w' : World) : Prop :=
  ∃ g cap, e = .returned (.agg #[.slice (some ⟨g, 0, none⟩) n cap]) ∧ w'.ownsRow w.heap.size 46 1 (.slice (some ⟨g, 0, none⟩) (n + 3) cap) (n + 3) (lvs (xs ++ [77, 78, 79])) ∧ Below w.heap.size w w'

set_option maxHeartbeats 800000 in
theorem lent_any (ao : Option Addr) (n c : Nat) (xs : List Nat) (w : World) (h : Sl w ao n c xs) (hn : n + 3 ≤ 35184372088832) :
    Calls Tryz.prog 5 #[.agg #[.slice ao n c]] w (Lent w xs n) := by
  obtain ⟨i0, hi0, hz0, hz1, hz2⟩ := info_parts u32_info
  go_enter Tryz.func5, Tryz.ntmps5
  go_wp2_with (first
    | (at_builtin; refine wpList_append_sl _ rfl (.tmp 4) (.tmp 6) _ rfl (w.heap.size + 2) 46 i0 _ Tryz.underlying22 hi0 hz0 hz1 hz2 rfl (.slice none 0 0) 0 [] rfl (World.ownsRow_nil _ _ _ _) ao n c xs rfl ((h.alloc _).alloc _) (by omega) (by simp) ?_; intro v1 w1 hown1 hg1 hat1; have hbA := (Below.refl _ _).grown hg1 (Nat.le_refl _) (by simp [Value.ownBlock]); have hsz1 := hbA.size)
    | (at_builtin; (refine wpList_append_sl _ rfl (.tmp 8) (.tmp 9) _ rfl (w.heap.size + 2) 46 i0 _ Tryz.underlying22 hi0 hz0 hz1 hz2 rfl v1 (0 + n) ([] ++ xs) rfl (hown1.alloc _) (some ⟨w1.heap.size, 0, none⟩) 3 3 [77, 78, 79] rfl (sl_marks _ _) (by omega) (by simp at hsz1 ⊢; omega) ?_; intro v2 w2 hown2 hg2 hat2; have hbB := grownOwn (more hbA _) (hown1.alloc _) (by simp) hg2; obtain ⟨hc2, hf2⟩ := bcell hbB; obtain ⟨g, cap, rfl, hgb, hgl⟩ := hown2.form (by omega); obtain ⟨hcp, hcp2⟩ := own_cap hown2; have hcp3 : n ≤ cap := (by omega))))
  have hcell : w2.cell? ⟨w.heap.size + 1, 0, none⟩ = some (.slice none 0 0) := (hc2 _ _ (by simp)).trans (by simp [go_sem])
  refine bodyPost_ret (v := .agg #[.slice (some ⟨g, 0, none⟩) n cap]) (by simp [results, Tryz.results5, go_sem, World.cell?_setCell_same _ _ _ hcell]) rfl ⟨g, cap, rfl, ?_, ?_⟩
  · have := own_mono (base' := w.heap.size) (ownsRow_setCell_below hown2 (a := ⟨w.heap.size + 1, 0, none⟩) (by simp) (.slice (some ⟨g, 0, none⟩) n cap)) (by omega)
    simpa using this
  · exact (next (more (more (Below.refl _ _) _) _) hbB).setCell (by simp) _
set_option maxHeartbeats 1000000 in
theorem kept_any (g cap : Nat) (ao : Option Addr) (n c base : Nat) (xs : List Nat) (w : World) (h : Sl w ao n c xs)
    (hown : w.ownsRow base 46 1 (.slice (some ⟨g, 0, none⟩) (n + 3) cap) (n + 3) (lvs (xs ++ [77, 78, 79]))) (hg : g < w.heap.size) (hn : n ≤ 35184372088832) :
    Calls Tryz.prog 13 #[.agg #[.slice (some ⟨g, 0, none⟩) n cap], .agg #[.slice ao n c]] w fun e w' => e = .returned (.bool true) ∧ Below w.heap.size w w' := by
  have hl := h.len
  obtain ⟨hcp, hcp2⟩ := own_cap hown
  have m0 : w.cell? ⟨g, n, none⟩ = some (.int .u32 77) := by rw [own_cell hown (by omega), nth_app, if_neg (by omega), hl, Nat.sub_self]; rfl
  have m1 : w.cell? ⟨g, n + 1, none⟩ = some (.int .u32 78) := by rw [own_cell hown (by omega), nth_app, if_neg (by omega), hl, show n + 1 - n = 1 by omega]; rfl
  have m2 : w.cell? ⟨g, n + 2, none⟩ = some (.int .u32 79) := by rw [own_cell hown (by omega), nth_app, if_neg (by omega), hl, show n + 2 - n = 2 by omega]; rfl
  have mj : ∀ k, k < n → w.cell? ⟨g, k, none⟩ = some (.int .u32 (nth xs k : Int)) := fun k hk => by rw [own_cell hown (by omega), nth_app, if_pos (by omega)]
  have Mj := Lib.hid mj
  have hg1 : g < w.heap.size + 1 := by omega
  clear hown mj hl
  go_enter Tryz.func13, Tryz.ntmps13
  go_wp2
  go_loopw [7] (fun i wr => ∃ k m : Nat, k ≤ n ∧ i = .int .i64 k ∧ wr = ((w.alloc (.cells #[.slice (some ⟨g, 0, none⟩) n cap] 24)).alloc (.cells #[.slice ao n c] 24)).drewN m) (fun i _ => n - (intOf i).toNat)
  case atStart => exact ⟨0, 0, by omega, rfl, rfl⟩
  case round =>
    obtain ⟨k, m, hk, rfl, rfl⟩ := hrel
    by_cases hkn : k < n
    · obtain ⟨b, o, rfl, hb, hc⟩ := h.at_ (by omega)
      have c1 := Mj.out k hkn
      have c2 := hc k hkn
      have hb1 : b < w.heap.size + 1 := by omega
      have k0 : (0 : Int) ≤ (k : Int) := by omega
      have k1 : (k : Int) < (n : Int) := by omega
      have k2 : (k : Int) < (n : Int) + 3 := by omega
      clear hc
      go_wp2
      go_quiet (fail)
      go_wp2
      go_roundw
      case rel => exact ⟨k + 1, _, by omega, by go_num, rfl⟩
      case measure => simp [intOf]; omega
    · obtain rfl : n = k := by omega
      go_wp2
      go_ret
      exact ⟨rfl, drewn (more (more (Below.refl _ _) _) _) _⟩
/-- What own hands back. -/
def Owned (neg : Bool) (x : Int) (w : World) (xs : List Nat) (n : Nat) (e : Ending) (w' : World) : Prop :=
  ∃ g cap, e = .returned (.agg #[.bool neg, .slice (some ⟨g, 0, none⟩) n cap, .int .i64 x]) ∧ w'.ownsRow w.heap.size 46 1 (.slice (some ⟨g, 0, none⟩) (n + 3) cap) (n + 3) (lvs (xs ++ [77, 78, 79])) ∧ Below w.heap.size w w' ∧ g < w'.heap.size

set_option maxHeartbeats 1000000 in
theorem own_any (neg : Bool) (ao : Option Addr) (n c : Nat) (x : Int) (xs : List Nat) (w : World) (h : Sl w ao n c xs) (hn : n + 3 ≤ 35184372088832) :
    Calls Tryz.prog 4 #[.agg #[.bool neg, .slice ao n c, .int .i64 x]] w (Owned neg x w xs n) := by
  go_enter Tryz.func4, Tryz.ntmps4
  go_wp2
  go_region_with (go_at_call 5; refine (lent_any ao n c xs _ (by first | exact (h.alloc _).alloc _ | exact ((h.alloc _).alloc _).drew) hn).mono ?_; rintro en w1 ⟨g, cap, rfl, hown1, hb1⟩; (try replace hb1 := undrew hb1); obtain ⟨hc1, hf1⟩ := bcell hb1; obtain ⟨hz1, hz2⟩ := bsz2 hb1)
  all_goals
    go_wp2
    have r0 : w1.cell? ⟨w.heap.size + 1, 0, none⟩ = some (.bool false) := (hc1 _ _ (by simp)).trans (by simp [go_sem])
    have r1 : w1.cell? ⟨w.heap.size + 1, 1, none⟩ = some (.slice none 0 0) := (hc1 _ _ (by simp)).trans (by simp [go_sem])
    have r2 : w1.cell? ⟨w.heap.size + 1, 2, none⟩ = some (.int .i64 0) := (hc1 _ _ (by simp)).trans (by simp [go_sem])
    obtain ⟨s0, s1, s2⟩ := set3 (.bool neg) (.slice (some ⟨g, 0, none⟩) n cap) (.int .i64 x) r0 r1 r2
    have hgl := hown1.lt g rfl
    refine bodyPost_ret (v := .agg #[.bool neg, .slice (some ⟨g, 0, none⟩) n cap, .int .i64 x]) (by simp [results, Tryz.results4, go_sem, s0, s1, s2]) rfl ⟨g, cap, rfl, ?_, ?_, by simpa using hgl.2⟩
    · have hbase : ((w.alloc (.cells #[.bool neg, .slice ao n c, .int .i64 x] 26)).alloc (.cells #[.bool false, .slice none 0 0, .int .i64 0] 26)).drew.heap.size = w.heap.size + 2 := by simp
      first
        | exact own_mono (ownsRow_setCell_below (ownsRow_setCell_below (ownsRow_setCell_below hown1 (by simp) _) (by simp) _) (by simp) _) (by simp; omega)
    · exact (((next (more (more (Below.refl _ _) _) _) hb1).setCell (by simp) _).setCell (by simp) _).setCell (by simp) _
end Go.Proofs.YthemcdnlcgmimaaGreatDoor
