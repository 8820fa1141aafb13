/-
  The walk of nat.Down: a number over a power of two, in a block of its own.
-/
import Derived.Test.YtnokabglkmiidaaDoorLower
import Derived.Test.YtnokabglkmiidaaDoorFresh
import Derived.Test.YtnokabglkmiidaaDoorTz
import Derived.Test.YtnokabglkmiidaaDoorNatC
namespace Go.Proofs.YtnokabglkmiidaaDoor
open Go.RowKit Go.Lb

/-- An answer that is a number and an error. -/
def Numb (w : World) (N : Nat) (er : Int) (e : Ending) (w' : World) : Prop :=
  ∃ ao n c, e = .returned (.tuple #[.agg #[.slice ao n c], .int .i64 er]) ∧ Fr 55 w' w.heap.size ao n c (limbs N) ∧ Below w.heap.size w w'

theorem ok_lowered (s : Nat) (ys : List Nat) : Ok (lowL s ys) := ok_lowL s ys

/-- What trimmed cuts of a row that is owned. -/
theorem fr_trimmed {w w' : World} {base g n k : Nat} {ys : List Nat} (h : w.ownsRow base 55 1 (.slice (some ⟨g, 0, none⟩) n n) n (lvs ys)) (hok : Ok ys) (hk : k ≤ n) (hv : ys.take k = limbs (val ys)) (hb : Below w.heap.size w w') :
    Fr 55 w' base (if k = 0 then none else some ⟨g, 0, none⟩) k k (limbs (val ys)) := by
  by_cases h0 : k = 0
  · subst h0
    rw [if_pos rfl, ← hv]
    exact fr_nil _ _ _
  · rw [if_neg h0, ← hv]
    exact (fr_own h hok hk (Nat.le_refl _) hk).below hb

/-- trimmed of a row that is owned. -/
theorem natTrimmed_own {base g n : Nat} {ys : List Nat} (w : World) (h : w.ownsRow base 55 1 (.slice (some ⟨g, 0, none⟩) n n) n (lvs ys)) (hok : Ok ys) :
    Calls Tryd.prog 68 #[.slice (some ⟨g, 0, none⟩) n n] w fun e w' => ∃ ao k, e = .returned (.agg #[.slice ao k k]) ∧ Fr 55 w' base ao k k (limbs (val ys)) ∧ Below w.heap.size w w' := by
  refine (natTrimmed_any _ n n ys w (own_sl h hok)).mono ?_
  rintro e w' ⟨k, hk, rfl, hv, hb⟩
  exact ⟨_, k, rfl, fr_trimmed h hok hk hv hb, hb⟩

theorem natLowered_i (ao : Option Addr) (n c s : Nat) (x : Int) (hx : x = (s : Int)) (ys : List Nat) (w : World) (h : Sl w ao n c ys) (hs : s < 32) (hn : n ≤ 35184372088832) :
    Calls Tryd.prog 69 #[.slice ao n c, .int .i64 x] w (Lowered w n s ys) := by
  subst hx
  exact natLowered_any ao n c s ys w h hs hn

theorem val_down {ys : List Nat} (h : Ok ys) (k : Nat) : val (lowL (k % 32) (ys.drop (k / 32))) = val ys / 2 ^ k := by
  rw [val_lowL (by omega) (ok_drop h _), val_drop ys h, Nat.div_div_eq_div_mul, ← Nat.pow_add]
  congr 2
  omega

set_option maxRecDepth 100000 in
set_option maxHeartbeats 1600000 in
theorem natDown_any (ao : Option Addr) (n c k : Nat) (ys : List Nat) (w : World) (h : Sl w ao n c ys) (hc : chk ys = 0) (hkb : k ≤ 9223372036854775807) :
    Calls Tryd.prog 39 #[.agg #[.slice ao n c], .int .i64 k] w (Numb w (val ys / 2 ^ k) 0) := by
  have hlen := chk_zero_len hc
  have hl := h.len
  have hcB : (chk ys != 0) = false := by simp [hc]
  by_cases h1 : n ≤ k / 32
  · have hge : (n : Int) ≤ (k : Int) / 32 := by omega
    have hz : val ys / 2 ^ k = 0 := by
      refine Nat.div_eq_of_lt (Nat.lt_of_lt_of_le (val_lt h.ok) ?_)
      rw [pow32]
      exact Nat.pow_le_pow_right (by decide) (by omega)
    have Hz := Lib.hid hz
    clear hz hc
    go_enter Tryd.func39, Tryd.ntmps39
    go_wp2_with (go_at_call 35; refine (natCheck_any ao n c ys _ ((h.alloc _).alloc _)).mono ?_; rintro e w1 ⟨rfl, hb1⟩; obtain ⟨hc1, hf1⟩ := bcell hb1; obtain ⟨hz1, hz2⟩ := bsz2 hb1)
    have hcell : w1.cell? ⟨w.heap.size + 1, 0, none⟩ = some (.slice none 0 0) := (hc1 _ _ (by simp)).trans (by simp [go_sem])
    refine bodyPost_ret (v := .tuple #[.agg #[.slice none 0 0], .int .i64 0]) (by simp [results, Tryd.results39, go_sem, World.cell?_setCell_same _ _ _ hcell]) rfl ⟨none, 0, 0, rfl, ?_, ?_⟩
    · rw [Hz.out]; exact fr_nil _ _ _
    · exact (next (more (more (Below.refl _ _) _) _) hb1).setCell (by simp) _
  · obtain ⟨b, o, rfl, hb, hcl⟩ := h.at_ (by omega)
    have hlt : ¬ ((n : Int) ≤ (k : Int) / 32) := by omega
    have hS := h.drop (i := k / 32) (by omega)
    have hm : k % 32 < 32 := by omega
    have hmod : ((k : Int) % 32) = ((k % 32 : Nat) : Int) := by omega
    have hne : ¬ c = k / 32 := by have := h.le; omega
    have Hm := Lib.hid hmod
    have hv := val_down h.ok k
    have Hv := Lib.hid hv
    clear hc hcl hmod hv
    go_enter Tryd.func39, Tryd.ntmps39
    go_wp2_with (first
      | (go_at_call 35; refine (natCheck_any _ n c ys _ ((h.alloc _).alloc _)).mono ?_; rintro e w1 ⟨rfl, hb1⟩; obtain ⟨hc1, hf1⟩ := bcell hb1; obtain ⟨hz1, hz2⟩ := bsz2 hb1; have hW := next (more (more (Below.refl _ _) _) _) hb1; have r1 : w1.cell? ⟨w.heap.size + 1, 0, none⟩ = some (.slice none 0 0) ∧ w1.frozen? ⟨w.heap.size + 1, 0, none⟩ = false := ⟨(hc1 _ _ (by simp)).trans (by simp [go_sem]), (hf1 _ _ (by simp)).trans (by simp [go_sem])⟩)
      | (go_at_call 69; refine (natLowered_i _ (n - k / 32) (c - k / 32) (k % 32) _ Hm.out _ _ (((hS.alloc _).alloc _).below hb1) hm (by omega)).mono ?_; rintro e w2 ⟨g, rfl, hown2, hb2⟩; replace hW := next hW hb2; have r2 := cfStay r1 hb2)
      | (go_at_call 68; refine (natTrimmed_own _ hown2 (ok_lowL _ _)).mono ?_; rintro e w3 ⟨a3, k3, rfl, hF, hb3⟩; replace hW := next hW hb3; obtain ⟨r3, z3⟩ := cfStay r2 hb3))
    refine bodyPost_ret (v := .tuple #[.agg #[.slice a3 k3 k3], .int .i64 0]) (by simp [results, Tryd.results39, go_sem, World.cell?_setCell_same _ _ _ r3]) rfl ⟨a3, k3, k3, rfl, ?_, hW.setCell (by simp) _⟩
    rw [Hv.out] at hF
    exact (hF.setCell (by simpa using hz2) _).mono (by omega)
end Go.Proofs.YtnokabglkmiidaaDoor
