/-
  The walks of numeralref02.SameNat and Same; of the laws' own helpers lend, kept, lent, still, small (numerallaw05).
-/
import Derived.Test.YteoceoepakfgiaaGreatDoorNats
import Derived.Test.YteoceoepakfgiaaGreatDoorBooks
import Derived.Deep.Cut
import Derived.Deep.RegionHeld3
namespace Go.Proofs.YteoceoepakfgiaaGreatDoor
open Go.RowKit Go.Lb

attribute [local go_sem] Go.World.cell?_alloc_some

theorem take_nth {xs : List Nat} {k : Nat} (h : k < xs.length) : xs.take (k + 1) = xs.take k ++ [nth xs k] := take_succ_getD h

theorem nth_of_eq {xs ys : List Nat} (h : xs = ys) (k : Nat) : nth xs k = nth ys k := by rw [h]

set_option maxHeartbeats 1000000 in
theorem rf2SameNat_any (a1 a2 : Option Addr) (n1 n2 c1 c2 : Nat) (xs ys : List Nat) (w : World) (h1 : Sl w a1 n1 c1 xs) (h2 : Sl w a2 n2 c2 ys) :
    Calls Tryz.prog 36 #[.agg #[.slice a1 n1 c1], .agg #[.slice a2 n2 c2]] w fun e w' => e = .returned (.bool (decide (xs = ys))) ∧ Below w.heap.size w w' := by
  have hl1 := h1.len
  have hl2 := h2.len
  have hle1 := h1.le
  have hcap1 := h1.cap
  have hle2 := h2.le
  have hcap2 := h2.cap
  by_cases hn : n1 = n2
  · subst hn
    have HT : Hid (∀ k, k < n1 → xs.take k = ys.take k → nth xs k = nth ys k → xs.take (k + 1) = ys.take (k + 1)) := Lib.hid (fun k hk h1 h2 => by rw [take_nth (by omega), take_nth (by omega), h1, h2])
    have HE : Hid (xs.take n1 = ys.take n1 → decide (xs = ys) = true) := Lib.hid (fun h => by
      rw [List.take_of_length_le (by omega), List.take_of_length_le (by omega)] at h
      exact decide_eq_true h)
    have HN : Hid (∀ k, nth xs k ≠ nth ys k → decide (xs = ys) = false) := Lib.hid (fun k h => decide_eq_false (fun hh => h (nth_of_eq hh k)))
    clear hl1 hl2
    go_enter Tryz.func36, Tryz.ntmps36
    go_wp2
    go_loopw [5] (fun i wr => ∃ k m : Nat, k ≤ n1 ∧ i = .int .i64 k ∧ xs.take k = ys.take k ∧ wr = ((w.alloc (.cells #[.slice a1 n1 c1] 24)).alloc (.cells #[.slice a2 n1 c2] 24)).drewN m) (fun i _ => n1 - (intOf i).toNat)
    case atStart => exact ⟨0, 0, by omega, rfl, by simp, rfl⟩
    case round =>
      obtain ⟨k, m, hk, rfl, ht, rfl⟩ := hrel
      have HQ := Lib.hid ht
      clear ht
      by_cases hkn : k < n1
      · obtain ⟨b1, o1, rfl, hb1, hc1⟩ := h1.at_ (by omega)
        obtain ⟨b2, o2, rfl, hb2, hc2⟩ := h2.at_ (by omega)
        have k1 := hc1 k hkn
        have k2 := hc2 k hkn
        have hb1' : b1 < w.heap.size + 1 := by omega
        have hb2' : b2 < w.heap.size + 1 := by omega
        have i0 : (0 : Int) ≤ (k : Int) := by omega
        have i1 : (k : Int) < (n1 : Int) := by omega
        clear hc1 hc2
        by_cases he : nth xs k = nth ys k
        · have hR := Lib.hid (HT.out k hkn HQ.out he)
          rw [← he] at k2
          clear he
          go_wp2
          go_quiet (fail)
          go_wp2
          go_roundw
          case rel => exact ⟨k + 1, _, by omega, by go_num, hR.out, rfl⟩
          case measure => simp [intOf]; omega
        · have hR := Lib.hid (HN.out k he)
          have he' : ¬ ((nth xs k : Int) = (nth ys k : Int)) := by omega
          clear he
          go_wp2
          go_quiet (fail)
          go_wp2
          go_ret
          exact ⟨by rw [hR.out]; rfl, drewn (drewn (more (more (Below.refl _ _) _) _) _) _⟩
      · obtain rfl : n1 = k := by omega
        have hR := Lib.hid (HE.out HQ.out)
        go_wp2
        go_ret
        exact ⟨by rw [hR.out]; rfl, drewn (more (more (Below.refl _ _) _) _) _⟩
  · have hR : Hid (decide (xs = ys) = false) := Lib.hid (decide_eq_false (fun h => hn (by rw [← hl1, ← hl2, h])))
    have hn' : ¬ ((n1 : Int) = (n2 : Int)) := by omega
    clear hl1 hl2 hn
    go_enter Tryz.func36, Tryz.ntmps36
    go_wp2
    go_ret
    exact ⟨by rw [hR.out]; rfl, more (more (Below.refl _ _) _) _⟩

theorem u32_info5 : (Tryz.prog.info? 37).map (fun i => (i.zero, i.size, i.bytes)) = some (some (.int .u32 0), 1, 4) := by kernel_rfl

theorem sl_marks2 (w : World) (e : TypeId) : Sl (w.alloc (.cells #[.int .u32 77, .int .u32 78] e)) (some ⟨w.heap.size, 0, none⟩) 2 2 [77, 78] := by
  refine ⟨rfl, by decide, by decide, fun x hx => ?_, fun _ => ⟨_, _, rfl, by simp, fun j hj => ?_⟩⟩
  · simp at hx; omega
  · match j, hj with
    | 0, _ => simp [nth]
    | 1, _ => simp [nth]

/-- What lend hands back: the number's limbs in a row of its own, with marks behind them. -/
def Lend5 (w : World) (xs : List Nat) (n : Nat) (e : Ending) (w' : World) : Prop :=
  ∃ g cap, e = .returned (.agg #[.slice (some ⟨g, 0, none⟩) n cap]) ∧ w'.ownsRow w.heap.size 37 1 (.slice (some ⟨g, 0, none⟩) (n + 2) cap) (n + 2) (lvs (xs ++ [77, 78])) ∧ Below w.heap.size w w'

/-- What lent hands back: both numbers in rows of their own. -/
def Lent5 (w : World) (s : Bool) (xs ys : List Nat) (n1 n2 : Nat) (e : Ending) (w' : World) : Prop :=
  ∃ g1 p1 g2 p2, e = .returned (.agg #[.bool s, .slice (some ⟨g1, 0, none⟩) n1 p1, .slice (some ⟨g2, 0, none⟩) n2 p2]) ∧
    w'.ownsRow w.heap.size 37 1 (.slice (some ⟨g1, 0, none⟩) (n1 + 2) p1) (n1 + 2) (lvs (xs ++ [77, 78])) ∧ w'.ownsRow w.heap.size 37 1 (.slice (some ⟨g2, 0, none⟩) (n2 + 2) p2) (n2 + 2) (lvs (ys ++ [77, 78])) ∧ g1 ≠ g2 ∧ Below w.heap.size w w'

end Go.Proofs.YteoceoepakfgiaaGreatDoor
