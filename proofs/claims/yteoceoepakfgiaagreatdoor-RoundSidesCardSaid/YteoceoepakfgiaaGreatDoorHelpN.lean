/-
  The walks of round.names, Name, Named; of numeralref05.Names, Name, Named.
-/
import Derived.Test.YteoceoepakfgiaaGreatDoorNats
import Derived.Deep.Cut
import Derived.Deep.RegionHeld3
namespace Go.Proofs.YteoceoepakfgiaaGreatDoor
open Go.RowKit Go.Lb

attribute [local go_sem] Go.World.cell?_alloc_some

/-- The modes' names. -/
def nmS (k : Nat) : ByteArray :=
  if k = 0 then ⟨#[101, 118, 101, 110]⟩ else if k = 1 then ⟨#[97, 119, 97, 121]⟩ else if k = 2 then ⟨#[122, 101, 114, 111]⟩ else if k = 3 then ⟨#[117, 112]⟩ else ⟨#[100, 111, 119, 110]⟩

/-- The mode of a name; is it one? -/
def nmK (s : ByteArray) : Nat := if s = nmS 0 then 0 else if s = nmS 1 then 1 else if s = nmS 2 then 2 else if s = nmS 3 then 3 else if s = nmS 4 then 4 else 0
def nmB (s : ByteArray) : Bool := decide (s = nmS 0 ∨ s = nmS 1 ∨ s = nmS 2 ∨ s = nmS 3 ∨ s = nmS 4)

theorem bytes_same (a b : ByteArray) : (a.toList == b.toList) = decide (a = b) := by
  by_cases h : a = b
  · subst h
    simp
  · rw [decide_eq_false h, ByteArray.toList_eq, ByteArray.toList_eq]
    exact beq_eq_false_iff_ne.2 fun hh => h (ByteArray.ext (Array.toList_inj.1 hh))

/-- The names, as an array. -/
def nmArr : Value := .agg #[.string (nmS 0), .string (nmS 1), .string (nmS 2), .string (nmS 3), .string (nmS 4)]

theorem nmIndex (k : Nat) (hk : k < 5) (w : World) : (Instr.index 116 nmArr (.int .i64 (k : Int))).run Tryz.prog w = .ok (.string (nmS k)) w := by
  rcases k with _ | _ | _ | _ | _ | k
  · kernel_rfl
  · kernel_rfl
  · kernel_rfl
  · kernel_rfl
  · kernel_rfl
  · omega
theorem nmIndex8 (k : Nat) (hk : k < 5) (w : World) : (Instr.index 116 nmArr (.int .u8 (k : Int))).run Tryz.prog w = .ok (.string (nmS k)) w := by
  rcases k with _ | _ | _ | _ | _ | k
  · kernel_rfl
  · kernel_rfl
  · kernel_rfl
  · kernel_rfl
  · kernel_rfl
  · omega

theorem names_any (w : World) :
    Calls Tryz.prog 53 #[] w fun e w' => e = .returned nmArr ∧ Below w.heap.size w w' := by
  go_enter Tryz.func53, Tryz.ntmps53
  go_wp2
  refine bodyPost_ret (v := nmArr) (by simp [results, Tryz.results53, go_sem, nmS, nmArr]) rfl ⟨rfl, more (Below.refl _ _) _⟩

theorem nm_first {s : ByteArray} {k : Nat} (hk : k < 5) (h : ∀ j, j < k → s ≠ nmS j) (he : s = nmS k) : nmK s = k ∧ nmB s = true := by
  unfold nmK nmB
  have hkk : k = 0 ∨ k = 1 ∨ k = 2 ∨ k = 3 ∨ k = 4 := by omega
  rcases hkk with rfl | rfl | rfl | rfl | rfl
  · rw [if_pos he]; exact ⟨rfl, decide_eq_true (.inl he)⟩
  · rw [if_neg (h 0 (by decide)), if_pos he]; exact ⟨rfl, decide_eq_true (.inr (.inl he))⟩
  · rw [if_neg (h 0 (by decide)), if_neg (h 1 (by decide)), if_pos he]; exact ⟨rfl, decide_eq_true (.inr (.inr (.inl he)))⟩
  · rw [if_neg (h 0 (by decide)), if_neg (h 1 (by decide)), if_neg (h 2 (by decide)), if_pos he]; exact ⟨rfl, decide_eq_true (.inr (.inr (.inr (.inl he))))⟩
  · rw [if_neg (h 0 (by decide)), if_neg (h 1 (by decide)), if_neg (h 2 (by decide)), if_neg (h 3 (by decide)), if_pos he]; exact ⟨rfl, decide_eq_true (.inr (.inr (.inr (.inr he))))⟩

theorem nm_none {s : ByteArray} (h : ∀ j, j < 5 → s ≠ nmS j) : nmK s = 0 ∧ nmB s = false := by
  unfold nmK nmB
  rw [if_neg (h 0 (by decide)), if_neg (h 1 (by decide)), if_neg (h 2 (by decide)), if_neg (h 3 (by decide)), if_neg (h 4 (by decide))]
  refine ⟨rfl, decide_eq_false ?_⟩
  rintro (e | e | e | e | e)
  · exact h 0 (by decide) e
  · exact h 1 (by decide) e
  · exact h 2 (by decide) e
  · exact h 3 (by decide) e
  · exact h 4 (by decide) e

set_option maxRecDepth 100000 in
theorem rdNamed_any (s : ByteArray) (w : World) :
    Calls Tryz.prog 24 #[.string s] w fun e w' => e = .returned (.tuple #[.int .u8 (nmK s : Int), .bool (nmB s)]) ∧ Below w.heap.size w w' := by
  have HF : Hid (∀ k, k < 5 → (∀ j, j < k → s ≠ nmS j) → s = nmS k → nmK s = k ∧ nmB s = true) := Lib.hid (fun k => nm_first)
  have HN : Hid ((∀ j, j < 5 → s ≠ nmS j) → nmK s = 0 ∧ nmB s = false) := Lib.hid nm_none
  generalize nmK s = rk at *
  generalize nmB s = rb at *
  go_enter Tryz.func24, Tryz.ntmps24
  go_wp2_with fail
  refine (names_any w).mono ?_
  rintro en w2 ⟨rfl, hb2⟩
  have HX := fun k hk => nmIndex k hk w2
  generalize nmArr = arr at *
  go_wp2
  go_loopw [7] (fun i wr => ∃ k : Nat, k ≤ 5 ∧ i = .int .i64 k ∧ (∀ j, j < k → s ≠ nmS j) ∧ wr = w2) (fun i _ => 5 - (intOf i).toNat)
  case atStart => exact ⟨0, by omega, rfl, fun j hj => absurd hj (by omega), rfl⟩
  case round =>
    obtain ⟨k, hk, rfl, hne, rfl⟩ := hrel
    have HNE := Lib.hid hne
    clear hne
    by_cases h5 : k < 5
    · have hX := HX k h5
      have i1 : (k : Int) < 5 := by omega
      have HU := Lib.hid h5
      clear h5 HX
      by_cases he : nmS k = s
      · have HE := Lib.hid he.symm
        have hq : ((nmS k).toList == s.toList) = true := by rw [bytes_same]; exact decide_eq_true he
        clear he
        go_wp2
        go_ret2
        obtain ⟨e1, e2⟩ := HF.out k HU.out HNE.out HE.out
        exact ⟨by rw [e1, e2]; rfl, hb2⟩
      · have HE := Lib.hid he
        have hq : ((nmS k).toList == s.toList) = false := by rw [bytes_same]; exact decide_eq_false he
        clear he
        go_wp2
        refine ⟨⟨k + 1, HU.out, by go_num, fun j hj hs => ?_, trivial⟩, by have := HU.out; simp [intOf]; omega⟩
        rcases Nat.lt_succ_iff_lt_or_eq.1 hj with h1 | h1
        · exact HNE.out j h1 hs
        · exact HE.out (h1 ▸ hs.symm)
    · obtain rfl : k = 5 := by omega
      have HR := Lib.hid (HN.out HNE.out)
      go_wp2
      go_ret2
      obtain ⟨e1, e2⟩ := HR.out
      exact ⟨by rw [e1, e2]; rfl, hb2⟩

end Go.Proofs.YteoceoepakfgiaaGreatDoor
