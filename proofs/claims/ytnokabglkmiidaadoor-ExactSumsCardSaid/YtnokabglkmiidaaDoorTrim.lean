/-
  The walks of nat.trimmed and the reference's Trim: a list cut behind its last limb that is not 0.
-/
import Derived.Test.YtnokabglkmiidaaDoorNatB
import Derived.Test.YtnokabglkmiidaaDoorApp
namespace Go.Proofs.YtnokabglkmiidaaDoor
open Go.RowKit Go.Lb

/-- What trimmed hands back. -/
def Trimmed (w : World) (ao : Option Addr) (n : Nat) (ys : List Nat) (e : Ending) (w' : World) : Prop :=
  ∃ k, k ≤ n ∧ e = .returned (.agg #[.slice (if k = 0 then none else ao) k k]) ∧ ys.take k = limbs (val ys) ∧ Below w.heap.size w w'

theorem cut_limbs {ys : List Nat} {k : Nat} (hok : Ok ys) (hk : k ≤ ys.length) (hz : ∀ j, k ≤ j → j < ys.length → nth ys j = 0) (hl : k = 0 ∨ nth ys (k - 1) ≠ 0) : ys.take k = limbs (val ys) :=
  take_eq_limbs hok hk hz hl

set_option maxHeartbeats 800000 in
theorem natTrimmed_any (ao : Option Addr) (n c : Nat) (ys : List Nat) (w : World) (h : Sl w ao n c ys) :
    Calls Tryd.prog 68 #[.slice ao n c] w (Trimmed w ao n ys) := by
  have hle := h.le
  have hcap := h.cap
  go_enter Tryd.func68, Tryd.ntmps68
  go_wp2
  go_loop [3] (fun i => ∃ k : Nat, k ≤ n ∧ i = .int .i64 k ∧ Hid (∀ j, k ≤ j → j < n → nth ys j = 0)) (fun i => (intOf i).toNat)
  case atStart => exact ⟨n, Nat.le_refl _, rfl, Lib.hid (fun j h1 h2 => absurd h2 (by omega))⟩
  case round =>
    obtain ⟨k, hk, rfl, H⟩ := hrel
    by_cases h0 : k = 0
    · subst h0
      go_wp2
      refine bodyPost_ret (v := .agg #[.slice none 0 0]) (by simp [results, Tryd.results68, go_sem]) rfl ⟨0, by omega, rfl, cut_limbs h.ok (by omega) (by rw [h.len]; exact H.out) (.inl rfl), more (Below.refl _ _) _⟩
    · obtain ⟨b, o, rfl, hb, hc⟩ := h.at_ (by omega)
      have hcell := hc (k - 1) (by omega)
      by_cases h2 : nth ys (k - 1) = 0
      · rw [h2] at hcell
        have H2 := Lib.hid h2
        clear hc h2
        go_wp2
        go_round
        case rel => exact ⟨k - 1, by omega, by go_num, Lib.hid (fun j h1 h3 => by
          by_cases hj : j = k - 1
          · rw [hj]; exact H2.out
          · exact H.out j (by omega) h3)⟩
        case measure => simp [intOf]; omega
      · have hne : ((nth ys (k - 1) : Int) == 0) = false := by simp; omega
        have hk0 : ((k : Int) == 0) = false := by simp; omega
        clear hc
        go_wp2
        refine bodyPost_ret (v := .agg #[.slice (some ⟨b, o, none⟩) k k]) (by simp [results, Tryd.results68, go_sem]) rfl ⟨k, by omega, by rw [if_neg h0], cut_limbs h.ok (by rw [h.len]; omega) (by rw [h.len]; exact H.out) (.inr h2), more (Below.refl _ _) _⟩

end Go.Proofs.YtnokabglkmiidaaDoor
