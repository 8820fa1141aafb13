/-
  The walks of forms.Fits and of the reference's May: may bits be a float of a form?
-/
import Derived.Test.YtnokabglkmiidaaDoorFormB
import Derived.Test.YtnokabglkmiidaaDoorLen64
namespace Go.Proofs.YtnokabglkmiidaaDoor
open Go.RowKit Go.Lb

/-- The error of bits in a form. -/
def fitsE (e f : Int) (b : Nat) : Int := if formE e f ≠ 0 then formE e f else if b < pw (1 + e.toNat + f.toNat) then 0 else 6

theorem fitsE_form {e f : Int} {b : Nat} (h : formE e f ≠ 0) : fitsE e f b = formE e f := by unfold fitsE; rw [if_pos h]
theorem fitsE_bits {e f b : Nat} (h : formE e f = 0) (hb : ¬ b < pw (1 + e + f)) : fitsE e f b = 6 := by
  unfold fitsE; rw [if_neg (by simp [h])]; simp only [Int.toNat_natCast]; rw [if_neg hb]
theorem fitsE_ok {e f b : Nat} (h : formE e f = 0) (hb : b < pw (1 + e + f)) : fitsE e f b = 0 := by
  unfold fitsE; rw [if_neg (by simp [h])]; simp only [Int.toNat_natCast]; rw [if_pos hb]

theorem int_div_pow (b k : Nat) : (b : Int) / 2 ^ k = ((b / 2 ^ k : Nat) : Int) := by
  rw [Int.natCast_ediv, Int.natCast_pow]
  rfl

set_option maxRecDepth 100000 in
set_option maxHeartbeats 1600000 in
theorem fits_any (e f : Int) (b : Nat) (w : World) (hb : b < 18446744073709551616) :
    Calls Tryd.prog 72 #[.agg #[.int .i64 e, .int .i64 f], .int .u64 b] w fun en w' => en = .returned (.int .i64 (fitsE e f b)) ∧ Below w.heap.size w w' := by
  by_cases h : formE e f = 0
  · obtain ⟨h1, h2, h3, h4⟩ := formE_ok h
    obtain ⟨e, rfl⟩ := Int.eq_ofNat_of_zero_le (by omega : 0 ≤ e)
    obtain ⟨f, rfl⟩ := Int.eq_ofNat_of_zero_le (by omega : 0 ≤ f)
    have hz : (formE (e : Int) (f : Int) != 0) = false := by simp [h]
    have hgt := bitLen_gt (b := b) (k := 1 + e + f) hb (by omega)
    have hw1 : IntKind.i64.wrap (1 + (e : Int)) = 1 + (e : Int) := IntWalk.i64_in _ (by omega)
    have hw2 : IntKind.i64.wrap (1 + (e : Int) + (f : Int)) = 1 + (e : Int) + (f : Int) := IntWalk.i64_in _ (by omega)
    have hbn : (b : Int).toNat = b := Int.toNat_natCast b
    by_cases hp : 2 ^ (1 + e + f) ≤ b
    · have hd : decide (1 + (e : Int) + (f : Int) < (Lib.bitLen b : Int)) = true := by have := hgt; simp; omega
      have H := Lib.hid (fitsE_bits h (by unfold pw; omega : ¬ b < pw (1 + e + f)))
      clear hgt hp h h1 h2 h3 h4
      go_enter Tryd.func72, Tryd.ntmps72
      go_wp2_with (go_at_call 101; refine (formCheck_any e f _).mono ?_; rintro en w1 ⟨rfl, hb1⟩; have hc1 := (bcell hb1).1; have c0 : w1.cell? ⟨w.heap.size, 0, none⟩ = some (.int .i64 (e : Int)) := (hc1 _ _ (by simp)).trans (World.cell?_alloc_new _ _ _ _); have c1 : w1.cell? ⟨w.heap.size, 1, none⟩ = some (.int .i64 (f : Int)) := (hc1 _ _ (by simp)).trans (World.cell?_alloc_new _ _ _ _); have hW := next (more (Below.refl _ _) _) hb1)
      go_quiet ((go_at_call 102; exact quiet_l (fun W e' => len64_any _ W (by omega) (by omega)) _))
      go_wp2
      go_ret
      exact ⟨by rw [H.out]; rfl, drewn hW _⟩
    · have hd : decide (1 + (e : Int) + (f : Int) < (Lib.bitLen b : Int)) = false := by have := hgt; simp; omega
      have H := Lib.hid (fitsE_ok h (by unfold pw; omega : b < pw (1 + e + f)))
      clear hgt hp h h1 h2 h3 h4
      go_enter Tryd.func72, Tryd.ntmps72
      go_wp2_with (go_at_call 101; refine (formCheck_any e f _).mono ?_; rintro en w1 ⟨rfl, hb1⟩; have hc1 := (bcell hb1).1; have c0 : w1.cell? ⟨w.heap.size, 0, none⟩ = some (.int .i64 (e : Int)) := (hc1 _ _ (by simp)).trans (World.cell?_alloc_new _ _ _ _); have c1 : w1.cell? ⟨w.heap.size, 1, none⟩ = some (.int .i64 (f : Int)) := (hc1 _ _ (by simp)).trans (World.cell?_alloc_new _ _ _ _); have hW := next (more (Below.refl _ _) _) hb1)
      go_quiet ((go_at_call 102; exact quiet_l (fun W e' => len64_any _ W (by omega) (by omega)) _))
      go_wp2
      go_ret
      exact ⟨by rw [H.out]; rfl, drewn hW _⟩
  · have hz : (formE e f != 0) = true := by simp [h]
    have H := Lib.hid (fitsE_form (b := b) h)
    clear h
    go_enter Tryd.func72, Tryd.ntmps72
    go_wp2_with (go_at_call 101; refine (formCheck_any e f _).mono ?_; rintro en w1 ⟨rfl, hb1⟩; have hW := next (more (Below.refl _ _) _) hb1)
    go_ret
    exact ⟨by rw [H.out]; rfl, hW⟩

set_option maxRecDepth 100000 in
set_option maxHeartbeats 1600000 in
theorem may_any (e f : Int) (b : Nat) (w : World) (hb : b < 18446744073709551616) :
    Calls Tryd.prog 43 #[.agg #[.int .i64 e, .int .i64 f], .int .u64 b] w fun en w' => en = .returned (.int .i64 (fitsE e f b)) ∧ Below w.heap.size w w' := by
  by_cases h : formE e f = 0
  · obtain ⟨h1, h2, h3, h4⟩ := formE_ok h
    obtain ⟨e, rfl⟩ := Int.eq_ofNat_of_zero_le (by omega : 0 ≤ e)
    obtain ⟨f, rfl⟩ := Int.eq_ofNat_of_zero_le (by omega : 0 ≤ f)
    have n1 : ¬ ((e : Int) < 2) := by omega
    have n2 : ¬ ((11 : Int) < e) := by omega
    have n3 : ¬ ((f : Int) < 1) := by omega
    have n4 : ¬ ((52 : Int) < f) := by omega
    have ht : (1 + (e : Int) + (f : Int)).toNat = 1 + e + f := by omega
    by_cases h63 : e + f < 63
    · by_cases hp : b < pw (1 + e + f)
      · have hq : (b : Int) / 2 ^ (1 + e + f) = 0 := by
          rw [int_div_pow, Nat.div_eq_of_lt (by unfold pw at hp; exact hp)]
          rfl
        have H := Lib.hid (fitsE_ok h hp)
        have h63' : (e : Int) + (f : Int) < 63 := by omega
        clear h hp h1 h2 h3 h4
        go_enter Tryd.func43, Tryd.ntmps43
        go_wp2
        go_ret
        exact ⟨by rw [H.out]; rfl, more (Below.refl _ _) _⟩
      · have hq : decide ((0 : Int) < (b : Int) / 2 ^ (1 + e + f)) = true := by
          rw [int_div_pow]
          have : 0 < b / 2 ^ (1 + e + f) := Nat.div_pos (by unfold pw at hp; omega) (Nat.two_pow_pos _)
          simp
          exact_mod_cast this
        have H := Lib.hid (fitsE_bits h hp)
        have h63' : (e : Int) + (f : Int) < 63 := by omega
        clear h hp h1 h2 h3 h4
        go_enter Tryd.func43, Tryd.ntmps43
        go_wp2
        go_ret
        exact ⟨by rw [H.out]; rfl, more (Below.refl _ _) _⟩
    · have hp : b < pw (1 + e + f) := Nat.lt_of_lt_of_le hb (by have := pw_le (show 64 ≤ 1 + e + f by omega); rw [show pw 64 = 18446744073709551616 by unfold pw; rfl] at this; exact this)
      have H := Lib.hid (fitsE_ok h hp)
      have h63' : ¬ ((e : Int) + (f : Int) < 63) := by omega
      clear h hp h1 h2 h3 h4
      go_enter Tryd.func43, Tryd.ntmps43
      go_wp2
      go_ret
      exact ⟨by rw [H.out]; rfl, more (Below.refl _ _) _⟩
  · have H := Lib.hid (fitsE_form (b := b) h)
    have h5 : formE e f = 5 := formE_no (fun hh => h (formE_yes hh))
    rw [h5] at H
    have hno : ¬(2 ≤ e ∧ e ≤ 11 ∧ 1 ≤ f ∧ f ≤ 52) := fun hh => h (formE_yes hh)
    clear h h5
    rcases (by omega : e < 2 ∨ (2 ≤ e ∧ 11 < e) ∨ (2 ≤ e ∧ e ≤ 11 ∧ f < 1) ∨ (2 ≤ e ∧ e ≤ 11 ∧ 1 ≤ f ∧ 52 < f)) with h | ⟨h1, h⟩ | ⟨h1, h2, h⟩ | ⟨h1, h2, h3, h⟩
    all_goals
      clear hno
      go_enter Tryd.func43, Tryd.ntmps43
      go_wp2
      go_ret
      exact ⟨by rw [H.out]; rfl, more (Below.refl _ _) _⟩

end Go.Proofs.YtnokabglkmiidaaDoor
