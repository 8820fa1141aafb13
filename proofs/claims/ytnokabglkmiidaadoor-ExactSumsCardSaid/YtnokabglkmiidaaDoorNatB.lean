/-
  The walks of the small readers of numbers: the reference's Check, none, far; exact.Check and the reference's.
-/
import Derived.Test.YtnokabglkmiidaaDoorNatA
namespace Go.Proofs.YtnokabglkmiidaaDoor
open Go.RowKit Go.Lb

set_option maxHeartbeats 400000 in
theorem refCheck_any (ao : Option Addr) (n c : Nat) (xs : List Nat) (w : World) (h : Sl w ao n c xs) :
    Calls Tryd.prog 30 #[.agg #[.slice ao n c]] w fun e w' => e = .returned (.int .i64 (chk xs)) ∧ Below w.heap.size w w' := by
  have hl := h.len
  have hle := h.le
  have hcap := h.cap
  by_cases h1 : 16384 < n
  · have hk : chk xs = 4 := by unfold chk; rw [if_pos (by omega)]
    have Hk := Lib.hid hk
    clear h hl hk
    go_enter Tryd.func30, Tryd.ntmps30
    go_wp2
    go_ret
    exact ⟨by rw [Hk.out]; rfl, (Below.refl _ _).alloc (Nat.le_refl _) _⟩
  · by_cases h0 : n = 0
    · have hk : chk xs = 0 := by unfold chk; rw [if_neg (by omega), if_neg (by omega)]
      have Hk := Lib.hid hk
      clear h hl hk
      subst h0
      go_enter Tryd.func30, Tryd.ntmps30
      go_wp2
      go_ret
      exact ⟨by rw [Hk.out]; rfl, (Below.refl _ _).alloc (Nat.le_refl _) _⟩
    · obtain ⟨b, o, rfl, hb, hc⟩ := h.at_ (by omega)
      have hcell := hc (n - 1) (by omega)
      by_cases h2 : nth xs (n - 1) = 0
      · have hk : chk xs = 10 := by unfold chk; rw [if_neg (by omega), if_pos ⟨by omega, by rw [hl]; exact h2⟩]
        have Hk := Lib.hid hk
        rw [h2] at hcell
        clear h hl hk hc h2
        go_enter Tryd.func30, Tryd.ntmps30
        go_wp2
        go_ret
        exact ⟨by rw [Hk.out]; rfl, (Below.refl _ _).alloc (Nat.le_refl _) _⟩
      · have hk : chk xs = 0 := by unfold chk; rw [if_neg (by omega), if_neg (by rw [hl]; exact fun x => h2 x.2)]
        have Hk := Lib.hid hk
        clear h hl hk hc
        go_enter Tryd.func30, Tryd.ntmps30
        go_wp2
        go_ret
        exact ⟨by rw [Hk.out]; rfl, (Below.refl _ _).alloc (Nat.le_refl _) _⟩

/-- Is a number nought? -/
def noneB (n : Nat) : Bool := decide (n = 0)

theorem none_any (ao : Option Addr) (n c : Nat) (w : World) :
    Calls Tryd.prog 36 #[.agg #[.slice ao n c]] w fun e w' => e = .returned (.bool (noneB n)) ∧ Below w.heap.size w w' := by
  have e : noneB n = ((n : Int) == 0) := by unfold noneB; rw [Bool.eq_iff_iff]; simp
  have E := Lib.hid e
  clear e
  go_enter Tryd.func36, Tryd.ntmps36
  go_wp2
  go_ret
  exact ⟨by rw [E.out]; rfl, (Below.refl _ _).alloc (Nat.le_refl _) _⟩

theorem refNone_any (ao : Option Addr) (n c : Nat) (w : World) :
    Calls Tryd.prog 31 #[.agg #[.slice ao n c]] w fun e w' => e = .returned (.bool (noneB n)) ∧ Below w.heap.size w w' := by
  have e : noneB n = ((n : Int) == 0) := by unfold noneB; rw [Bool.eq_iff_iff]; simp
  have E := Lib.hid e
  clear e
  go_enter Tryd.func31, Tryd.ntmps31
  go_wp2
  go_ret
  exact ⟨by rw [E.out]; rfl, (Below.refl _ _).alloc (Nat.le_refl _) _⟩

/-- Is an exponent out of its bounds? -/
def farB (e : Int) : Bool := decide (e < -1073741824 ∨ 1073741824 < e)

theorem far_any (x : Int) (w : World) :
    Calls Tryd.prog 38 #[.int .i64 x] w fun e w' => e = .returned (.bool (farB x)) ∧ Below w.heap.size w w' := by
  have e : farB x = (decide (x < -1073741824) || decide (1073741824 < x)) := by unfold farB; rw [Bool.eq_iff_iff]; simp
  have E := Lib.hid e
  clear e
  by_cases h : x < -1073741824
  all_goals
    go_enter Tryd.func38, Tryd.ntmps38
    go_wp2
    go_ret
    exact ⟨by rw [E.out]; first | (simp [h]; done) | (simp; omega), Below.refl _ _⟩

theorem refFar_any (x : Int) (w : World) :
    Calls Tryd.prog 33 #[.int .i64 x] w fun e w' => e = .returned (.bool (farB x)) ∧ Below w.heap.size w w' := by
  have e : farB x = (decide (x < -1073741824) || decide (1073741824 < x)) := by unfold farB; rw [Bool.eq_iff_iff]; simp
  have E := Lib.hid e
  clear e
  by_cases h : x < -1073741824
  all_goals
    go_enter Tryd.func33, Tryd.ntmps33
    go_wp2
    go_ret
    exact ⟨by rw [E.out]; first | (simp [h]; done) | (simp; omega), Below.refl _ _⟩

/-- The error of a dyadic. -/
def dchk (neg : Bool) (xs : List Nat) (x : Int) : Int :=
  if chk xs ≠ 0 then chk xs else if xs.length = 0 then (if neg = true ∨ x ≠ 0 then 40 else 0) else (if nth xs 0 % 2 = 0 ∨ farB x = true then 40 else 0)

set_option maxHeartbeats 800000 in
theorem dyCheck_any (neg : Bool) (ao : Option Addr) (n c : Nat) (x : Int) (xs : List Nat) (w : World) (h : Sl w ao n c xs) :
    Calls Tryd.prog 60 #[.agg #[.bool neg, .slice ao n c, .int .i64 x]] w fun e w' => e = .returned (.int .i64 (dchk neg xs x)) ∧ Below w.heap.size w w' := by
  by_cases h0 : chk xs = 0
  · have h0b : (chk xs == 0) = true := by simp [h0]
    have h0c : (chk xs != 0) = false := by simp [h0]
    by_cases hn : n = 0
    · have hk : dchk neg xs x = if neg = true ∨ x ≠ 0 then 40 else 0 := by unfold dchk; rw [if_neg (by simp [h0]), if_pos (by rw [h.len]; exact hn)]
      have Hk := Lib.hid hk
      clear hk h0
      subst hn
      have hnb : noneB 0 = true := rfl
      go_enter Tryd.func60, Tryd.ntmps60
      go_wp2_with (first
        | (go_at_call 35; refine (natCheck_any ao 0 c xs _ (h.alloc _)).mono ?_; rintro e w1 ⟨rfl, hb1⟩; obtain ⟨hc1, hf1⟩ := bcell hb1; have hz1 : w.heap.size < w1.heap.size := by have := hb1.size; simp at this; omega)
        | (go_at_call 36; refine (none_any ao 0 c _).mono ?_; rintro e w2 ⟨rfl, hb2⟩; obtain ⟨hc2, hf2⟩ := bcell hb2; have hz2 : w.heap.size < w2.heap.size := by have := hb2.size; omega))
      all_goals (go_ret; refine ⟨?_, (by repeat (first | exact Below.refl _ _ | assumption | refine next ?_ (by assumption) | refine more ?_ _))⟩; rw [Hk.out]; clear Hk; simp_all; done)
    · obtain ⟨b, o, rfl, hb, hc⟩ := h.at_ (by omega)
      have hlt := nth_lt h.ok 0
      have hcell : w.cell? ⟨b, o, none⟩ = some (.int .u32 (nth xs 0 : Int)) := by simpa using hc 0 (by omega)
      have hnb : noneB n = false := by unfold noneB; simp [hn]
      have hk : dchk neg xs x = if nth xs 0 % 2 = 0 ∨ farB x = true then 40 else 0 := by unfold dchk; rw [if_neg (by simp [h0]), if_neg (by rw [h.len]; exact hn)]
      have Hk := Lib.hid hk
      clear hk h0 hc
      have hbx : b < w.heap.size + 1 := by omega
      have hbz : ∀ w1 : World, w.heap.size < w1.heap.size → b < w1.heap.size := fun w1 _ => by omega
      by_cases h2 : nth xs 0 % 2 = 0
      · have Hk := Lib.hid (Hk.out.trans (if_pos (Or.inl h2)))
        have h3 := Lib.hid h2
        clear h2
        have hand : bits BinOp.and IntKind.u32 (nth xs 0 : Int) 1 = 0 := by rw [u32_and_one _ hlt, h3.out]; rfl
        go_enter Tryd.func60, Tryd.ntmps60
        go_wp2_with (first
          | (go_at_call 35; refine (natCheck_any _ n c xs _ (h.alloc _)).mono ?_; rintro e w1 ⟨rfl, hb1⟩; obtain ⟨hc1, hf1⟩ := bcell hb1; have hz1 : w.heap.size < w1.heap.size := by have := hb1.size; simp at this; omega)
          | (go_at_call 36; refine (none_any _ n c _).mono ?_; rintro e w2 ⟨rfl, hb2⟩; obtain ⟨hc2, hf2⟩ := bcell hb2; have hz2 : w.heap.size < w2.heap.size := by have := hb2.size; omega)
          | (go_at_call 38; refine (far_any x _).mono ?_; rintro e w3 ⟨rfl, hb3⟩))
        all_goals (go_ret; refine ⟨?_, (by repeat (first | exact Below.refl _ _ | assumption | refine next ?_ (by assumption) | refine more ?_ _))⟩; rw [Hk.out]; clear Hk; simp_all; done)
      · have Hk : Hid (dchk neg xs x = if farB x = true then 40 else 0) := Lib.hid (Hk.out.trans (by simp [h2]))
        have h3 := Lib.hid h2
        clear h2
        have hand : bits BinOp.and IntKind.u32 (nth xs 0 : Int) 1 = 1 := by have := h3.out; rw [u32_and_one _ hlt]; omega
        go_enter Tryd.func60, Tryd.ntmps60
        go_wp2_with (first
          | (go_at_call 35; refine (natCheck_any _ n c xs _ (h.alloc _)).mono ?_; rintro e w1 ⟨rfl, hb1⟩; obtain ⟨hc1, hf1⟩ := bcell hb1; have hz1 : w.heap.size < w1.heap.size := by have := hb1.size; simp at this; omega)
          | (go_at_call 36; refine (none_any _ n c _).mono ?_; rintro e w2 ⟨rfl, hb2⟩; obtain ⟨hc2, hf2⟩ := bcell hb2; have hz2 : w.heap.size < w2.heap.size := by have := hb2.size; omega)
          | (go_at_call 38; refine (far_any x _).mono ?_; rintro e w3 ⟨rfl, hb3⟩))
        all_goals (go_ret; refine ⟨?_, (by repeat (first | exact Below.refl _ _ | assumption | refine next ?_ (by assumption) | refine more ?_ _))⟩; rw [Hk.out]; clear Hk; simp_all; done)
  · have h0b : (chk xs == 0) = false := by simp [h0]
    have h0c : (chk xs != 0) = true := by simp [h0]
    have hk : dchk neg xs x = chk xs := by unfold dchk; rw [if_pos h0]
    have Hk := Lib.hid hk
    clear hk
    go_enter Tryd.func60, Tryd.ntmps60
    go_wp2_with (go_at_call 35; refine (natCheck_any ao n c xs _ (h.alloc _)).mono ?_; rintro e w1 ⟨rfl, hb1⟩; obtain ⟨hc1, hf1⟩ := bcell hb1; have hz1 : w.heap.size < w1.heap.size := by have := hb1.size; simp at this; omega)
    go_ret
    exact ⟨by rw [Hk.out]; rfl, (by repeat (first | exact Below.refl _ _ | assumption | refine next ?_ (by assumption) | refine more ?_ _))⟩

set_option maxHeartbeats 800000 in
theorem refDyCheck_any (neg : Bool) (ao : Option Addr) (n c : Nat) (x : Int) (xs : List Nat) (w : World) (h : Sl w ao n c xs) :
    Calls Tryd.prog 62 #[.agg #[.bool neg, .slice ao n c, .int .i64 x]] w fun e w' => e = .returned (.int .i64 (dchk neg xs x)) ∧ Below w.heap.size w w' := by
  by_cases h0 : chk xs = 0
  · have h0b : (chk xs == 0) = true := by simp [h0]
    have h0c : (chk xs != 0) = false := by simp [h0]
    by_cases hn : n = 0
    · have hk : dchk neg xs x = if neg = true ∨ x ≠ 0 then 40 else 0 := by unfold dchk; rw [if_neg (by simp [h0]), if_pos (by rw [h.len]; exact hn)]
      have Hk := Lib.hid hk
      clear hk h0
      subst hn
      have hnb : noneB 0 = true := rfl
      go_enter Tryd.func62, Tryd.ntmps62
      go_wp2_with (first
        | (go_at_call 30; refine (refCheck_any ao 0 c xs _ (h.alloc _)).mono ?_; rintro e w1 ⟨rfl, hb1⟩; obtain ⟨hc1, hf1⟩ := bcell hb1; have hz1 : w.heap.size < w1.heap.size := by have := hb1.size; simp at this; omega)
        | (go_at_call 31; refine (refNone_any ao 0 c _).mono ?_; rintro e w2 ⟨rfl, hb2⟩; obtain ⟨hc2, hf2⟩ := bcell hb2; have hz2 : w.heap.size < w2.heap.size := by have := hb2.size; omega))
      all_goals (go_ret; refine ⟨?_, (by repeat (first | exact Below.refl _ _ | assumption | refine next ?_ (by assumption) | refine more ?_ _))⟩; rw [Hk.out]; clear Hk; simp_all; done)
    · obtain ⟨b, o, rfl, hb, hc⟩ := h.at_ (by omega)
      have hlt := nth_lt h.ok 0
      have hcell : w.cell? ⟨b, o, none⟩ = some (.int .u32 (nth xs 0 : Int)) := by simpa using hc 0 (by omega)
      have hnb : noneB n = false := by unfold noneB; simp [hn]
      have hk : dchk neg xs x = if nth xs 0 % 2 = 0 ∨ farB x = true then 40 else 0 := by unfold dchk; rw [if_neg (by simp [h0]), if_neg (by rw [h.len]; exact hn)]
      have Hk := Lib.hid hk
      clear hk h0 hc
      have hbx : b < w.heap.size + 1 := by omega
      have hbz : ∀ w1 : World, w.heap.size < w1.heap.size → b < w1.heap.size := fun w1 _ => by omega
      by_cases h2 : nth xs 0 % 2 = 0
      · have Hk := Lib.hid (Hk.out.trans (if_pos (Or.inl h2)))
        have h3 := Lib.hid h2
        clear h2
        have hand : (nth xs 0 : Int) % 2 = 0 := by have := h3.out; omega
        go_enter Tryd.func62, Tryd.ntmps62
        go_wp2_with (first
          | (go_at_call 30; refine (refCheck_any _ n c xs _ (h.alloc _)).mono ?_; rintro e w1 ⟨rfl, hb1⟩; obtain ⟨hc1, hf1⟩ := bcell hb1; have hz1 : w.heap.size < w1.heap.size := by have := hb1.size; simp at this; omega)
          | (go_at_call 31; refine (refNone_any _ n c _).mono ?_; rintro e w2 ⟨rfl, hb2⟩; obtain ⟨hc2, hf2⟩ := bcell hb2; have hz2 : w.heap.size < w2.heap.size := by have := hb2.size; omega)
          | (go_at_call 33; refine (refFar_any x _).mono ?_; rintro e w3 ⟨rfl, hb3⟩))
        all_goals (go_ret; refine ⟨?_, (by repeat (first | exact Below.refl _ _ | assumption | refine next ?_ (by assumption) | refine more ?_ _))⟩; rw [Hk.out]; clear Hk; simp_all; done)
      · have Hk : Hid (dchk neg xs x = if farB x = true then 40 else 0) := Lib.hid (Hk.out.trans (by simp [h2]))
        have h3 := Lib.hid h2
        clear h2
        have hand : (nth xs 0 : Int) % 2 = 1 := by have := h3.out; omega
        go_enter Tryd.func62, Tryd.ntmps62
        go_wp2_with (first
          | (go_at_call 30; refine (refCheck_any _ n c xs _ (h.alloc _)).mono ?_; rintro e w1 ⟨rfl, hb1⟩; obtain ⟨hc1, hf1⟩ := bcell hb1; have hz1 : w.heap.size < w1.heap.size := by have := hb1.size; simp at this; omega)
          | (go_at_call 31; refine (refNone_any _ n c _).mono ?_; rintro e w2 ⟨rfl, hb2⟩; obtain ⟨hc2, hf2⟩ := bcell hb2; have hz2 : w.heap.size < w2.heap.size := by have := hb2.size; omega)
          | (go_at_call 33; refine (refFar_any x _).mono ?_; rintro e w3 ⟨rfl, hb3⟩))
        all_goals (go_ret; refine ⟨?_, (by repeat (first | exact Below.refl _ _ | assumption | refine next ?_ (by assumption) | refine more ?_ _))⟩; rw [Hk.out]; clear Hk; simp_all; done)
  · have h0b : (chk xs == 0) = false := by simp [h0]
    have h0c : (chk xs != 0) = true := by simp [h0]
    have hk : dchk neg xs x = chk xs := by unfold dchk; rw [if_pos h0]
    have Hk := Lib.hid hk
    clear hk
    go_enter Tryd.func62, Tryd.ntmps62
    go_wp2_with (go_at_call 30; refine (refCheck_any ao n c xs _ (h.alloc _)).mono ?_; rintro e w1 ⟨rfl, hb1⟩; obtain ⟨hc1, hf1⟩ := bcell hb1; have hz1 : w.heap.size < w1.heap.size := by have := hb1.size; simp at this; omega)
    go_ret
    exact ⟨by rw [Hk.out]; rfl, (by repeat (first | exact Below.refl _ _ | assumption | refine next ?_ (by assumption) | refine more ?_ _))⟩

end Go.Proofs.YtnokabglkmiidaaDoor
