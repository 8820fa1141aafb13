/-
  Plain: what Make answers of any number, sign and exponent.
-/
import Derived.Test.YtnokabglkmiidaaDoorNatC
import Derived.Test.YtnokabglkmiidaaDoorTz
import Derived.Test.YtnokabglkmiidaaDoorBox
namespace Go.Proofs.YtnokabglkmiidaaDoor
open Go.RowKit Go.Lb

/-- Is there a dyadic? -/
def mkB (ys : List Nat) (x : Int) : Bool := decide (chk ys = 0 ∧ val ys ≠ 0 ∧ -2147483648 ≤ x ∧ x ≤ 1073741824 ∧ -1073741824 ≤ x + tz (val ys) ∧ x + tz (val ys) ≤ 1073741824)
/-- The error, the number, the exponent, the sign that Make answers. -/
def mkE (ys : List Nat) (x : Int) : Int := if chk ys ≠ 0 then chk ys else if val ys = 0 then 0 else if mkB ys x = true then 0 else 4
def mkN (ys : List Nat) (x : Int) : Nat := if mkB ys x = true then val ys / 2 ^ tz (val ys) else 0
def mkX (ys : List Nat) (x : Int) : Int := if mkB ys x = true then x + tz (val ys) else 0
def mkS (neg : Bool) (ys : List Nat) (x : Int) : Bool := if mkB ys x = true then neg else false

/-- No dyadic: all is nought but the error. -/
theorem mk_no (neg : Bool) {ys : List Nat} {x : Int} (h : mkB ys x = false) : mkN ys x = 0 ∧ mkX ys x = 0 ∧ mkS neg ys x = false := by
  unfold mkN mkX mkS
  rw [h]
  exact ⟨rfl, rfl, rfl⟩

theorem mk_yes (neg : Bool) {ys : List Nat} {x : Int} (h : mkB ys x = true) : mkN ys x = val ys / 2 ^ tz (val ys) ∧ mkX ys x = x + tz (val ys) ∧ mkS neg ys x = neg ∧ mkE ys x = 0 := by
  have hb : chk ys = 0 := (of_decide_eq_true h).1
  unfold mkN mkX mkS mkE
  rw [if_pos h, if_pos h, if_pos h, if_pos h, if_neg (by simp [hb])]
  exact ⟨rfl, rfl, rfl, by split <;> rfl⟩

theorem mk_chk {ys : List Nat} {x : Int} (h : chk ys ≠ 0) : mkB ys x = false ∧ mkE ys x = chk ys := by
  refine ⟨decide_eq_false fun hh => h hh.1, ?_⟩
  unfold mkE
  rw [if_pos h]

theorem mk_zero {ys : List Nat} {x : Int} (h : chk ys = 0) (h0 : val ys = 0) : mkB ys x = false ∧ mkE ys x = 0 := by
  refine ⟨decide_eq_false fun hh => hh.2.1 h0, ?_⟩
  unfold mkE
  rw [if_neg (by simp [h]), if_pos h0]

theorem mk_many {ys : List Nat} {x : Int} (h : chk ys = 0) (h0 : val ys ≠ 0) (hb : mkB ys x = false) : mkE ys x = 4 := by
  unfold mkE
  rw [if_neg (by simp [h]), if_neg h0, hb]
  rfl

/-- A number that may be has no limb 0 at its end. -/
theorem fine_of_chk {ys : List Nat} (hok : Ok ys) (h : chk ys = 0) : Fine ys := by
  refine ⟨hok, fun hl => ?_⟩
  have hlen := chk_zero_len h
  by_cases h0 : ys.length = 0
  · rw [List.eq_nil_of_length_eq_zero h0] at hl
    cases hl
  · have : nth ys (ys.length - 1) = 0 := by
      unfold nth
      rw [List.getD_eq_getElem?_getD, ← List.getLast?_eq_getElem?, hl]
      rfl
    unfold chk at h
    rw [if_neg (by omega), if_pos ⟨by omega, this⟩] at h
    cases h

theorem val_zero_iff {ys : List Nat} (hok : Ok ys) (h : chk ys = 0) : val ys = 0 ↔ ys.length = 0 := by
  constructor
  · intro hv
    by_cases h0 : ys = []
    · rw [h0]; rfl
    · have := val_pos_of_fine (fine_of_chk hok h) h0
      omega
  · intro hl
    rw [List.eq_nil_of_length_eq_zero hl]
    rfl

/-- What a made dyadic is: the answer of both Makes. -/
def Made (neg : Bool) (ys : List Nat) (x : Int) (w : World) (e : Ending) (w' : World) : Prop :=
  ∃ ao n c, e = .returned (.tuple #[.agg #[.bool (mkS neg ys x), .slice ao n c, .int .i64 (mkX ys x)], .int .i64 (mkE ys x)]) ∧ Fr 55 w' w.heap.size ao n c (limbs (mkN ys x)) ∧ Below w.heap.size w w'

/-- The answer where there is none. -/
theorem made_none {neg : Bool} {ys : List Nat} {x : Int} {w w' : World} {er : Int} (hb : mkB ys x = false) (he : mkE ys x = er) (hW : Below w.heap.size w w') :
    Made neg ys x w (.returned (.tuple #[.agg #[.bool false, .slice none 0 0, .int .i64 0], .int .i64 er])) w' := by
  obtain ⟨h1, h2, h3⟩ := mk_no neg hb
  exact ⟨none, 0, 0, by rw [h2, h3, he], by rw [h1]; exact fr_nil _ _ _, hW⟩

end Go.Proofs.YtnokabglkmiidaaDoor
