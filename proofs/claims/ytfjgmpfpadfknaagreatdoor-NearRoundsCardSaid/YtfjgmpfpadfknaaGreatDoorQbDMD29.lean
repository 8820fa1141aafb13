/-
  The walks of forms.Inf, soft's kit.inf.
-/
import Derived.Test.YtfjgmpfpadfknaaGreatDoorQbDSplits
import Derived.Test.YtfjgmpfpadfknaaGreatDoorQbDMD1
import Derived.Test.YtfjgmpfpadfknaaGreatDoorQbDMD27
import Derived.Test.YtfjgmpfpadfknaaGreatDoorQbDBooks
import Derived.Test.YtfjgmpfpadfknaaGreatDoorQbDVals
import Derived.Test.YtfjgmpfpadfknaaGreatDoorQbDRdE
import Derived.Deep.RegionHeld3
namespace Go.Proofs.YtfjgmpfpadfknaaGreatDoor

open Go.RowKit Go.Lb

set_option maxRecDepth 100000 in
theorem infLit_any (q e f : Nat) (w : World) (he : e ≤ 64) (hB : Box2 w q (.int .i64 e) (.int .i64 f)) :
    Calls Tryz.prog 174 #[.pointer (some ⟨q, 0, none⟩)] w fun en w' => en = .returned (.tuple #[.int .u64 (maskN e : Int), .int .u64 0]) ∧ w = w' := by
  have ⟨a0, a1⟩ := hB
  have cM := mask_any e w he
  generalize maskN e = M at *
  go_enter Tryz.func174, Tryz.ntmps174
  go_wp2_with fail
  refine cM.mono ?_
  rintro en w1 ⟨rfl, rfl⟩
  go_wp2
  go_ret2
  exact ⟨rfl, rfl⟩

set_option maxRecDepth 100000 in
set_option maxHeartbeats 1600000 in
theorem knownInf_any (q e f : Nat) (neg : Bool) (w : World) (h : formE (e : Int) (f : Int) = 0) (hB : Box2 w q (.int .i64 e) (.int .i64 f)) :
    Calls Tryz.prog 73 #[.agg #[.int .i64 e, .int .i64 f], .bool neg, .func (.func 174) #[] #[.pointer (some ⟨q, 0, none⟩)]] w fun en w' => en = .returned (.tuple #[.int .u64 (joinN e f neg (maskN e) 0 : Int), .int .i64 0]) ∧ Below w.heap.size w w' := by
  obtain ⟨h1, h2, h3, h4⟩ := formE_ok h
  have g1 : 2 ≤ e := by omega
  have g2 : e ≤ 11 := by omega
  have g3 : f ≤ 52 := by omega
  have pe : maskN e < pw e := by rw [maskN_eq]; have := pw_pos e; omega
  have pf := pw_pos f
  have cJ := fun W => join_any e f neg (maskN e) 0 W g1 g2 g3 pe pf
  have cL := fun W hB => infLit_any q e f W (by omega) hB
  generalize maskN e = M at *
  go_enter Tryz.func73, Tryz.ntmps73
  go_wp2_with fail
  refine (formCheck_any e f _).mono ?_
  rintro en w1 ⟨rfl, hb1⟩
  rw [h]
  have ⟨a0, a1⟩ := (box2_new w (.int .i64 (e : Int)) (.int .i64 (f : Int)) 23).stay hb1
  have B1 := (hB.alloc (.cells #[.int .i64 (e : Int), .int .i64 (f : Int)] 23)).stay hb1
  go_wp2_with (go_at_call 174; refine (cL _ B1).mono ?_; rintro en w2 ⟨rfl, rfl⟩)
  refine (cJ _).mono ?_
  rintro en w2 ⟨rfl, hb2⟩
  go_wp2
  go_ret2
  exact ⟨rfl, next (next (more (Below.refl _ _) _) hb1) hb2⟩

set_option maxRecDepth 100000 in
set_option maxHeartbeats 1600000 in
theorem formsInf_any (e f : Nat) (neg : Bool) (w : World) (h : formE (e : Int) (f : Int) = 0) :
    Calls Tryz.prog 114 #[.agg #[.int .i64 e, .int .i64 f], .bool neg] w fun en w' => en = .returned (.tuple #[.int .u64 (joinN e f neg (maskN e) 0 : Int), .int .i64 0]) ∧ Below w.heap.size w w' := by
  have B := box2_new w (.int .i64 (e : Int)) (.int .i64 (f : Int)) 23
  have hW := more (Below.refl w.heap.size w) (.cells #[.int .i64 (e : Int), .int .i64 (f : Int)] 23)
  have cK := fun W hB => knownInf_any w.heap.size e f neg W h hB
  generalize joinN e f neg (maskN e) 0 = J at *
  go_enter Tryz.func114, Tryz.ntmps114
  go_wp2_with fail
  refine (cK _ B).mono ?_
  rintro en w1 ⟨rfl, hb1⟩
  go_wp2
  go_ret2
  exact ⟨rfl, next hW hb1⟩

end Go.Proofs.YtfjgmpfpadfknaaGreatDoor

/-
  The walks of soft.Min, Max; of the reference's asked, Open. The walk of the reference's Open: a float taken apart.
-/
namespace Go.Proofs.YtfjgmpfpadfknaaGreatDoor

open Go.RowKit Go.Lb

/-- The error of several, by the reference. -/
def askL (e f : Int) : List Nat → Int
  | [] => 0
  | a :: l => if fitsE e f a ≠ 0 then fitsE e f a else askL e f l

theorem askL_at {e f : Int} : ∀ {l : List Nat} {k : Nat} (hk : k < l.length), (∀ j, (h : j < k) → fitsE e f (l[j]'(by omega)) = 0) → fitsE e f l[k] ≠ 0 → askL e f l = fitsE e f l[k]
  | a :: l, 0, hk, h, hn => if_pos hn
  | a :: l, k + 1, hk, h, hn => by
    have h0 : fitsE e f a = 0 := h 0 (by omega)
    show (if fitsE e f a ≠ 0 then fitsE e f a else askL e f l) = _
    rw [if_neg (by simp [h0])]
    exact askL_at (l := l) (k := k) (by simp at hk; omega) (fun j hj => h (j + 1) (by omega)) hn

theorem askL_ok {e f : Int} : ∀ {l : List Nat}, (∀ j, (h : j < l.length) → fitsE e f l[j] = 0) → askL e f l = 0
  | [], _ => rfl
  | a :: l, h => by
    have h0 : fitsE e f a = 0 := h 0 (by simp)
    show (if fitsE e f a ≠ 0 then fitsE e f a else askL e f l) = _
    rw [if_neg (by simp [h0])]
    exact askL_ok fun j hj => h (j + 1) (by simp; omega)

theorem askL_two (e f : Int) (a b : Nat) : askL e f [a, b] = twoE e f a b := by
  unfold twoE
  show (if fitsE e f a ≠ 0 then fitsE e f a else if fitsE e f b ≠ 0 then fitsE e f b else 0) = _
  split
  · rfl
  · by_cases h : fitsE e f b = 0
    · rw [if_neg (by simp [h]), h]
    · rw [if_pos h]

end Go.Proofs.YtfjgmpfpadfknaaGreatDoor

namespace Go.Proofs.YtfjgmpfpadfknaaGreatDoor

open Go.RowKit Go.Lb

theorem cell_same (w : World) (a : Addr) (v : Value) (h : (w.cell? a).isSome = true) : (w.setCell a v).cell? a = some v := by
  obtain ⟨u, hu⟩ := Option.isSome_iff_exists.1 h
  exact World.cell?_setCell_same _ _ _ hu

def infB (e f b : Nat) : Bool := decide (exN e f b = maskN e ∧ frN f b = 0)

end Go.Proofs.YtfjgmpfpadfknaaGreatDoor

/-
  Plain: a float's bits without and with its sign; places in the row of all numbers, as layer 6 reckons them. No program in sight.
-/
namespace Go.Proofs.YtfjgmpfpadfknaaGreatDoor

open Go.RowKit Go.Lb

/-- The bits without their sign. -/
def mgN (e f b : Nat) : Nat := b % pw (e + f)

theorem pw_one_more (e f : Nat) : pw (1 + e + f) = 2 * pw (e + f) := by
  unfold pw
  rw [show 1 + e + f = e + f + 1 by omega, Nat.pow_succ]
  omega

theorem sg_iff {e f b : Nat} (hb : b < pw (1 + e + f)) : sgB e f b = decide (pw (e + f) ≤ b) := by
  rw [pw_one_more] at hb
  unfold sgB takeN
  rw [show f + e = e + f by omega, show pw 1 = 2 by unfold pw; rfl]
  have hp := pw_pos (e + f)
  by_cases h : pw (e + f) ≤ b
  · have hd : b / pw (e + f) = 1 := Nat.div_eq_of_lt_le (by omega) (by omega)
    rw [hd, decide_eq_true h]
    rfl
  · have hd : b / pw (e + f) = 0 := Nat.div_eq_of_lt (by omega)
    rw [hd, decide_eq_false h]
    rfl

theorem mg_lt (e f b : Nat) : mgN e f b < pw (e + f) := Nat.mod_lt _ (pw_pos _)

theorem mg_eq {e f b : Nat} (hb : b < pw (1 + e + f)) : b = mgN e f b + if sgB e f b = true then pw (e + f) else 0 := by
  rw [sg_iff hb]
  rw [pw_one_more] at hb
  unfold mgN
  by_cases h : pw (e + f) ≤ b
  · rw [if_pos (decide_eq_true h), Nat.mod_eq_sub_mod h, Nat.mod_eq_of_lt (by omega)]
    omega
  · rw [if_neg (by simp [h]), Nat.mod_eq_of_lt (by omega)]
    rfl

theorem u64_andNot_top {k b : Nat} (hk : k ≤ 63) (hb : b < 2 * pw k) : bits BinOp.andNot IntKind.u64 (b : Int) (pw k : Int) = ((b % pw k : Nat) : Int) := by
  have hp := pw_le hk
  rw [show pw 63 = 9223372036854775808 by unfold pw; rfl] at hp
  have hpos := pw_pos k
  have hx : BitVec.ofInt 64 (b : Int) &&& ~~~BitVec.ofInt 64 (pw k : Int) = BitVec.ofNat 64 (b % pw k) := by
    rw [BitVec.ofInt_natCast, BitVec.ofInt_natCast]
    apply BitVec.eq_of_getLsbD_eq
    intro i hi
    rw [BitVec.getLsbD_and, BitVec.getLsbD_not, BitVec.getLsbD_ofNat, BitVec.getLsbD_ofNat, BitVec.getLsbD_ofNat]
    unfold pw
    rw [Nat.testBit_mod_two_pow, Nat.testBit_two_pow]
    have hi' : i < 64 := hi
    by_cases h1 : i < k
    · simp [hi', h1, Nat.ne_of_gt h1]
    · by_cases h2 : i = k
      · subst h2
        simp
      · have h3 : b.testBit i = false := by
          refine Nat.testBit_lt_two_pow (Nat.lt_of_lt_of_le hb ?_)
          unfold pw
          rw [show 2 * 2 ^ k = 2 ^ (k + 1) by rw [Nat.pow_succ]; omega]
          exact Nat.pow_le_pow_right (by decide) (by omega)
        simp [h3]
  have hl : b % pw k < pw k := Nat.mod_lt _ hpos
  show IntKind.u64.wrap ((BitVec.ofInt 64 (b : Int) &&& ~~~BitVec.ofInt 64 (pw k : Int)).toNat : Int) = _
  rw [hx, BitVec.toNat_ofNat, Nat.mod_eq_of_lt (by omega), IntKind.wrap_u64]
  omega

theorem u64_or_top {k n : Nat} (hk : k ≤ 63) (hn : n < pw k) : bits BinOp.or IntKind.u64 (pw k : Int) (n : Int) = ((pw k + n : Nat) : Int) := by
  have hp := pw_le hk
  rw [show pw 63 = 9223372036854775808 by unfold pw; rfl] at hp
  have h1 : (BitVec.ofInt 64 (pw k : Int)).toNat = pw k := by
    rw [BitVec.ofInt_natCast, BitVec.toNat_ofNat]; exact Nat.mod_eq_of_lt (by omega)
  have h2 : (BitVec.ofInt 64 (n : Int)).toNat = n := by
    rw [BitVec.ofInt_natCast, BitVec.toNat_ofNat]; exact Nat.mod_eq_of_lt (by omega)
  show IntKind.u64.wrap ((BitVec.ofInt 64 (pw k : Int) ||| BitVec.ofInt 64 (n : Int)).toNat : Int) = _
  have ho : pw k ||| n = pw k + n := by
    unfold pw at hn ⊢
    have := Nat.two_pow_add_eq_or_of_lt (i := k) (b := n) hn 1
    rw [Nat.mul_one] at this
    exact this.symm
  rw [BitVec.toNat_or, h1, h2, ho, IntKind.wrap_u64]
  omega

/-- A float's place, as a number of 64 bits that wraps round. -/
def plN (e f b : Nat) : Nat := if sgB e f b = true then (18446744073709551616 - mgN e f b) % 18446744073709551616 else b

theorem pl_pos {e f b : Nat} (h : sgB e f b = false) : plN e f b = b := by unfold plN; rw [if_neg (by simp [h])]

theorem pl_neg {e f b : Nat} (h : sgB e f b = true) : plN e f b = (18446744073709551616 - mgN e f b) % 18446744073709551616 := by unfold plN; rw [if_pos h]

/-- The float of a place; of nought the one with this sign. -/
def atN (e f p : Nat) (neg : Bool) : Nat := if 9223372036854775808 ≤ p then pw (e + f) + (18446744073709551616 - p) else if p = 0 ∧ neg = true then pw (e + f) else p

/-- Of one float: the neighbour above, or why there is none. -/
def hiE (e f : Int) (b : Nat) : Int :=
  if fitsE e f b ≠ 0 then fitsE e f b else if nanB e.toNat f.toNat b = true then 2 else if sgB e.toNat f.toNat b = true ∧ mgN e.toNat f.toNat b ≠ 0 then 0 else if infB e.toNat f.toNat b = true then 60 else 0

def hiN (e f b : Nat) : Nat := if sgB e f b = true ∧ mgN e f b ≠ 0 then pw (e + f) + mgN e f b - 1 else mgN e f b + 1

def hiB (e f : Int) (b : Nat) : Nat := if hiE e f b = 0 then hiN e.toNat f.toNat b else 0

end Go.Proofs.YtfjgmpfpadfknaaGreatDoor

/-
  The walks of the document's answer of layer 3: Pow, Check, Fits, Split, Top, Class, Finite.
-/
namespace Go.Proofs.YtfjgmpfpadfknaaGreatDoor

open Go.RowKit Go.Lb

theorem pw_sixty {k : Nat} (h : k ≤ 63) : pw k ≤ 9223372036854775808 := by
  have := pw_le h
  rw [show pw 63 = 9223372036854775808 by unfold pw; rfl] at this
  exact this

theorem class_fin {e x y : Nat} (he : 2 ≤ e) : classN e x y ≤ 3 ↔ x ≠ maskN e := by
  have h1 : maskN e ≠ 0 := by
    unfold maskN
    have : 2 ^ 2 ≤ 2 ^ e := Nat.pow_le_pow_right (by decide) he
    omega
  unfold classN
  split
  · rename_i h
    rw [h]
    constructor
    · intro _ hh
      exact h1 hh.symm
    · intro _
      split <;> omega
  · split
    · rename_i h2
      constructor
      · intro h3
        split at h3 <;> omega
      · intro h3
        exact absurd h2 h3
    · rename_i h2
      exact ⟨fun _ => h2, fun _ => by omega⟩

end Go.Proofs.YtfjgmpfpadfknaaGreatDoor

