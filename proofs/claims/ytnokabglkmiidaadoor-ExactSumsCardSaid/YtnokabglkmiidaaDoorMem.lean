/-
  Words for memory: a slice of limbs that reads as a list of numbers (Sl), a number by value (Sl of its one field), and how these stand in a later world. No program in sight.
-/
import Derived.WalkKit
import Derived.WalkLawsBesides
import Derived.WalkSpells
import Derived.Lib.Hide
import Derived.Deep.QuietTactic
import Derived.BigQuiet
import Derived.Test.YtnokabglkmiidaaDoorLimbs
namespace Go.Lb
open Go.RowKit

/-- A list's limb; 0 beyond it. (No simp rule looks into it.) -/
def nth (xs : List Nat) (j : Nat) : Nat := xs.getD j 0

/-- A limb as a value. -/
def lv (x : Nat) : Value := .int .u32 (x : Int)

theorem nth_lt {xs : List Nat} (h : Ok xs) (j : Nat) : nth xs j < 4294967296 := ok_getD h j

theorem wrap64_nat (b : Nat) (h : b < 9223372036854775808) : wrap64 (b : Int) = (b : Int) := IntWalk.wrap64_in _ ⟨by omega, by omega⟩

/-- In the world w the slice (at ao, of n elements, c places) reads as xs. -/
structure Sl (w : World) (ao : Option Addr) (n c : Nat) (xs : List Nat) : Prop where
  len : xs.length = n
  le : n ≤ c
  cap : c ≤ 9223372036854775807
  ok : Ok xs
  at_ : 0 < n → ∃ b o, ao = some ⟨b, o, none⟩ ∧ b < w.heap.size ∧ ∀ j, j < n → w.cell? ⟨b, o + j, none⟩ = some (.int .u32 (nth xs j : Int))

theorem Sl.keep {w w' : World} {ao : Option Addr} {n c : Nat} {xs : List Nat} (h : Sl w ao n c xs) (hs : w.heap.size ≤ w'.heap.size) (hk : ∀ p : Addr, p.block < w.heap.size → w'.cell? p = w.cell? p) : Sl w' ao n c xs :=
  ⟨h.len, h.le, h.cap, h.ok, fun hn => by
    obtain ⟨b, o, e, hb, hc⟩ := h.at_ hn
    exact ⟨b, o, e, Nat.lt_of_lt_of_le hb hs, fun j hj => (hk _ hb).trans (hc j hj)⟩⟩

theorem Sl.below {w w' : World} {ao : Option Addr} {n c : Nat} {xs : List Nat} (h : Sl w ao n c xs) (hb : Below w.heap.size w w') : Sl w' ao n c xs :=
  h.keep hb.size fun _ hp => hb.cell hp

theorem Sl.alloc {w : World} {ao : Option Addr} {n c : Nat} {xs : List Nat} (h : Sl w ao n c xs) (o : Obj) : Sl (w.alloc o) ao n c xs :=
  h.below ((Below.refl _ _).alloc (Nat.le_refl _) o)

theorem Sl.drew {w : World} {ao : Option Addr} {n c : Nat} {xs : List Nat} (h : Sl w ao n c xs) : Sl w.drew ao n c xs := h.keep (Nat.le_refl _) fun _ _ => rfl

/-- All cells below B read as they did, all marks too. -/
theorem bcell {W w1 : World} (hb : Below W.heap.size W w1) : (∀ b o, b < W.heap.size → w1.cell? ⟨b, o, none⟩ = W.cell? ⟨b, o, none⟩) ∧ (∀ b o, b < W.heap.size → w1.frozen? ⟨b, o, none⟩ = W.frozen? ⟨b, o, none⟩) :=
  ⟨fun b o h => hb.cell (p := ⟨b, o, none⟩) h, fun b o h => hb.frozen (p := ⟨b, o, none⟩) h⟩

/-- One call more behind what has been done; one new block more. -/
theorem next {w wp w' : World} (h : Below w.heap.size w wp) (k : Below wp.heap.size wp w') : Below w.heap.size w w' := h.trans (k.mono h.size)
theorem more {w wp : World} (h : Below w.heap.size w wp) (o : Obj) : Below w.heap.size w (wp.alloc o) := h.alloc h.size o
theorem drewn {w wp : World} (h : Below w.heap.size w wp) (k : Nat) : Below w.heap.size w (wp.drewN k) := below_drewN h k

theorem undrew {w w1 : World} (h : Below w.drew.heap.size w.drew w1) : Below w.heap.size w w1 := ⟨h.os, h.tape, h.output, h.size, h.block⟩
theorem undrewN {w w1 : World} {k : Nat} (h : Below (w.drewN k).heap.size (w.drewN k) w1) : Below w.heap.size w w1 := ⟨h.os, h.tape, h.output, h.size, h.block⟩
theorem bsz1 {w w1 : World} {o : Obj} (hb : Below (w.alloc o).heap.size (w.alloc o) w1) : w.heap.size < w1.heap.size := by have := hb.size; simp at this; omega
theorem bsz2 {w w1 : World} {o o2 : Obj} (hb : Below ((w.alloc o).alloc o2).heap.size ((w.alloc o).alloc o2) w1) : w.heap.size < w1.heap.size ∧ w.heap.size + 1 < w1.heap.size := by have := hb.size; simp at this; exact ⟨by omega, by omega⟩

/-- A cell that is known reads on as it did behind a call. -/
theorem cellStay {wp w' : World} {p : Addr} {v : Value} (h : wp.cell? p = some v) (k : Below wp.heap.size wp w') : w'.cell? p = some v := (k.cell (World.block_lt_of_cell? wp p h)).trans h

/-- A cell that is known and may be written stays so behind a call. -/
theorem cfStay {wp w' : World} {p : Addr} {v : Value} (h : wp.cell? p = some v ∧ wp.frozen? p = false) (k : Below wp.heap.size wp w') : w'.cell? p = some v ∧ w'.frozen? p = false :=
  ⟨cellStay h.1 k, (k.frozen (World.block_lt_of_cell? wp p h.1)).trans h.2⟩

theorem u32_and_nat (a b : Nat) (ha : a < 4294967296) (hb : b < 4294967296) : bits .and .u32 (a : Int) (b : Int) = ((a &&& b : Nat) : Int) := by
  have hx : a &&& b < 2 ^ 32 := Nat.and_lt_two_pow _ (by omega)
  have h1 : (BitVec.ofInt 32 (a : Int)).toNat = a := by
    rw [BitVec.ofInt_natCast, BitVec.toNat_ofNat]; exact Nat.mod_eq_of_lt (by omega)
  have h2 : (BitVec.ofInt 32 (b : Int)).toNat = b := by
    rw [BitVec.ofInt_natCast, BitVec.toNat_ofNat]; exact Nat.mod_eq_of_lt (by omega)
  show IntKind.u32.wrap ((BitVec.ofInt 32 (a : Int) &&& BitVec.ofInt 32 (b : Int)).toNat : Int) = _
  rw [BitVec.toNat_and, h1, h2, show ∀ n : Int, IntKind.u32.wrap n = n % 4294967296 from fun n => by simp [IntKind.wrap, IntKind.signed, IntKind.bits]]
  omega

theorem u32_and_one (a : Nat) (ha : a < 4294967296) : bits .and .u32 (a : Int) 1 = ((a % 2 : Nat) : Int) := by
  have h := u32_and_nat a 1 ha (by omega)
  rw [Nat.and_one_is_mod] at h
  exact h

theorem u64_and_nat (a b : Nat) (ha : a < 18446744073709551616) (hb : b < 18446744073709551616) : bits .and .u64 (a : Int) (b : Int) = ((a &&& b : Nat) : Int) := by
  have hx : a &&& b < 2 ^ 64 := Nat.and_lt_two_pow _ (by omega)
  have h1 : (BitVec.ofInt 64 (a : Int)).toNat = a := by
    rw [BitVec.ofInt_natCast, BitVec.toNat_ofNat]; exact Nat.mod_eq_of_lt (by omega)
  have h2 : (BitVec.ofInt 64 (b : Int)).toNat = b := by
    rw [BitVec.ofInt_natCast, BitVec.toNat_ofNat]; exact Nat.mod_eq_of_lt (by omega)
  show IntKind.u64.wrap ((BitVec.ofInt 64 (a : Int) &&& BitVec.ofInt 64 (b : Int)).toNat : Int) = _
  rw [BitVec.toNat_and, h1, h2, IntKind.wrap_u64]
  omega

theorem u64_and_one (a : Nat) (ha : a < 18446744073709551616) : bits .and .u64 (a : Int) 1 = ((a % 2 : Nat) : Int) := by
  have h := u64_and_nat a 1 ha (by omega)
  rw [Nat.and_one_is_mod] at h
  exact h

/-- What a call hands back, whose world keeps all that there was. -/
def Gives (P : Program) (f : FuncId) (args : Array Value) (w : World) (v : Value) : Prop :=
  Calls P f args w fun e w' => e = .returned v ∧ Below w.heap.size w w'

/-- A call that leaves the world alone, inside a region that draws its order (the first one; one behind draws). -/
theorem quiet_l {P : Program} {f : FuncId} {args : Array Value} {w : World} {v : Value}
    (h : ∀ W : World, W.heap = w.heap → Calls P f args W fun e w' => e = .returned v ∧ W = w') (n : Nat) : Calls P f args (w.drewN n) fun e w'' => e = .returned v ∧ ∃ m, w'' = w.drewN m :=
  (h (w.drewN n) rfl).mono fun _ _ ⟨he, hm⟩ => ⟨he, n, hm.symm⟩

theorem Sl.of_heap {w w' : World} {ao : Option Addr} {n c : Nat} {xs : List Nat} (h : Sl w ao n c xs) (e : w'.heap = w.heap) : Sl w' ao n c xs :=
  h.keep (by rw [e]; exact Nat.le_refl _) fun p _ => by simp [World.cell?, e]

end Go.Lb
