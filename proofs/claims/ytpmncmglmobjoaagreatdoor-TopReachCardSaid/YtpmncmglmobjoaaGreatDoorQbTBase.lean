/-
  Plain lemmas on lists of limbs of 32 bits, the lowest first: what a list is worth (val), the one list without a limb 0 at its end that is worth a number (limbs). No program in sight. Words for memory: a slice of limbs that reads as a list of numbers (Sl), a number by value (Sl of its one field), and how these stand in a later world. No program in sight. append of a slice of limbs that is only read (nil, empty or not) onto a row of the call's own. No program in sight. Plain lemmas on lists of limbs that are shifted down. Plain lemmas: how many bits 0 a number has at its end, told by its limbs and by its bits. No program in sight. Plain lemmas on words of 64 bits: masks, fields put in and taken out. No program in sight.
-/
import Derived.WalkKit
import Derived.WalkLawsBesides
import Derived.WalkSpells
import Derived.Lib.Hide
import Derived.Deep.QuietTactic
import Derived.BigQuiet
import Derived.Maps.AppendAt
import Derived.OwnWalk
import Derived.Deep.AppendLies
import Derived.Lib.TrailingZeros
import Derived.Laws.BitsAllLaws
namespace Go.Lb
def val : List Nat → Nat
 | [] => 0
 | x :: xs => x + 4294967296 * val xs
def Ok (xs : List Nat) : Prop := ∀ x ∈ xs, x < 4294967296
def limbsAux : Nat → Nat → List Nat
 | 0, _ => []
 | f + 1, n => if n = 0 then [] else n % 4294967296 :: limbsAux f (n / 4294967296)
def limbs (n : Nat) : List Nat := limbsAux n n
theorem limbsAux_fuel : ∀ (f g n : Nat), n ≤ f → n ≤ g → limbsAux f n = limbsAux g n := by
 intro f
 induction f with
 | zero => intro g n h1 _; have : n = 0 := by omega
           subst this; cases g <;> simp [limbsAux]
 | succ f ih =>
   intro g n h1 h2
   cases g with
   | zero => have : n = 0 := by omega
             subst this; simp [limbsAux]
   | succ g =>
     simp only [limbsAux]
     by_cases h : n = 0
     · simp [h]
     · rw [if_neg h, if_neg h, ih g (n / 4294967296) (by omega) (by omega)]
theorem limbs_zero : limbs 0 = [] := rfl
theorem limbs_pos {n : Nat} (h : n ≠ 0) : limbs n = n % 4294967296 :: limbs (n / 4294967296) := by
 unfold limbs
 obtain ⟨m, rfl⟩ : ∃ m, n = m + 1 := ⟨n - 1, by omega⟩
 rw [limbsAux, if_neg h, limbsAux_fuel m ((m + 1) / 4294967296) _ (by omega) (Nat.le_refl _)]
theorem val_limbs : ∀ (f n : Nat), n ≤ f → val (limbs n) = n := by
 intro f
 induction f with
 | zero => intro n h; have : n = 0 := by omega
           subst this; rfl
 | succ f ih =>
   intro n h
   by_cases h0 : n = 0
   · subst h0; rfl
   · rw [limbs_pos h0, val, ih (n / 4294967296) (by omega)]; omega
theorem val_limbs' (n : Nat) : val (limbs n) = n := val_limbs n n (Nat.le_refl _)
theorem ok_limbs_aux : ∀ (f n : Nat), n ≤ f → Ok (limbs n) := by
 intro f
 induction f with
 | zero => intro n h; have : n = 0 := by omega
           subst this; intro x hx; cases hx
 | succ f ih =>
   intro n h
   by_cases h0 : n = 0
   · subst h0; intro x hx; cases hx
   · rw [limbs_pos h0]
     intro x hx
     rcases List.mem_cons.1 hx with rfl | hx
     · omega
     · exact ih _ (by omega) x hx
theorem ok_limbs (n : Nat) : Ok (limbs n) := ok_limbs_aux n n (Nat.le_refl _)
theorem limbs_eq_nil {n : Nat} : limbs n = [] ↔ n = 0 := by
 constructor
 · intro h
   by_cases h0 : n = 0
   · exact h0
   · rw [limbs_pos h0] at h; cases h
 · rintro rfl; rfl
def Fine (xs : List Nat) : Prop := Ok xs ∧ xs.getLast? ≠ some 0
theorem fine_tail {x : Nat} {xs : List Nat} (h : Fine (x :: xs)) : Fine xs := by
 refine ⟨fun y hy => h.1 y (List.mem_cons_of_mem _ hy), ?_⟩
 cases xs with
 | nil => simp
 | cons y ys => have := h.2; rw [List.getLast?_cons_cons] at this; exact this
theorem val_pos_of_fine : ∀ {xs : List Nat}, Fine xs → xs ≠ [] → 0 < val xs := by
 intro xs
 induction xs with
 | nil => intro _ h; exact absurd rfl h
 | cons x xs ih =>
   intro h _
   by_cases hx : xs = []
   · subst hx
     have := h.2
     simp at this
     simp [val]; omega
   · have := ih (fine_tail h) hx
     simp only [val]; omega
theorem limbs_val : ∀ {xs : List Nat}, Fine xs → limbs (val xs) = xs := by
 intro xs
 induction xs with
 | nil => intro _; rfl
 | cons x xs ih =>
   intro h
   have hp := val_pos_of_fine h (by simp)
   have hx : x < 4294967296 := h.1 x (by simp)
   rw [limbs_pos (by omega)]
   have e1 : val (x :: xs) % 4294967296 = x := by simp only [val]; omega
   have e2 : val (x :: xs) / 4294967296 = val xs := by simp only [val]; omega
   rw [e1, e2, ih (fine_tail h)]
theorem getLast?_limbs_aux : ∀ (f n : Nat), n ≤ f → (limbs n).getLast? ≠ some 0 := by
 intro f
 induction f with
 | zero => intro n h; have : n = 0 := by omega
           subst this; simp [limbs_zero]
 | succ f ih =>
   intro n h
   by_cases h0 : n = 0
   · subst h0; simp [limbs_zero]
   · rw [limbs_pos h0]
     by_cases hq : n / 4294967296 = 0
     · rw [hq, limbs_zero]; simp; omega
     · have := ih (n / 4294967296) (by omega)
       rw [limbs_pos hq] at this ⊢
       rw [List.getLast?_cons_cons]
       exact this
theorem fine_limbs (n : Nat) : Fine (limbs n) := ⟨ok_limbs n, getLast?_limbs_aux n n (Nat.le_refl _)⟩
theorem val_append (xs ys : List Nat) : val (xs ++ ys) = val xs + 4294967296 ^ xs.length * val ys := by
 induction xs with
 | nil => simp [val]
 | cons x xs ih =>
   simp only [List.cons_append, val, ih, List.length_cons, Nat.pow_succ]
   rw [Nat.mul_add, Nat.mul_comm (4294967296 ^ xs.length) 4294967296, Nat.mul_assoc]
   omega
theorem val_lt {xs : List Nat} (h : Ok xs) : val xs < 4294967296 ^ xs.length := by
 induction xs with
 | nil => simp [val]
 | cons x xs ih =>
   have hx : x < 4294967296 := h x (by simp)
   have := ih (fun y hy => h y (List.mem_cons_of_mem _ hy))
   simp only [val, List.length_cons, Nat.pow_succ]
   generalize 4294967296 ^ xs.length = P at *
   omega
theorem ok_take {xs : List Nat} (h : Ok xs) (n : Nat) : Ok (xs.take n) := fun x hx => h x (List.mem_of_mem_take hx)
theorem ok_drop {xs : List Nat} (h : Ok xs) (n : Nat) : Ok (xs.drop n) := fun x hx => h x (List.mem_of_mem_drop hx)
theorem ok_nil : Ok [] := fun _ h => by cases h
theorem ok_append {xs ys : List Nat} (h : Ok xs) (h' : Ok ys) : Ok (xs ++ ys) := fun x hx => (List.mem_append.1 hx).elim (h x) (h' x)
theorem ok_cons {x : Nat} {xs : List Nat} (h : x < 4294967296) (h' : Ok xs) : Ok (x :: xs) := fun y hy => by
 rcases List.mem_cons.1 hy with rfl | hy
 · exact h
 · exact h' y hy
theorem ok_replicate (n : Nat) : Ok (List.replicate n 0) := fun x hx => by
 rw [List.eq_of_mem_replicate hx]; decide
theorem ok_set {xs : List Nat} (h : Ok xs) {v : Nat} (hv : v < 4294967296) (i : Nat) : Ok (xs.set i v) := fun x hx => by
 rcases List.mem_or_eq_of_mem_set hx with hx | rfl
 · exact h x hx
 · exact hv
theorem ok_getD {xs : List Nat} (h : Ok xs) (i : Nat) : xs.getD i 0 < 4294967296 := by
 rw [List.getD_eq_getElem?_getD]
 by_cases hi : i < xs.length
 · rw [List.getElem?_eq_getElem hi]; exact h _ (List.getElem_mem hi)
 · rw [List.getElem?_eq_none (by omega)]; decide
theorem val_replicate (n : Nat) : val (List.replicate n 0) = 0 := by
 induction n with
 | zero => rfl
 | succ n ih => rw [List.replicate_succ, val, ih]
theorem val_zeros {xs : List Nat} (h : ∀ x ∈ xs, x = 0) : val xs = 0 := by
 induction xs with
 | nil => rfl
 | cons x xs ih => rw [val, ih (fun y hy => h y (List.mem_cons_of_mem _ hy)), h x (by simp)]
theorem take_succ_getD {xs : List Nat} {k : Nat} (h : k < xs.length) : xs.take (k + 1) = xs.take k ++ [xs.getD k 0] := by
 rw [List.take_succ_eq_append_getElem h, List.getD_eq_getElem?_getD, List.getElem?_eq_getElem h]; rfl
theorem val_take_succ {xs : List Nat} {k : Nat} (h : k < xs.length) : val (xs.take (k + 1)) = val (xs.take k) + 4294967296 ^ k * xs.getD k 0 := by
 rw [take_succ_getD h, val_append, List.length_take, Nat.min_eq_left (by omega)]; simp [val]
theorem val_split (xs : List Nat) (k : Nat) (h : k ≤ xs.length) : val xs = val (xs.take k) + 4294967296 ^ k * val (xs.drop k) := by
 conv => lhs; rw [← List.take_append_drop k xs]
 rw [val_append, List.length_take, Nat.min_eq_left h]
theorem take_eq_limbs {xs : List Nat} {n : Nat} (hok : Ok xs) (hn : n ≤ xs.length) (hz : ∀ j, n ≤ j → j < xs.length → xs.getD j 0 = 0) (hl : n = 0 ∨ xs.getD (n - 1) 0 ≠ 0) :
 xs.take n = limbs (val xs) := by
 have hd : val (xs.drop n) = 0 := by
  apply val_zeros
  intro x hx
  obtain ⟨i, hi, rfl⟩ := List.getElem_of_mem hx
  have := hz (n + i) (by omega) (by simp at hi; omega)
  rw [List.getD_eq_getElem?_getD, List.getElem?_eq_getElem (by simp at hi; omega)] at this
  simpa using this
 have hv : val xs = val (xs.take n) := by rw [val_split xs n hn, hd]; omega
 rw [hv]
 refine (limbs_val ⟨ok_take hok n, ?_⟩).symm
 rcases hl with rfl | hl
 · simp
 · by_cases h0 : n = 0
   · subst h0; simp
   · rw [List.getLast?_eq_getElem?, List.length_take, Nat.min_eq_left hn, List.getElem?_take, if_pos (by omega)]
     rw [List.getD_eq_getElem?_getD, List.getElem?_eq_getElem (by omega)] at hl
     rw [List.getElem?_eq_getElem (by omega)]
     intro h
     exact hl (by simpa using h)
theorem limbs_length_le {n k : Nat} (h : n < 4294967296 ^ k) : (limbs n).length ≤ k := by
 induction k generalizing n with
 | zero => have : n = 0 := by simpa using h
           subst this; simp [limbs_zero]
 | succ k ih =>
   by_cases h0 : n = 0
   · subst h0; simp [limbs_zero]
   · rw [limbs_pos h0, List.length_cons]
     have := ih (n := n / 4294967296) (by rw [Nat.pow_succ] at h; omega)
     omega
theorem lt_of_limbs_length {n k : Nat} (h : (limbs n).length ≤ k) : n < 4294967296 ^ k := by
 have h1 := val_lt (ok_limbs n)
 rw [val_limbs'] at h1
 exact Nat.lt_of_lt_of_le h1 (Nat.pow_le_pow_right (by decide) h)
theorem limbs_length_le_iff {n k : Nat} : (limbs n).length ≤ k ↔ n < 4294967296 ^ k := ⟨lt_of_limbs_length, limbs_length_le⟩
section
open Go.RowKit
def nth (xs : List Nat) (j : Nat) : Nat := xs.getD j 0
def lv (x : Nat) : Value := .int .u32 (x : Int)
theorem nth_lt {xs : List Nat} (h : Ok xs) (j : Nat) : nth xs j < 4294967296 := ok_getD h j
theorem wrap64_nat (b : Nat) (h : b < 9223372036854775808) : wrap64 (b : Int) = (b : Int) := IntWalk.wrap64_in _ ⟨by omega, by omega⟩
structure Sl (w : World) (ao : Option Addr) (n c : Nat) (xs : List Nat) : Prop where
 len : xs.length = n
 le : n ≤ c
 cap : c ≤ 9223372036854775807
 ok : Ok xs
 at_ : 0 < n → ∃ b o, ao = some ⟨b, o, none⟩ ∧ b < w.heap.size ∧ ∀ j, j < n → w.cell? ⟨b, o + j, none⟩ = some (.int .u32 (nth xs j : Int))
theorem Sl.keep {w w' : World} {ao : Option Addr} {n c : Nat} {xs : List Nat} (h : Sl w ao n c xs) (hs : w.heap.size ≤ w'.heap.size) (hk : ∀ p : Addr, p.block < w.heap.size → w'.cell? p = w.cell? p) : Sl w' ao n c xs :=
 ⟨h.len, h.le, h.cap, h.ok, fun hn => by
  obtain ⟨b, o, e, hb, hc⟩ := h.at_ hn
  exact ⟨b, o, e, Nat.lt_of_lt_of_le hb hs, fun j hj => (hk _ hb).trans (hc j hj)⟩⟩
theorem Sl.below {w w' : World} {ao : Option Addr} {n c : Nat} {xs : List Nat} (h : Sl w ao n c xs) (hb : Below w.heap.size w w') : Sl w' ao n c xs :=
 h.keep hb.size fun _ hp => hb.cell hp
theorem Sl.alloc {w : World} {ao : Option Addr} {n c : Nat} {xs : List Nat} (h : Sl w ao n c xs) (o : Obj) : Sl (w.alloc o) ao n c xs :=
 h.below ((Below.refl _ _).alloc (Nat.le_refl _) o)
theorem Sl.drew {w : World} {ao : Option Addr} {n c : Nat} {xs : List Nat} (h : Sl w ao n c xs) : Sl w.drew ao n c xs := h.keep (Nat.le_refl _) fun _ _ => rfl
theorem bcell {W w1 : World} (hb : Below W.heap.size W w1) : (∀ b o, b < W.heap.size → w1.cell? ⟨b, o, none⟩ = W.cell? ⟨b, o, none⟩) ∧ (∀ b o, b < W.heap.size → w1.frozen? ⟨b, o, none⟩ = W.frozen? ⟨b, o, none⟩) :=
 ⟨fun b o h => hb.cell (p := ⟨b, o, none⟩) h, fun b o h => hb.frozen (p := ⟨b, o, none⟩) h⟩
theorem next {w wp w' : World} (h : Below w.heap.size w wp) (k : Below wp.heap.size wp w') : Below w.heap.size w w' := h.trans (k.mono h.size)
theorem more {w wp : World} (h : Below w.heap.size w wp) (o : Obj) : Below w.heap.size w (wp.alloc o) := h.alloc h.size o
theorem drewn {w wp : World} (h : Below w.heap.size w wp) (k : Nat) : Below w.heap.size w (wp.drewN k) := below_drewN h k
theorem undrew {w w1 : World} (h : Below w.drew.heap.size w.drew w1) : Below w.heap.size w w1 := ⟨h.os, h.tape, h.output, h.size, h.block⟩
theorem bsz2 {w w1 : World} {o o2 : Obj} (hb : Below ((w.alloc o).alloc o2).heap.size ((w.alloc o).alloc o2) w1) : w.heap.size < w1.heap.size ∧ w.heap.size + 1 < w1.heap.size := by have := hb.size; simp at this; exact ⟨by omega, by omega⟩
theorem cellStay {wp w' : World} {p : Addr} {v : Value} (h : wp.cell? p = some v) (k : Below wp.heap.size wp w') : w'.cell? p = some v := (k.cell (World.block_lt_of_cell? wp p h)).trans h
theorem cfStay {wp w' : World} {p : Addr} {v : Value} (h : wp.cell? p = some v ∧ wp.frozen? p = false) (k : Below wp.heap.size wp w') : w'.cell? p = some v ∧ w'.frozen? p = false :=
 ⟨cellStay h.1 k, (k.frozen (World.block_lt_of_cell? wp p h.1)).trans h.2⟩
theorem u32_and_nat (a b : Nat) (ha : a < 4294967296) (hb : b < 4294967296) : bits .and .u32 (a : Int) (b : Int) = ((a &&& b : Nat) : Int) := by
 have hx : a &&& b < 2 ^ 32 := Nat.and_lt_two_pow _ (by omega)
 have h1 : (BitVec.ofInt 32 (a : Int)).toNat = a := by
  rw [BitVec.ofInt_natCast, BitVec.toNat_ofNat]; exact Nat.mod_eq_of_lt (by omega)
 have h2 : (BitVec.ofInt 32 (b : Int)).toNat = b := by
  rw [BitVec.ofInt_natCast, BitVec.toNat_ofNat]; exact Nat.mod_eq_of_lt (by omega)
 show IntKind.u32.wrap ((BitVec.ofInt 32 (a : Int) &&& BitVec.ofInt 32 (b : Int)).toNat : Int) = _
 rw [BitVec.toNat_and, h1, h2, show ∀ n : Int, IntKind.u32.wrap n = n % 4294967296 from fun n => by simp [IntKind.wrap, IntKind.signed, IntKind.bits]]
 omega
theorem u32_and_one (a : Nat) (ha : a < 4294967296) : bits .and .u32 (a : Int) 1 = ((a % 2 : Nat) : Int) := by
 have h := u32_and_nat a 1 ha (by omega)
 rw [Nat.and_one_is_mod] at h
 exact h
theorem u64_and_nat (a b : Nat) (ha : a < 18446744073709551616) (hb : b < 18446744073709551616) : bits .and .u64 (a : Int) (b : Int) = ((a &&& b : Nat) : Int) := by
 have hx : a &&& b < 2 ^ 64 := Nat.and_lt_two_pow _ (by omega)
 have h1 : (BitVec.ofInt 64 (a : Int)).toNat = a := by
  rw [BitVec.ofInt_natCast, BitVec.toNat_ofNat]; exact Nat.mod_eq_of_lt (by omega)
 have h2 : (BitVec.ofInt 64 (b : Int)).toNat = b := by
  rw [BitVec.ofInt_natCast, BitVec.toNat_ofNat]; exact Nat.mod_eq_of_lt (by omega)
 show IntKind.u64.wrap ((BitVec.ofInt 64 (a : Int) &&& BitVec.ofInt 64 (b : Int)).toNat : Int) = _
 rw [BitVec.toNat_and, h1, h2, IntKind.wrap_u64]
 omega
theorem u64_and_one (a : Nat) (ha : a < 18446744073709551616) : bits .and .u64 (a : Int) 1 = ((a % 2 : Nat) : Int) := by
 have h := u64_and_nat a 1 ha (by omega)
 rw [Nat.and_one_is_mod] at h
 exact h
theorem quiet_l {P : Program} {f : FuncId} {args : Array Value} {w : World} {v : Value}
 (h : ∀ W : World, W.heap = w.heap → Calls P f args W fun e w' => e = .returned v ∧ W = w') (n : Nat) : Calls P f args (w.drewN n) fun e w'' => e = .returned v ∧ ∃ m, w'' = w.drewN m :=
 (h (w.drewN n) rfl).mono fun _ _ ⟨he, hm⟩ => ⟨he, n, hm.symm⟩
end
section
open Go.RowKit
def lvs (xs : List Nat) : List Value := xs.map lv
theorem lvs_oneCell (xs : List Nat) : ∀ u ∈ lvs xs, u.oneCell' = true := by
 intro u hu
 obtain ⟨_, _, rfl⟩ := List.mem_map.1 hu
 rfl
theorem lvs_get {xs : List Nat} {j : Nat} {u : Value} (h : (lvs xs)[j]? = some u) : j < xs.length ∧ u = lv (nth xs j) := by
 unfold lvs at h
 rw [List.getElem?_map] at h
 obtain ⟨x, hx, rfl⟩ := Option.map_eq_some_iff.1 h
 obtain ⟨hj, he⟩ := List.getElem?_eq_some_iff.1 hx
 refine ⟨hj, ?_⟩
 unfold nth
 rw [List.getD_eq_getElem?_getD, hx]
 rfl
theorem lvs_at {xs : List Nat} {j : Nat} (h : j < xs.length) : (lvs xs)[j]? = some (lv (nth xs j)) := by
 unfold lvs nth
 rw [List.getElem?_map, List.getD_eq_getElem?_getD, List.getElem?_eq_getElem h]
 rfl
theorem Sl.news {w : World} {a : Addr} {n c : Nat} {xs : List Nat} (h : Sl w (some a) n c xs) : ∀ j u, (lvs xs)[j]? = some u → w.cell? (a.add j) = some u := by
 intro j u hu
 obtain ⟨hj, rfl⟩ := lvs_get hu
 rw [h.len] at hj
 obtain ⟨b, o, e, _, hc⟩ := h.at_ (by omega)
 obtain rfl := Option.some.inj e
 rw [Addr.add_lit]
 exact hc j hj
theorem own_cap {w : World} {base e g n cap : Nat} {xs : List Value} (h : w.ownsRow base e 1 (.slice (some ⟨g, 0, none⟩) n cap) n xs) : n ≤ cap ∧ cap ≤ 9223372036854775807 := by
 rcases h.2 with ⟨h', _⟩ | ⟨g', cap', cur, h', _, _, h1, h2, _⟩
 · cases h'
 · cases h'
   unfold maxLen at h2
   exact ⟨h1, by omega⟩
theorem own_mono {w : World} {base base' e n : Nat} {v : Value} {xs : List Value} (h : w.ownsRow base e 1 v n xs) (hb : base' ≤ base) : w.ownsRow base' e 1 v n xs :=
 ⟨h.1, h.2.imp id fun ⟨g, cap, cur, h1, h2, h3⟩ => ⟨g, cap, cur, h1, Nat.le_trans hb h2, h3⟩⟩
theorem own_cell {w : World} {base e g n cap : Nat} {xs : List Nat} (h : w.ownsRow base e 1 (.slice (some ⟨g, 0, none⟩) n cap) n (lvs xs)) {j : Nat} (hj : j < n) : w.cell? ⟨g, j, none⟩ = some (.int .u32 (nth xs j : Int)) := by
 have hl : xs.length = n := by have := h.1; simpa [lvs] using this
 rw [h.cellAt j (by omega), lvs_at (by omega)]
 rfl
theorem set3 {w : World} {b : Nat} {u0 u1 u2 : Value} (v0 v1 v2 : Value) (h0 : w.cell? ⟨b, 0, none⟩ = some u0) (h1 : w.cell? ⟨b, 1, none⟩ = some u1) (h2 : w.cell? ⟨b, 2, none⟩ = some u2) :
 (((w.setCell ⟨b, 0, none⟩ v0).setCell ⟨b, 1, none⟩ v1).setCell ⟨b, 2, none⟩ v2).cell? ⟨b, 0, none⟩ = some v0 ∧
 (((w.setCell ⟨b, 0, none⟩ v0).setCell ⟨b, 1, none⟩ v1).setCell ⟨b, 2, none⟩ v2).cell? ⟨b, 1, none⟩ = some v1 ∧
 (((w.setCell ⟨b, 0, none⟩ v0).setCell ⟨b, 1, none⟩ v1).setCell ⟨b, 2, none⟩ v2).cell? ⟨b, 2, none⟩ = some v2 := by
 have n01 : (⟨b, 1, none⟩ : Addr) ≠ ⟨b, 0, none⟩ := by simp
 have n02 : (⟨b, 2, none⟩ : Addr) ≠ ⟨b, 0, none⟩ := by simp
 have n12 : (⟨b, 2, none⟩ : Addr) ≠ ⟨b, 1, none⟩ := by simp
 refine ⟨?_, ?_, ?_⟩
 · rw [World.cell?_setCell_other _ _ _ _ n02, World.cell?_setCell_other _ _ _ _ n01]; exact World.cell?_setCell_same _ _ _ h0
 · rw [World.cell?_setCell_other _ _ _ _ n12]; exact World.cell?_setCell_same _ _ _ ((World.cell?_setCell_other _ _ _ _ n01.symm).trans h1)
 · exact World.cell?_setCell_same _ _ _ ((World.cell?_setCell_other _ _ _ _ n12.symm).trans ((World.cell?_setCell_other _ _ _ _ n02.symm).trans h2))
section
variable {P : Program} (w : World)
theorem run_append_sl (base : Nat) (t ty e : TypeId) (i : TypeInfo) (z : Value) (ht : P.underlying t = some (.slice e)) (hi : P.info? e = some i) (hz : i.zero = some z)
 (hsize : i.size = 1) (hby : i.bytes = 4) (hzs : z.cells.size = 1)
 (v : Value) (n : Nat) (xs : List Nat) (hown : w.ownsRow base e 1 v n (lvs xs))
 (ao : Option Addr) (m c : Nat) (ys : List Nat) (hr : Sl w ao m c ys)
 (hbytes : (n + m) * 4 ≤ 140737488355328) (hbase : base ≤ w.heap.size) :
 ∃ v' w', (Builtin.append_ #[t, t] ty #[v, .slice ao m c]).run P w = .ok v' w' ∧ w'.ownsRow base e 1 v' (n + m) (lvs (xs ++ ys)) ∧ w.grownBy w' v.ownBlock ∧
  (v'.ownBlock = v.ownBlock ∨ v'.ownBlock = some w.heap.size) := by
 rcases ao with _ | ad
 · have hm : m = 0 := by
    rcases Nat.eq_zero_or_pos m with h0 | h0
    · exact h0
    · obtain ⟨b, o, h, _⟩ := hr.at_ h0
      cases h
   subst hm
   have hn : ys = [] := List.eq_nil_of_length_eq_zero hr.len
   subst hn
   refine ⟨v, w, ?_, by simpa using hown, World.grownBy.refl w _, .inl rfl⟩
   rcases hown.2 with ⟨rfl, rfl⟩ | ⟨g, cap, cur, rfl, _, _, hnc, _⟩
   · simp [Builtin.append_, run_underlying ht, sizeOf, typeInfo, hi, Builtin.lenOf, Builtin.firstCells]
   · simp [Builtin.append_, run_underlying ht, sizeOf, typeInfo, hi, Builtin.lenOf, Builtin.firstCells, hnc, storeCells]
 · obtain ⟨v', w', hrun, h2, h3, _, h5⟩ := run_append_own_at (P := P) w base t ty e i z 1 4 ht hi hz hsize hby hzs (by decide) v n (lvs xs) hown ad m c (lvs ys) (by simp [lvs, hr.len]) hr.news (lvs_oneCell ys) (by unfold maxLen; omega) hbytes hbase
   exact ⟨v', w', hrun, by rw [show lvs (xs ++ ys) = lvs xs ++ lvs ys from List.map_append ..]; exact h2, h3, h5⟩
theorem wpList_append_sl {ops : Array Oper} {rest : List Oper} {o : Oper} {a : Act} {Q : Exit → Act → World → Prop} (hgd : o.guard = none) (s x : Operand) (t : TypeId)
 (ho : o.op = .call { callee := .builtin .append, args := #[s, x], argTypes := #[t, t] })
 (base : Nat) (e : TypeId) (i : TypeInfo) (z : Value) (ht : P.underlying t = some (.slice e)) (hi : P.info? e = some i) (hz : i.zero = some z)
 (hsize : i.size = 1) (hby : i.bytes = 4) (hzs : z.cells.size = 1)
 (v : Value) (n : Nat) (xs : List Nat) (hs : a.eval s = v) (hown : w.ownsRow base e 1 v n (lvs xs))
 (ao : Option Addr) (m c : Nat) (ys : List Nat) (hx : a.eval x = .slice ao m c) (hr : Sl w ao m c ys)
 (hbytes : (n + m) * 4 ≤ 140737488355328) (hbase : base ≤ w.heap.size)
 (h : ∀ v' w', w'.ownsRow base e 1 v' (n + m) (lvs (xs ++ ys)) → w.grownBy w' v.ownBlock → (v'.ownBlock = v.ownBlock ∨ v'.ownBlock = some w.heap.size) → wpList P ops Q rest (a.put o.dst v') w') : wpList P ops Q (o :: rest) a w := by
 refine wpList_plain hgd fun K hK => ?_
 obtain ⟨v', w', hrun, h2, h3, h4⟩ := run_append_sl (P := P) w base t o.type e i z ht hi hz hsize hby hzs v n xs hown ao m c ys hr hbytes hbase
 unfold Oper.wp execOp
 simp only [ho, resolve, invoke, builtin, Sem.run_bind, Sem.run_pure, Result.andThen_ok, List.map_toArray, List.map_cons, List.map_nil, hs, hx, hrun]
 exact hK _ _ (h v' w' h2 h3 h4)
end
end
def lowL (s : Nat) : List Nat → List Nat
 | [] => []
 | y :: t => (nth t 0 * 4294967296 + y) / 2 ^ s % 4294967296 :: lowL s t
theorem lowL_length (s : Nat) (ys : List Nat) : (lowL s ys).length = ys.length := by
 induction ys with
 | nil => rfl
 | cons y t ih => simp [lowL, ih]
theorem ok_lowL (s : Nat) (ys : List Nat) : Ok (lowL s ys) := by
 induction ys with
 | nil => exact ok_nil
 | cons y t ih => exact ok_cons (by omega) ih
theorem low_step (y t0 r : Nat) {s : Nat} (hs : s < 32) (hy : y < 4294967296) : (t0 * 4294967296 + y) / 2 ^ s % 4294967296 + 4294967296 * ((t0 + 4294967296 * r) / 2 ^ s) = (y + 4294967296 * (t0 + 4294967296 * r)) / 2 ^ s := by
 obtain ⟨D, hD⟩ : ∃ D, (4294967296 : Nat) = D * 2 ^ s := ⟨2 ^ (32 - s), by rw [← Nat.pow_add]; rw [show 32 - s + s = 32 by omega]⟩
 have hp : 0 < 2 ^ s := Nat.two_pow_pos s
 have e1 : (t0 + 4294967296 * r) / 2 ^ s = t0 / 2 ^ s + D * r := by
  rw [show t0 + 4294967296 * r = t0 + (D * r) * 2 ^ s by rw [Nat.mul_right_comm, ← hD], Nat.add_mul_div_right _ _ hp]
 have e2 : (y + 4294967296 * (t0 + 4294967296 * r)) / 2 ^ s = (t0 * 4294967296 + y) / 2 ^ s + 4294967296 * (D * r) := by
  rw [show y + 4294967296 * (t0 + 4294967296 * r) = (t0 * 4294967296 + y) + (4294967296 * (D * r)) * 2 ^ s by
   rw [Nat.mul_assoc, Nat.mul_right_comm D r, ← hD, Nat.mul_add, Nat.mul_comm t0]; omega, Nat.add_mul_div_right _ _ hp]
 have e3 : (t0 * 4294967296 + y) / 2 ^ s / 4294967296 = t0 / 2 ^ s := by
  rw [Nat.div_div_eq_div_mul, Nat.mul_comm (2 ^ s), ← Nat.div_div_eq_div_mul]
  congr 1
  omega
 rw [e1, e2]
 have := Nat.div_add_mod ((t0 * 4294967296 + y) / 2 ^ s) 4294967296
 rw [e3] at this
 rw [Nat.mul_add]
 omega
theorem val_nth0 (t : List Nat) : ∃ r, val t = nth t 0 + 4294967296 * r := by
 cases t with
 | nil => exact ⟨0, rfl⟩
 | cons x t => exact ⟨val t, rfl⟩
theorem val_lowL {s : Nat} (hs : s < 32) {ys : List Nat} (h : Ok ys) : val (lowL s ys) = val ys / 2 ^ s := by
 induction ys with
 | nil => simp [lowL, val]
 | cons y t ih =>
   have hy : y < 4294967296 := h y (by simp)
   rw [lowL, val, ih (fun x hx => h x (List.mem_cons_of_mem _ hx)), val]
   obtain ⟨r, hr⟩ := val_nth0 t
   rw [hr]
   exact low_step y (nth t 0) r hs hy
theorem nth_cons_zero (y : Nat) (t : List Nat) : nth (y :: t) 0 = y := rfl
theorem nth_cons_succ (y : Nat) (t : List Nat) (j : Nat) : nth (y :: t) (j + 1) = nth t j := rfl
theorem nth_lowL (s : Nat) (ys : List Nat) {j : Nat} (h : j < ys.length) : nth (lowL s ys) j = (nth ys (j + 1) * 4294967296 + nth ys j) / 2 ^ s % 4294967296 := by
 induction ys generalizing j with
 | nil => cases h
 | cons y t ih =>
   cases j with
   | zero => rw [lowL, nth_cons_zero, nth_cons_succ, nth_cons_zero]
   | succ j => rw [lowL, nth_cons_succ, ih (by simpa using h), nth_cons_succ, nth_cons_succ]
def tz (N : Nat) : Nat := Lib.ctzFrom N N
theorem tz_spec {N : Nat} (h : N ≠ 0) : ∃ m, N = 2 ^ tz N * (2 * m + 1) := by
 obtain ⟨m, hm, _⟩ := Lib.ctzFrom_spec N N (by omega) Nat.lt_two_pow_self
 exact ⟨m, hm⟩
theorem odd_ne {k d m m' : Nat} (h : 2 ^ k * (2 * m + 1) = 2 ^ (k + (d + 1)) * (2 * m' + 1)) : False := by
 rw [Nat.pow_add, Nat.mul_assoc] at h
 have := Nat.eq_of_mul_eq_mul_left (Nat.two_pow_pos k) h
 rw [Nat.pow_succ, Nat.mul_comm (2 ^ d) 2, Nat.mul_assoc] at this
 omega
theorem tz_unique {N k m : Nat} (h : N = 2 ^ k * (2 * m + 1)) : tz N = k := by
 have h0 : N ≠ 0 := by
  have : 0 < 2 ^ k * (2 * m + 1) := Nat.mul_pos (Nat.two_pow_pos k) (by omega)
  omega
 obtain ⟨m', hm'⟩ := tz_spec h0
 rcases Nat.lt_trichotomy (tz N) k with hl | he | hg
 · obtain ⟨d, hd⟩ : ∃ d, k = tz N + (d + 1) := ⟨k - tz N - 1, by omega⟩
   rw [hd] at h
   exact (odd_ne (hm'.symm.trans h)).elim
 · exact he
 · obtain ⟨d, hd⟩ : ∃ d, tz N = k + (d + 1) := ⟨tz N - k - 1, by omega⟩
   rw [hd] at hm'
   exact (odd_ne (h.symm.trans hm')).elim
theorem tz_odd {N : Nat} (h : N ≠ 0) : N / 2 ^ tz N % 2 = 1 := by
 obtain ⟨m, hm⟩ := tz_spec h
 have : N / 2 ^ tz N = 2 * m + 1 := by
  conv => lhs; arg 1; rw [hm]
  exact Nat.mul_div_cancel_left _ (Nat.two_pow_pos _)
 omega
theorem tz_le_dvd {N j : Nat} (h : N ≠ 0) (hj : j ≤ tz N) : ∃ r, N = 2 ^ j * r := by
 obtain ⟨m, hm⟩ := tz_spec h
 obtain ⟨d, hd⟩ : ∃ d, tz N = j + d := ⟨tz N - j, by omega⟩
 exact ⟨2 ^ d * (2 * m + 1), by conv => lhs; rw [hm, hd, Nat.pow_add, Nat.mul_assoc]⟩
theorem tz_shift {j r : Nat} (h : r ≠ 0) : tz (2 ^ j * r) = j + tz r := by
 obtain ⟨m, hm⟩ := tz_spec h
 refine tz_unique (m := m) ?_
 conv => lhs; rw [hm]
 rw [Nat.pow_add, Nat.mul_assoc]
theorem two_pow_tz_le {N : Nat} (h : N ≠ 0) : 2 ^ tz N ≤ N := by
 obtain ⟨m, hm⟩ := tz_spec h
 conv => rhs; rw [hm]
 exact Nat.le_mul_of_pos_right _ (by omega)
theorem pow32 (i : Nat) : (4294967296 : Nat) ^ i = 2 ^ (32 * i) := by
 rw [Nat.pow_mul]
theorem val_drop (ys : List Nat) {i : Nat} (h : Ok ys) : val (ys.drop i) = val ys / 2 ^ (32 * i) := by
 by_cases hi : i ≤ ys.length
 · have h1 := val_split ys i hi
   have h2 := val_lt (ok_take h i)
   rw [List.length_take, Nat.min_eq_left hi] at h2
   rw [h1, ← pow32, Nat.add_mul_div_left _ _ (Nat.pow_pos (by decide)), Nat.div_eq_of_lt h2, Nat.zero_add]
 · rw [List.drop_of_length_le (by omega)]
   have h2 := val_lt h
   rw [pow32] at h2
   rw [Nat.div_eq_of_lt (Nat.lt_of_lt_of_le h2 (Nat.pow_le_pow_right (by decide) (by omega)))]
   rfl
theorem nth_drop (ys : List Nat) (i j : Nat) : nth (ys.drop i) j = nth ys (i + j) := by
 unfold nth
 rw [List.getD_eq_getElem?_getD, List.getElem?_drop, ← List.getD_eq_getElem?_getD]
theorem val_part (ys : List Nat) {i : Nat} (h : Ok ys) : ∃ r, val ys / 2 ^ (32 * i) = nth ys i + 4294967296 * r := by
 obtain ⟨r, hr⟩ := val_nth0 (ys.drop i)
 rw [nth_drop, Nat.add_zero] at hr
 exact ⟨r, (val_drop ys h).symm.trans hr⟩
def bitL (ys : List Nat) (j : Nat) : Nat := nth ys (j / 32) / 2 ^ (j % 32) % 2
theorem bitL_eq {ys : List Nat} (h : Ok ys) (j : Nat) : bitL ys j = val ys / 2 ^ j % 2 := by
 obtain ⟨r, hr⟩ := val_part ys (i := j / 32) h
 have e : val ys / 2 ^ j = (nth ys (j / 32) + 4294967296 * r) / 2 ^ (j % 32) := by
  rw [← hr, Nat.div_div_eq_div_mul, ← Nat.pow_add]
  congr 2
  omega
 obtain ⟨s, hs⟩ : ∃ s, s = j % 32 := ⟨_, rfl⟩
 have hs32 : s < 32 := by omega
 unfold bitL
 rw [e, ← hs]
 obtain ⟨d, hd⟩ : ∃ d, 32 = s + (d + 1) := ⟨31 - s, by omega⟩
 have e2 : 4294967296 * r = 2 ^ s * (2 * (2 ^ d * r)) := by
  rw [show (4294967296 : Nat) = 2 ^ 32 from rfl, hd, Nat.pow_add, Nat.pow_succ, Nat.mul_comm (2 ^ d) 2, Nat.mul_assoc, Nat.mul_assoc]
 rw [e2, Nat.add_mul_div_left _ _ (Nat.two_pow_pos _)]
 omega
theorem tz_lt {ys : List Nat} (h : Ok ys) (h0 : val ys ≠ 0) : tz (val ys) < 32 * ys.length := by
 have h1 := val_lt h
 have h2 := two_pow_tz_le h0
 rw [pow32] at h1
 exact (Nat.pow_lt_pow_iff_right (by decide)).1 (Nat.lt_of_le_of_lt h2 h1)
theorem tz_next {ys : List Nat} (h : Ok ys) (h0 : val ys ≠ 0) {i : Nat} (hi : 32 * i ≤ tz (val ys)) (hz : nth ys i = 0) : 32 * (i + 1) ≤ tz (val ys) := by
 obtain ⟨q, hq⟩ := tz_le_dvd h0 hi
 obtain ⟨r, hr⟩ := val_part ys (i := i) h
 rw [hq, Nat.mul_div_cancel_left _ (Nat.two_pow_pos _), hz, Nat.zero_add] at hr
 have hr0 : r ≠ 0 := by
  rintro rfl
  rw [hr] at hq
  exact h0 (by simpa using hq)
 rw [hq, hr, show (4294967296 : Nat) = 2 ^ 32 from rfl, tz_shift (by exact Nat.mul_ne_zero (by decide) hr0), tz_shift hr0]
 omega
theorem tz_here {ys : List Nat} (h : Ok ys) (h0 : val ys ≠ 0) {i : Nat} (hi : 32 * i ≤ tz (val ys)) (hz : nth ys i ≠ 0) : tz (val ys) = 32 * i + Lib.ctz 32 (nth ys i) := by
 obtain ⟨q, hq⟩ := tz_le_dvd h0 hi
 obtain ⟨r, hr⟩ := val_part ys (i := i) h
 rw [hq, Nat.mul_div_cancel_left _ (Nat.two_pow_pos _)] at hr
 obtain ⟨m, hm, hc⟩ := Lib.ctzFrom_spec 32 (nth ys i) (by omega) (nth_lt h i)
 have e : Lib.ctz 32 (nth ys i) = Lib.ctzFrom 32 (nth ys i) := by unfold Lib.ctz; rw [if_neg hz]
 rw [← e] at hm hc
 obtain ⟨c, hcc⟩ : ∃ c, c = Lib.ctz 32 (nth ys i) := ⟨_, rfl⟩
 rw [← hcc] at hm hc ⊢
 obtain ⟨d, hd⟩ : ∃ d, 32 = c + (d + 1) := ⟨31 - c, by omega⟩
 have e2 : 4294967296 * r = 2 ^ c * (2 * (2 ^ d * r)) := by
  rw [show (4294967296 : Nat) = 2 ^ 32 from rfl, hd, Nat.pow_add, Nat.pow_succ, Nat.mul_comm (2 ^ d) 2, Nat.mul_assoc, Nat.mul_assoc]
 refine tz_unique (m := m + 2 ^ d * r) ?_
 rw [hq, hr, e2]
 conv => lhs; arg 2; arg 1; rw [hm]
 rw [← Nat.mul_add, Nat.pow_add, Nat.mul_assoc]
 congr 2
 omega
section
open Go.RowKit
def maskN (k : Nat) : Nat := 2 ^ k - 1
def pw (k : Nat) : Nat := 2 ^ k
def biasN (e : Nat) : Nat := 2 ^ (e - 1) - 1
theorem pw_pos (k : Nat) : 0 < pw k := Nat.two_pow_pos k
theorem pw_le {j k : Nat} (h : j ≤ k) : pw j ≤ pw k := Nat.pow_le_pow_right (by decide) h
theorem pw_succ (k : Nat) : pw (k + 1) = 2 * pw k := by unfold pw; rw [Nat.pow_succ]; omega
theorem pw_add (j k : Nat) : pw (j + k) = pw j * pw k := Nat.pow_add 2 j k
theorem maskN_eq (k : Nat) : maskN k = pw k - 1 := rfl
theorem biasN_eq (e : Nat) : biasN e = pw (e - 1) - 1 := rfl
theorem biasN_le {e : Nat} (h : e ≤ 11) : biasN e ≤ 1023 := by
 have := pw_le (j := e - 1) (k := 10) (by omega)
 have e10 : pw 10 = 1024 := rfl
 rw [biasN_eq]; omega
theorem mask_fin : ∀ k : Fin 65, bits BinOp.andNot IntKind.u64 18446744073709551615 (IntKind.u64.wrap (18446744073709551615 * 2 ^ k.val)) = ((2 ^ k.val - 1 : Nat) : Int) := by decide +kernel
theorem mask_bits {k : Nat} (h : k ≤ 64) : bits BinOp.andNot IntKind.u64 18446744073709551615 (IntKind.u64.wrap (18446744073709551615 * 2 ^ k)) = (maskN k : Int) := mask_fin ⟨k, by omega⟩
theorem pw_zero : pw 0 = 1 := rfl
attribute [irreducible] pw maskN biasN
end
end Go.Lb
