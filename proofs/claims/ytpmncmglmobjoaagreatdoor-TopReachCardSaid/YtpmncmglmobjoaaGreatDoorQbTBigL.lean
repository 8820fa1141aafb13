/-
  Words for the contracts of big's words. No program in sight. Plain: a figure of a quotient (Knuth's way): its guess, what is taken off, what is put back. Plain: a quotient, figure by figure. Plain: Euclid's steps of two numbers as their first bits tell them. Plain: sizes of words, common divisors with powers of two. Plain: what the walk of common asks for. Words for the contracts of whole numbers and fractions in cells. No program in sight. Bytes and words of 32 bits: what a loop over bytes has gathered. No program in sight. Answers of methods of whole numbers, fractions in cells. No program in sight.
-/
import Derived.Test.YtpmncmglmobjoaaGreatDoorQbTUps
import Derived.Test.YtpmncmglmobjoaaGreatDoorQbTSplits
import Derived.Laws.CopyOwn
namespace Go.Lb
section
open Go.RowKit
def Wd (e : TypeId) (N : Nat) (w : World) (en : Ending) (w' : World) : Prop :=
 ∃ ao k c, en = .returned (.slice ao k c) ∧ Fr e w' w.heap.size ao k c (limbs N) ∧ Below w.heap.size w w'
theorem own_block {w : World} {base g n : Nat} {e : TypeId} {xs : List Nat} (h : w.heap[g]? = some (.cells (lvs xs).toArray e (0, 0))) (hb : base ≤ g) (hl : xs.length = n) (hn : n ≤ maxLen) : w.ownsRow base e 1 (.slice (some ⟨g, 0, none⟩) n n) n (lvs xs) := by
 refine ⟨by simp [lvs, hl], .inr ⟨g, n, (lvs xs).toArray, rfl, hb, h, Nat.le_refl _, hn, by simp [lvs, hl], ?_⟩⟩
 rw [List.take_of_length_le (by simp [lvs, hl])]
theorem block_own {w : World} {base g n : Nat} {e : TypeId} {xs : List Nat} (h : w.ownsRow base e 1 (.slice (some ⟨g, 0, none⟩) n n) n (lvs xs)) : w.heap[g]? = some (.cells (lvs xs).toArray e (0, 0)) := by
 obtain ⟨h1, h2 | ⟨g', cap, cur, hv, _, hg, _, _, hs, ht⟩⟩ := h
 · cases h2.1
 · cases hv
   rw [hg]
   have hx : cur.toList = lvs xs := by
    rw [← ht, List.take_of_length_le (by simp; omega)]
   rw [← hx]
theorem lvs_cell {w : World} {ao : Option Addr} {n c : Nat} {xs : List Nat} (h : Sl w ao n c xs) (hn : 0 < n) : ∃ ad, ao = some ad ∧ ∀ j v, (lvs xs)[j]? = some v → w.cell? (ad.add j) = some v := by
 obtain ⟨b, o, rfl, _, hc⟩ := h.at_ hn
 refine ⟨_, rfl, fun j v hv => ?_⟩
 have hl := h.len
 have hj : j < n := by
  have := (List.getElem?_eq_some_iff.1 hv).1
  simp [lvs] at this
  omega
 have := hc j hj
 have hv' : v = lv (nth xs j) := by
  simp only [lvs, List.getElem?_map] at hv
  rw [List.getElem?_eq_getElem (by omega)] at hv
  simp only [Option.map_some, Option.some.injEq] at hv
  rw [← hv]
  unfold nth
  rw [List.getD_eq_getElem?_getD, List.getElem?_eq_getElem (by omega)]
  rfl
 rw [hv']
 by_cases hj0 : j = 0
 · subst hj0
   simpa [Addr.add, lv] using this
 · simpa [Addr.add, lv, hj0] using this
theorem u64_or_nat (a b : Nat) (ha : a < 18446744073709551616) (hb : b < 18446744073709551616) : bits .or .u64 (a : Int) (b : Int) = ((a ||| b : Nat) : Int) := by
 have hx : a ||| b < 2 ^ 64 := Nat.or_lt_two_pow (by omega) (by omega)
 have h1 : (BitVec.ofInt 64 (a : Int)).toNat = a := by
  rw [BitVec.ofInt_natCast, BitVec.toNat_ofNat]; exact Nat.mod_eq_of_lt (by omega)
 have h2 : (BitVec.ofInt 64 (b : Int)).toNat = b := by
  rw [BitVec.ofInt_natCast, BitVec.toNat_ofNat]; exact Nat.mod_eq_of_lt (by omega)
 show IntKind.u64.wrap ((BitVec.ofInt 64 (a : Int) ||| BitVec.ofInt 64 (b : Int)).toNat : Int) = _
 rw [BitVec.toNat_or, h1, h2, IntKind.wrap_u64]
 omega
theorem or_disj {x y k : Nat} (hy : y < 2 ^ k) : x * 2 ^ k ||| y = x * 2 ^ k + y := by
 have := Nat.two_pow_add_eq_or_of_lt (i := k) (b := y) hy x
 rw [Nat.mul_comm] at this
 exact this.symm
theorem nth_rep (q j : Nat) (L : List Nat) : nth (List.replicate q 0 ++ L) (j + q) = nth L j := by
 unfold nth
 rw [List.getD_eq_getElem?_getD, List.getD_eq_getElem?_getD, List.getElem?_append_right (by simp)]
 simp
theorem set_rep (q j : Nat) (L : List Nat) (v : Value) : (lvs (List.replicate q 0 ++ L)).set (j + q) v = lvs (List.replicate q 0) ++ (lvs L).set j v := by
 unfold lvs
 rw [List.map_append, List.set_append_right _ _ (by simp)]
 simp
theorem drop_cons {xs : List Nat} {j : Nat} (h : j < xs.length) : xs.drop j = nth xs j :: xs.drop (j + 1) := by
 rw [List.drop_eq_getElem_cons h]
 unfold nth
 rw [List.getD_eq_getElem?_getD, List.getElem?_eq_getElem h]
 rfl
theorem rep_set (j : Nat) (Q : List Nat) (u : Nat) : (lvs (List.replicate (j + 1) 0 ++ Q)).set j (lv u) = lvs (List.replicate j 0 ++ u :: Q) := by
 unfold lvs
 rw [List.replicate_succ', List.append_assoc, List.map_append, List.set_append_right _ _ (by simp)]
 simp
theorem Sl.grown {w w' : World} {ao : Option Addr} {n c : Nat} {xs : List Nat} {row : Option Nat} (h : Sl w ao n c xs) (hg : w.grownBy w' row) (hne : ∀ b o, ao = some ⟨b, o, none⟩ → some b ≠ row) : Sl w' ao n c xs :=
 ⟨h.len, h.le, h.cap, h.ok, fun hn => by
  obtain ⟨b, o, e, hb, hc⟩ := h.at_ hn
  exact ⟨b, o, e, Nat.lt_of_lt_of_le hb hg.size, fun j hj => hg.cell (hc j hj) (hne b o e)⟩⟩
theorem u64_and_low (a : Nat) (ha : a < 18446744073709551616) : bits .and .u64 (a : Int) 4294967295 = ((a % 4294967296 : Nat) : Int) := by
 have h1 : (BitVec.ofInt 64 (a : Int)).toNat = a := by
  rw [BitVec.ofInt_natCast, BitVec.toNat_ofNat]; exact Nat.mod_eq_of_lt (by omega)
 show IntKind.u64.wrap ((BitVec.ofInt 64 (a : Int) &&& BitVec.ofInt 64 4294967295).toNat : Int) = _
 rw [BitVec.toNat_and, h1, show (BitVec.ofInt 64 4294967295).toNat = 2 ^ 32 - 1 from rfl, Nat.and_two_pow_sub_one_eq_mod, IntKind.wrap_u64]
 omega
theorem nth_part {L : List Nat} {o m i : Nat} (h : i < m) : nth ((L.drop o).take m) i = nth L (o + i) := by
 unfold nth
 rw [List.getD_eq_getElem?_getD, List.getD_eq_getElem?_getD, List.getElem?_take, if_pos h, List.getElem?_drop]
theorem part_set {L zs : List Nat} {o i d : Nat} (hz : zs.length = i) (h : o + i < L.length) : (lvs (L.take o ++ (zs ++ L.drop (o + i)))).set (o + i) (lv d) = lvs (L.take o ++ ((zs ++ [d]) ++ L.drop (o + (i + 1)))) := by
 rw [drop_cons h]
 unfold lvs
 rw [List.map_append, List.map_append, List.set_append_right _ _ (by simp; omega), List.set_append_right _ _ (by simp; omega)]
 have e1 : o + i - (List.map lv (L.take o)).length - (List.map lv zs).length = 0 := by simp; omega
 rw [e1]
 simp [Nat.add_assoc]
theorem nth_mid {L zs : List Nat} {o i : Nat} (hz : zs.length = i) (h : o ≤ L.length) : nth (L.take o ++ (zs ++ L.drop (o + i))) (o + i) = nth L (o + i) := by
 unfold nth
 rw [List.getD_eq_getElem?_getD, List.getD_eq_getElem?_getD, List.getElem?_append_right (by simp; omega), List.getElem?_append_right (by simp; omega), List.getElem?_drop]
 congr 2
 simp
 omega
theorem own_drewN {w : World} {base e n : Nat} {v : Value} {xs : List Value} (h : w.ownsRow base e 1 v n xs) (m : Nat) : (w.drewN m).ownsRow base e 1 v n xs := h
theorem grown_drewN {w w' : World} {row : Option Nat} (h : w.grownBy w' row) (m : Nat) : w.grownBy (w'.drewN m) row := ⟨h.os, h.tape, h.output, h.size, h.block⟩
theorem grown_refl (w : World) (row : Option Nat) : w.grownBy w row := ⟨rfl, rfl, rfl, Nat.le_refl _, fun _ _ _ => rfl⟩
end
section
open Go.RowKit
structure Fu (us vs : List Nat) (n : Nat) : Prop where
 hn : 2 ≤ n
 lu : us.length = n + 1
 lv : vs.length = n
 ou : Ok us
 ov : Ok vs
 top : 2147483648 ≤ nth vs (n - 1)
 lt : val us < val vs * 4294967296
theorem Fu.parts {us vs : List Nat} {n : Nat} (h : Fu us vs n) : ∃ P a d, 0 < P ∧ a < P ∧ d < P ∧ val us = a + P * (nth us (n - 2) + 4294967296 * (nth us n * 4294967296 + nth us (n - 1))) ∧ val vs = d + P * (nth vs (n - 2) + 4294967296 * nth vs (n - 1)) ∧ 4294967296 ^ n = P * 18446744073709551616 := by
 obtain ⟨m, rfl⟩ : ∃ m, n = m + 2 := ⟨n - 2, by have := h.hn; omega⟩
 have l1 := h.lu
 have l2 := h.lv
 refine ⟨4294967296 ^ m, val (us.take m), val (vs.take m), Nat.pow_pos (by decide), ?_, ?_, ?_, ?_, ?_⟩
 · have := val_lt (ok_take h.ou m)
   rwa [List.length_take, Nat.min_eq_left (by omega)] at this
 · have := val_lt (ok_take h.ov m)
   rwa [List.length_take, Nat.min_eq_left (by omega)] at this
 · have t1 := val_take_next us m
   have t2 := val_take_next us (m + 1)
   have t3 := val_take_next us (m + 2)
   rw [show us.take (m + 2 + 1) = us from List.take_of_length_le (by omega)] at t3
   have p1 : (4294967296 : Nat) ^ (m + 1) = 4294967296 ^ m * 4294967296 := Nat.pow_succ ..
   have p2 : (4294967296 : Nat) ^ (m + 2) = 4294967296 ^ m * 4294967296 * 4294967296 := by rw [← p1]; exact Nat.pow_succ ..
   rw [t3, t2, t1, p2, p1, show m + 2 - 2 = m by omega, show m + 2 - 1 = m + 1 by omega]
   generalize (4294967296 : Nat) ^ m = P
   generalize nth us m = x
   generalize nth us (m + 1) = y
   generalize nth us (m + 2) = z
   simp only [Nat.mul_add, Nat.mul_assoc, Nat.add_assoc]
   rw [Nat.mul_comm z]
   omega
 · have t1 := val_take_next vs m
   have t2 := val_take_next vs (m + 1)
   rw [show vs.take (m + 1 + 1) = vs from List.take_of_length_le (by omega)] at t2
   rw [t2, t1, Nat.pow_succ, show m + 2 - 2 = m by omega, show m + 2 - 1 = m + 1 by omega, Nat.mul_add, Nat.mul_assoc, Nat.add_assoc]
 · rw [Nat.pow_succ, Nat.pow_succ, Nat.mul_assoc]
structure Fg (us vs : List Nat) (n g r : Nat) : Prop where
 eq : nth us n * 4294967296 + nth us (n - 1) = g * nth vs (n - 1) + r
 ge : val us / val vs ≤ g
 le : g ≤ 4294967297
theorem Fu.vpos {us vs : List Nat} {n : Nat} (h : Fu us vs n) : 0 < val vs := by
 have := h.lt
 rcases Nat.eq_zero_or_pos (val vs) with h0 | h0
 · rw [h0] at this
   omega
 · exact h0
theorem Fu.high {us vs : List Nat} {n : Nat} (h : Fu us vs n) : nth us n ≤ nth vs (n - 1) := by
 obtain ⟨P, a, d, hP, ha, hd, e1, e2, _⟩ := h.parts
 have hl := h.lt
 have hv2 := nth_lt h.ov (n - 2)
 rw [e1, e2] at hl
 generalize nth us n = z at *
 generalize nth us (n - 1) = y at *
 generalize nth us (n - 2) = x at *
 generalize nth vs (n - 1) = t at *
 generalize nth vs (n - 2) = s at *
 refine Classical.byContradiction fun hn => ?_
 have h1 : (t + 1) * 18446744073709551616 ≤ x + 4294967296 * (z * 4294967296 + y) := by omega
 have h2 := Nat.mul_le_mul_left P h1
 have h3 : d + P * (s + 4294967296 * t) < P * ((t + 1) * 4294967296) := by
  have : P * (s + 4294967296 * t) + P ≤ P * ((t + 1) * 4294967296) := by
   rw [← Nat.mul_succ]
   exact Nat.mul_le_mul_left P (by omega)
  omega
 have h4 : P * ((t + 1) * 4294967296) * 4294967296 = P * ((t + 1) * 18446744073709551616) := by
  rw [Nat.mul_assoc, Nat.mul_assoc]
 have h5 := Nat.mul_lt_mul_of_pos_right h3 (show 0 < 4294967296 by decide)
 omega
theorem fg_start {us vs : List Nat} {n : Nat} (h : Fu us vs n) : Fg us vs n ((nth us n * 4294967296 + nth us (n - 1)) / nth vs (n - 1)) ((nth us n * 4294967296 + nth us (n - 1)) % nth vs (n - 1)) := by
 have hh := h.high
 have ht := h.top
 have hu1 := nth_lt h.ou (n - 1)
 have htl := nth_lt h.ov (n - 1)
 obtain ⟨P, a, d, hP, ha, hd, e1, e2, _⟩ := h.parts
 have hu2 := nth_lt h.ou (n - 2)
 refine ⟨?_, ?_, ?_⟩
 · have := Nat.div_add_mod (nth us n * 4294967296 + nth us (n - 1)) (nth vs (n - 1))
   rw [Nat.mul_comm] at this
   exact this.symm
 · rw [Nat.le_div_iff_mul_le (by omega)]
   have hq := Nat.div_mul_le_self (val us) (val vs)
   generalize val us / val vs = q at *
   generalize hnum : nth us n * 4294967296 + nth us (n - 1) = num at *
   refine Classical.byContradiction fun hn => ?_
   have h1 : num + 1 ≤ q * nth vs (n - 1) := by omega
   have h2 : P * 4294967296 * (num + 1) ≤ q * val vs := by
    refine Nat.le_trans (Nat.mul_le_mul_left _ h1) ?_
    rw [e2, Nat.mul_comm (P * 4294967296), Nat.mul_assoc]
    refine Nat.mul_le_mul_left q ?_
    rw [Nat.mul_add, Nat.mul_comm (nth vs (n - 1)), Nat.mul_assoc]
    omega
   rw [e1] at hq
   have h3 : a + P * (nth us (n - 2) + 4294967296 * num) < P * 4294967296 * (num + 1) := by
    have : P * (nth us (n - 2) + 4294967296 * num) + P ≤ P * (4294967296 * (num + 1)) := by
     rw [← Nat.mul_succ]
     exact Nat.mul_le_mul_left P (by omega)
    rw [Nat.mul_assoc]
    omega
   omega
 · generalize nth vs (n - 1) = t at *
   generalize nth us n = z at *
   generalize nth us (n - 1) = y at *
   rw [← Nat.lt_succ_iff, Nat.div_lt_iff_lt_mul (by omega)]
   have h1 : z * 4294967296 ≤ t * 4294967296 := Nat.mul_le_mul_right _ hh
   show z * 4294967296 + y < 4294967298 * t
   omega
theorem fg_over {us vs : List Nat} {n g r : Nat} (h : Fu us vs n) (k : Fg us vs n g r) (hc : 4294967296 ≤ g ∨ r * 4294967296 + nth us (n - 2) < g * nth vs (n - 2)) : val us / val vs < g := by
 have hV := h.vpos
 rcases hc with hc | hc
 · have : val us / val vs < 4294967296 := by
    rw [Nat.div_lt_iff_lt_mul hV, Nat.mul_comm]
    exact h.lt
   omega
 · rw [Nat.div_lt_iff_lt_mul hV]
   obtain ⟨P, a, d, hP, ha, hd, e1, e2, _⟩ := h.parts
   have ke := k.eq
   rw [e1, e2, ke]
   generalize nth us (n - 2) = x at *
   generalize nth vs (n - 1) = t at *
   generalize nth vs (n - 2) = s at *
   have h1 : x + 4294967296 * (g * t + r) + 1 ≤ g * (s + 4294967296 * t) := by
    rw [Nat.mul_add, Nat.mul_add, ← Nat.mul_assoc g, Nat.mul_comm g 4294967296, Nat.mul_assoc]
    omega
   have h2 := Nat.mul_le_mul_left P h1
   rw [Nat.mul_succ] at h2
   rw [Nat.mul_add g, ← Nat.mul_assoc g P, Nat.mul_comm g P, Nat.mul_assoc P]
   omega
theorem fg_step {us vs : List Nat} {n g r : Nat} (h : Fu us vs n) (k : Fg us vs n g r) (hc : 4294967296 ≤ g ∨ r * 4294967296 + nth us (n - 2) < g * nth vs (n - 2)) : 1 ≤ g ∧ Fg us vs n (g - 1) (r + nth vs (n - 1)) := by
 have ho := fg_over h k hc
 refine ⟨Nat.lt_of_le_of_lt (Nat.zero_le _) ho, ⟨?_, Nat.le_sub_one_of_lt ho, by have := k.le; omega⟩⟩
 rw [k.eq]
 obtain ⟨m, rfl⟩ : ∃ m, g = m + 1 := ⟨g - 1, by have := Nat.lt_of_le_of_lt (Nat.zero_le _) ho; omega⟩
 rw [Nat.add_sub_cancel, Nat.succ_mul]
 omega
theorem fg_break {us vs : List Nat} {n g r : Nat} (h : Fu us vs n) (k : Fg us vs n g r) (hr : 4294967296 ≤ r) : g < 4294967296 := by
 have hh := h.high
 have hu1 := nth_lt h.ou (n - 1)
 have ke := k.eq
 refine Classical.byContradiction fun hn => ?_
 have h1 : 4294967296 * nth vs (n - 1) ≤ g * nth vs (n - 1) := Nat.mul_le_mul_right _ (by omega)
 have h2 : nth us n * 4294967296 ≤ nth vs (n - 1) * 4294967296 := Nat.mul_le_mul_right _ hh
 omega
theorem fg_end {us vs : List Nat} {n g r : Nat} (h : Fu us vs n) (k : Fg us vs n g r) (hg : g < 4294967296) (hc : g * nth vs (n - 2) ≤ r * 4294967296 + nth us (n - 2)) : g = val us / val vs ∨ g = val us / val vs + 1 := by
 have hV := h.vpos
 have hge := k.ge
 have htop := h.top
 have hub : g * val vs < val us + val vs := by
  obtain ⟨P, a, d, hP, ha, hd, e1, e2, _⟩ := h.parts
  have ke := k.eq
  rw [e1, ke]
  have hv1 : P * 4294967296 ≤ val vs := by
   rw [e2]
   have := Nat.mul_le_mul_left P (show 4294967296 ≤ nth vs (n - 2) + 4294967296 * nth vs (n - 1) by omega)
   omega
  have hgd : g * d ≤ 4294967295 * d := Nat.mul_le_mul_right _ (by omega)
  have hgd2 : 4294967295 * d < P * 4294967296 := by
   have : d * 4294967296 < P * 4294967296 := Nat.mul_lt_mul_of_pos_right hd (by decide)
   omega
  have hgv : g * val vs = g * d + P * (g * nth vs (n - 2) + 4294967296 * (g * nth vs (n - 1))) := by
   rw [e2, Nat.mul_add, ← Nat.mul_assoc g P, Nat.mul_comm g P, Nat.mul_assoc P, Nat.mul_add g, ← Nat.mul_assoc g 4294967296, Nat.mul_comm g 4294967296, Nat.mul_assoc 4294967296]
  rw [hgv]
  have h1 := Nat.mul_le_mul_left P (show g * nth vs (n - 2) + 4294967296 * (g * nth vs (n - 1)) ≤ nth us (n - 2) + 4294967296 * (g * nth vs (n - 1) + r) by omega)
  omega
 have hlt : val us < (val us / val vs + 1) * val vs := by
  have := Nat.div_add_mod (val us) (val vs)
  have h2 := Nat.mod_lt (val us) hV
  rw [Nat.succ_mul, Nat.mul_comm]
  omega
 generalize val us / val vs = q at *
 refine Classical.byContradiction fun hn => ?_
 have h1 : (q + 1) * val vs + val vs ≤ g * val vs := by
  rw [← Nat.succ_mul]
  exact Nat.mul_le_mul_right _ (by omega)
 omega
structure Ms (us vs : List Nat) (g i : Nat) (zs : List Nat) (c b : Nat) : Prop where
 ok : Ok zs
 len : zs.length = i
 cl : c < 4294967296
 bl : b ≤ 1
 eq : val zs + g * val (vs.take i) = val (us.take i) + 4294967296 ^ i * (c + b)
theorem ms_zero (us vs : List Nat) (g : Nat) : Ms us vs g 0 [] 0 0 := ⟨ok_nil, rfl, by decide, by decide, by simp [val]⟩
def msP (vs : List Nat) (g i c : Nat) : Nat := g * nth vs i + c
def msD (us vs : List Nat) (g i c b : Nat) : Nat := (nth us i + 8589934592 - msP vs g i c % 4294967296 - b) % 4294967296
def msB (us vs : List Nat) (g i c b : Nat) : Nat := if nth us i < msP vs g i c % 4294967296 + b then 1 else 0
theorem msP_lt {vs : List Nat} {g i c : Nat} (hv : Ok vs) (hg : g < 4294967296) (hc : c < 4294967296) : msP vs g i c ≤ 18446744069414584320 := by
 unfold msP
 have h1 := nth_lt hv i
 have h2 : g * nth vs i ≤ 4294967295 * 4294967295 := Nat.mul_le_mul (by omega) (by omega)
 omega
theorem Ms.next {us vs zs : List Nat} {g i c b : Nat} (h : Ms us vs g i zs c b) (hu : Ok us) (hv : Ok vs) (hg : g < 4294967296) :
 Ms us vs g (i + 1) (zs ++ [msD us vs g i c b]) (msP vs g i c / 4294967296) (msB us vs g i c b) := by
 have hp := msP_lt (i := i) hv hg h.cl
 have hx := nth_lt hu i
 have hb := h.bl
 have hD : msD us vs g i c b < 4294967296 := Nat.mod_lt _ (by decide)
 have key : msD us vs g i c b + g * nth vs i + (c + b) = nth us i + 4294967296 * (msP vs g i c / 4294967296 + msB us vs g i c b) := by
  have hm : g * nth vs i = msP vs g i c - c := by unfold msP; omega
  have hle : c ≤ msP vs g i c := by unfold msP; omega
  unfold msD msB
  rw [hm]
  generalize msP vs g i c = p at *
  split <;> omega
 refine ⟨ok_append h.ok (ok_cons hD ok_nil), by rw [List.length_append, h.len]; rfl, by omega, by unfold msB; split <;> omega, ?_⟩
 rw [val_snoc, h.len, val_take_next vs, val_take_next us, Nat.pow_succ, Nat.mul_add g, ← Nat.mul_assoc g, Nat.mul_comm g (4294967296 ^ i), Nat.mul_assoc (4294967296 ^ i) g, Nat.mul_assoc (4294967296 ^ i) 4294967296]
 have he := h.eq
 have h2 := congrArg (fun z => 4294967296 ^ i * z) key
 simp only [Nat.mul_add] at h2 he ⊢
 omega
theorem ms_right {us vs zs : List Nat} {n g c b : Nat} (hF : Fu us vs n) (h : Ms us vs g n zs c b) (hg : g = val us / val vs ∨ g = val us / val vs + 1) (hn : c + b ≤ nth us n) : nth us n = c + b ∧ g = val us / val vs ∧ val zs = val us % val vs := by
 have hV := hF.vpos
 have hz := val_lt h.ok
 have hv := val_lt hF.ov
 rw [h.len] at hz
 rw [hF.lv] at hv
 have e := h.eq
 rw [show vs.take n = vs from List.take_of_length_le (by rw [hF.lv]; exact Nat.le_refl _)] at e
 have hu := val_take_next us n
 rw [show us.take (n + 1) = us from List.take_of_length_le (by rw [hF.lu]; exact Nat.le_refl _)] at hu
 obtain ⟨k, hk⟩ : ∃ k, nth us n = c + b + k := ⟨nth us n - (c + b), by omega⟩
 rw [hk, Nat.mul_add] at hu
 have hmain : val zs + 4294967296 ^ n * k + g * val vs = val us := by omega
 have hle : g * val vs ≤ val us := by omega
 have hgq : g = val us / val vs := by
  rcases hg with hg | hg
  · exact hg
  · have := (Nat.le_div_iff_mul_le hV).2 hle
    rw [hg] at this
    exact absurd this (Nat.not_succ_le_self _)
 have hdm := Nat.div_add_mod (val us) (val vs)
 have hml := Nat.mod_lt (val us) hV
 rw [hgq, Nat.mul_comm (val us / val vs)] at hmain
 have h3 : val zs + 4294967296 ^ n * k = val us % val vs := by omega
 have hk0 : k = 0 := by
  refine Classical.byContradiction fun h0 => ?_
  have := Nat.mul_le_mul_left (4294967296 ^ n) (show 1 ≤ k by omega)
  omega
 rw [hk0, Nat.mul_zero, Nat.add_zero] at h3
 exact ⟨by omega, hgq, h3⟩
theorem ms_over {us vs zs : List Nat} {n g c b : Nat} (hF : Fu us vs n) (h : Ms us vs g n zs c b) (hg : g = val us / val vs ∨ g = val us / val vs + 1) (hn : nth us n < c + b) : nth us n + 1 = c + b ∧ g = val us / val vs + 1 ∧ val zs + val vs = 4294967296 ^ n + val us % val vs := by
 have hV := hF.vpos
 have hz := val_lt h.ok
 have hv := val_lt hF.ov
 rw [h.len] at hz
 rw [hF.lv] at hv
 have e := h.eq
 rw [show vs.take n = vs from List.take_of_length_le (by rw [hF.lv]; exact Nat.le_refl _)] at e
 have hu := val_take_next us n
 rw [show us.take (n + 1) = us from List.take_of_length_le (by rw [hF.lu]; exact Nat.le_refl _)] at hu
 obtain ⟨k, hk⟩ : ∃ k, c + b = nth us n + 1 + k := ⟨c + b - (nth us n + 1), by omega⟩
 rw [hk, Nat.mul_add, Nat.mul_add, Nat.mul_one] at e
 have hdm := Nat.div_add_mod (val us) (val vs)
 have hml := Nat.mod_lt (val us) hV
 have hmain : val zs + g * val vs = val us + 4294967296 ^ n + 4294967296 ^ n * k := by omega
 have hgq : g = val us / val vs + 1 := by
  rcases hg with hg | hg
  · rw [hg, Nat.mul_comm (val us / val vs)] at hmain
    omega
  · exact hg
 rw [hgq, Nat.succ_mul, Nat.mul_comm (val us / val vs)] at hmain
 have hk0 : k = 0 := by
  refine Classical.byContradiction fun h0 => ?_
  have := Nat.mul_le_mul_left (4294967296 ^ n) (show 1 ≤ k by omega)
  omega
 rw [hk0, Nat.mul_zero, Nat.add_zero] at hmain
 exact ⟨by omega, hgq, by omega⟩
end
section
open Go.RowKit
theorem fine_top {ys : List Nat} (hf : Fine ys) (h0 : ys.length ≠ 0) : nth ys (ys.length - 1) ≠ 0 := by
 intro hh
 have hl := hf.2
 rw [List.getLast?_eq_getElem?] at hl
 unfold nth at hh
 rw [List.getD_eq_getElem?_getD, List.getElem?_eq_getElem (by omega)] at hh
 rw [List.getElem?_eq_getElem (by omega)] at hl
 exact hl (congrArg some hh)
theorem norm_top {ys : List Nat} (hf : Fine ys) {n s : Nat} (hn : ys.length = n) (h0 : n ≠ 0) (hs : s = 32 - Lib.bitLen (nth ys (n - 1))) :
 s < 32 ∧ 4294967296 ^ (n - 1) * 2147483648 ≤ val ys * 2 ^ s ∧ val ys * 2 ^ s < 4294967296 ^ n ∧ 4294967296 ^ (n - 1) * 2 ^ s ≤ val ys * 2 ^ s := by
 have ht := fine_top hf (by omega)
 rw [hn] at ht
 have hlt := nth_lt hf.1 (n - 1)
 obtain ⟨b1, b2, b3⟩ := Lib.bitLenAux_bounds 64 (nth ys (n - 1)) (by omega) ht
 have hb : Lib.bitLen (nth ys (n - 1)) = Lib.bitLenAux 64 (nth ys (n - 1)) := rfl
 rw [← hb] at b1 b2 b3
 have hb32 := Lib.bitLen_le (nth ys (n - 1)) 32 (by decide) hlt
 have hv := val_take_next ys (n - 1)
 rw [show n - 1 + 1 = n by omega, List.take_of_length_le (by omega)] at hv
 have hlo := val_lt (ok_take hf.1 (n - 1))
 rw [List.length_take, Nat.min_eq_left (by omega)] at hlo
 have hpn : (4294967296 : Nat) ^ n = 4294967296 ^ (n - 1) * 4294967296 := by
  rw [← Nat.pow_succ]
  congr 1
  omega
 generalize nth ys (n - 1) = t at *
 generalize Lib.bitLen t = bl at *
 rw [hpn]
 have hP := Nat.pow_pos (n := n - 1) (show 0 < 4294967296 by decide)
 generalize (4294967296 : Nat) ^ (n - 1) = P at *
 have e1 : 2 ^ (bl - 1) * 2 ^ s = 2147483648 := by
  rw [← Nat.pow_add, show bl - 1 + s = 31 by omega]
 have e2 : 2 ^ bl * 2 ^ s = 4294967296 := by
  rw [← Nat.pow_add, show bl + s = 32 by omega]
 refine ⟨by omega, ?_, ?_, ?_⟩
 · rw [← e1, ← Nat.mul_assoc]
   refine Nat.mul_le_mul_right _ ?_
   have := Nat.mul_le_mul_left P b2
   omega
 · have h1 := Nat.mul_le_mul_left P (show t + 1 ≤ 2 ^ bl by omega)
   rw [Nat.mul_add, Nat.mul_one] at h1
   have h2 : val ys < P * 2 ^ bl := by omega
   have h3 := Nat.mul_lt_mul_of_pos_right h2 (Nat.two_pow_pos s)
   rwa [Nat.mul_assoc, e2] at h3
 · refine Nat.mul_le_mul_right _ ?_
   have := Nat.mul_le_mul_left P (show 1 ≤ t by omega)
   omega
theorem limbs_len {N n : Nat} (h1 : 4294967296 ^ (n - 1) ≤ N) (h2 : N < 4294967296 ^ n) : (limbs N).length = n := by
 have a := limbs_length_le h2
 refine Classical.byContradiction fun hn => ?_
 have b := lt_of_limbs_length (n := N) (k := n - 1) (by omega)
 omega
theorem top_big {N n : Nat} (h1 : 4294967296 ^ (n - 1) * 2147483648 ≤ N) (hl : (limbs N).length = n) (h0 : n ≠ 0) : 2147483648 ≤ nth (limbs N) (n - 1) := by
 have hv := val_take_next (limbs N) (n - 1)
 rw [show n - 1 + 1 = n by omega, List.take_of_length_le (by omega), val_limbs'] at hv
 have hlo := val_lt (ok_take (ok_limbs N) (n - 1))
 rw [List.length_take, Nat.min_eq_left (by omega)] at hlo
 generalize nth (limbs N) (n - 1) = t at *
 generalize (4294967296 : Nat) ^ (n - 1) = P at *
 refine Classical.byContradiction fun hn => ?_
 have := Nat.mul_le_mul_left P (show t + 1 ≤ 2147483648 by omega)
 rw [Nat.mul_add, Nat.mul_one] at this
 omega
structure Dv (A V M k : Nat) (U Q : List Nat) : Prop where
 okU : Ok U
 okQ : Ok Q
 lenQ : Q.length + k = M
 eq : A = val Q * 4294967296 ^ k * V + val U
 lt : val (U.drop k) < V
theorem drop_nought {T : List Nat} {n V : Nat} (h : val T < V) (hV : V ≤ 4294967296 ^ n) : val (T.drop n) = 0 := by
 by_cases hl : n ≤ T.length
 · have := val_split T n hl
   refine Classical.byContradiction fun hn => ?_
   have h1 := Nat.mul_le_mul_left (4294967296 ^ n) (show 1 ≤ val (T.drop n) by omega)
   omega
 · rw [List.drop_of_length_le (by omega)]
   rfl
theorem Dv.window {A M j n : Nat} {U Q vs : List Nat} (h : Dv A (val vs) M (j + 1) U Q) (hn : 2 ≤ n) (hU : j + n + 1 ≤ U.length) (hvl : vs.length = n) (hvo : Ok vs) (htop : 2147483648 ≤ nth vs (n - 1)) :
 Fu ((U.drop j).take (n + 1)) vs n ∧ val ((U.drop j).take (n + 1)) = val (U.drop j) ∧ val (U.drop (j + (n + 1))) = 0 := by
 have hV : val vs ≤ 4294967296 ^ n := by
  have := val_lt hvo
  rw [hvl] at this
  omega
 have hz : val (U.drop (j + (n + 1))) = 0 := by
  have := drop_nought h.lt hV
  rwa [List.drop_drop, show j + 1 + n = j + (n + 1) by omega] at this
 have hT := drop_cons (xs := U) (j := j) (by omega)
 have hx := nth_lt h.okU j
 have hvT : val (U.drop j) = nth U j + 4294967296 * val (U.drop (j + 1)) := by rw [hT]; rfl
 have hlt := h.lt
 have hs := val_split (U.drop j) (n + 1) (by rw [List.length_drop]; omega)
 rw [List.drop_drop, hz, Nat.mul_zero, Nat.add_zero] at hs
 refine ⟨⟨hn, by rw [List.length_take, List.length_drop]; omega, hvl, ok_take (ok_drop h.okU _) _, hvo, htop, ?_⟩, hs.symm, hz⟩
 rw [← hs, hvT]
 omega
theorem Dv.next {A M j n V : Nat} {U Q R : List Nat} (h : Dv A V M (j + 1) U Q) (hU : j + n + 1 ≤ U.length) (hz : val (U.drop (j + (n + 1))) = 0) (hV : 0 < V) (hR : val R = val (U.drop j) % V) (hRl : R.length = n) (hRo : Ok R) (hq : val (U.drop j) / V < 4294967296) :
 Dv A V M j (U.take j ++ ((R ++ [0]) ++ U.drop (j + (n + 1)))) (val (U.drop j) / V :: Q) := by
 have hR0 : val (R ++ [0]) = val R := by
  rw [val_snoc]
  omega
 have htail : val ((R ++ [0]) ++ U.drop (j + (n + 1))) = val R := by rw [val_append, hz, hR0]; omega
 have hlt : (U.take j).length = j := by rw [List.length_take]; omega
 refine ⟨ok_append (ok_take h.okU _) (ok_append (ok_append hRo (ok_cons (by decide) ok_nil)) (ok_drop h.okU _)), ok_cons hq h.okQ, by have := h.lenQ; simp only [List.length_cons]; omega, ?_, ?_⟩
 · have he := h.eq
   have hs := val_split U j (by omega)
   rw [val_append, htail, hlt, hR]
   have hdm := Nat.div_add_mod (val (U.drop j)) V
   generalize val (U.drop j) = T at *
   generalize T / V = q at *
   generalize T % V = r at *
   show A = (q + 4294967296 * val Q) * 4294967296 ^ j * V + (val (U.take j) + 4294967296 ^ j * r)
   rw [he, hs, ← hdm, Nat.pow_succ]
   generalize (4294967296 : Nat) ^ j = P
   generalize val Q = x
   generalize val (U.take j) = y
   rw [Nat.add_mul, Nat.add_mul, Nat.mul_add P]
   have e1 : x * (P * 4294967296) * V = 4294967296 * x * P * V := by
    rw [Nat.mul_comm P, ← Nat.mul_assoc, Nat.mul_comm x]
   have e2 : q * P * V = P * (V * q) := by rw [Nat.mul_comm q, Nat.mul_assoc, Nat.mul_comm q]
   omega
 · rw [List.drop_left' hlt, htail, hR]
   exact Nat.mod_lt _ hV
theorem Dv.done {A V M : Nat} {U Q : List Nat} (h : Dv A V M 0 U Q) : val Q = A / V ∧ val U = A % V := by
 have he := h.eq
 have hl := h.lt
 rw [List.drop_zero] at hl
 rw [Nat.pow_zero, Nat.mul_one] at he
 rw [he]
 constructor
 · rw [Nat.mul_comm, Nat.mul_add_div (by omega), Nat.div_eq_of_lt hl, Nat.add_zero]
 · rw [Nat.mul_comm, Nat.mul_add_mod, Nat.mod_eq_of_lt hl]
theorem dv_start {A V M : Nat} {U : List Nat} (hU : Ok U) (hv : val U = A) (h : A < V * 4294967296 ^ M) : Dv A V M M U [] := by
 refine ⟨hU, ok_nil, by simp, by simp [val, hv], ?_⟩
 rw [val_drop _ hU, ← pow32, hv]
 exact Nat.div_lt_of_lt_mul (by rw [Nat.mul_comm]; exact h)
theorem take_limbs {ys : List Nat} (hok : Ok ys) : ys.take (limbs (val ys)).length = limbs (val ys) := by
 have key : ∀ m, m ≤ ys.length → (∀ j, m ≤ j → j < ys.length → nth ys j = 0) → ys.take (limbs (val ys)).length = limbs (val ys) := by
  intro m
  induction m with
  | zero =>
    intro h0 hz
    have := take_eq_limbs hok h0 hz (.inl rfl)
    rw [← this]
    simp
  | succ m ih =>
    intro h0 hz
    by_cases h : nth ys m = 0
    · refine ih (by omega) fun j h1 h2 => ?_
      by_cases hj : j = m
      · rw [hj]; exact h
      · exact hz j (by omega) h2
    · have := take_eq_limbs hok h0 hz (.inr h)
      have hl : (limbs (val ys)).length = m + 1 := by rw [← this, List.length_take]; omega
      rw [hl]
      exact this
 exact key ys.length (Nat.le_refl _) (fun j h1 h2 => absurd h2 (by omega))
end
section
open Go.RowKit
structure Eu (A B X Y x y u0 u1 u2 v0 v1 v2 : Nat) (e : Bool) (P Q : Nat) : Prop where
 hX : X = v2 * x + v1 * y
 hY : Y = u2 * x + u1 * y
 yx : y ≤ x
 xp : 1 ≤ x
 uv : u2 ≤ v2
 uvs : u1 + u2 ≤ v1 + v2
 vp : 1 ≤ v2
 b1 : u0 ≤ 1073741824
 b2 : u1 ≤ 1073741824
 b3 : v0 ≤ 1073741824
 b4 : v1 ≤ 1073741824
 vv : v1 ≤ v2
 detF : e = false → u1 * v2 = u2 * v1 + 1
 detT : e = true → u2 * v1 = u1 * v2 + 1
 rqF : e = false → Q + v1 * B = u1 * A
 rqT : e = true → Q + u1 * A = v1 * B
 rpF : v0 ≠ 0 → e = false → P + u0 * A = v0 * B
 rpT : v0 ≠ 0 → e = true → P + v0 * B = u0 * A
 cA : v0 ≠ 0 → A = v1 * P + v0 * Q
 cB : v0 ≠ 0 → B = u1 * P + u0 * Q
 qp : v0 ≠ 0 → Q ≤ P
 st : v1 ≠ 0 → Q ≤ B
 lt : v0 ≠ 0 → Q < B
 uv1 : v1 ≠ 0 → u1 ≤ v1
 first : v1 = 0 → e = false ∧ u1 = 1 ∧ u2 = 0 ∧ v2 = 1
theorem eu_start {A B X Y : Nat} (h : Y ≤ X) (hx : 1 ≤ X) : Eu A B X Y X Y 0 1 0 0 0 1 false 0 A := by
 constructor <;> first | omega | simp
theorem Eu.left {A B X Y x y u0 u1 u2 v0 v1 v2 N s t : Nat} {e : Bool} {P Q : Nat} (h : Eu A B X Y x y u0 u1 u2 v0 v1 v2 e P Q) (hA : A = X * N + s) (hB : B = Y * N + t) (hs : s < N) (ht : t < N) (c1 : v2 ≤ y) (c2 : v1 + v2 ≤ x - y) :
 ∃ R, (e = false → R + u2 * A = v2 * B) ∧ (e = true → R + v2 * B = u2 * A) ∧ R < Q := by
 have hx : x = (x - y) + y := by have := h.yx; omega
 obtain ⟨d, hd⟩ : ∃ d, d = x - y := ⟨_, rfl⟩
 rw [← hd] at hx c2
 have uv := h.uv
 have uvs := h.uvs
 have vp := h.vp
 have m1 : u2 * s ≤ v2 * s := Nat.mul_le_mul_right _ uv
 have m2 : v2 * s ≤ v2 * N := Nat.mul_le_mul_left _ (by omega)
 have m3 : v2 * t ≤ v2 * N := Nat.mul_le_mul_left _ (by omega)
 have m4 : v2 * N ≤ y * N := Nat.mul_le_mul_right _ c1
 have m5 : (v1 + v2) * N ≤ d * N := Nat.mul_le_mul_right _ c2
 have m6 : (u1 + u2) * s ≤ (v1 + v2) * s := Nat.mul_le_mul_right _ uvs
 have m7 : (v1 + v2) * s < (v1 + v2) * N := Nat.mul_lt_mul_of_pos_left hs (by omega)
 have m8 : (v1 + v2) * t < (v1 + v2) * N := Nat.mul_lt_mul_of_pos_left ht (by omega)
 have m9 : u2 * t ≤ v2 * t := Nat.mul_le_mul_right _ uv
 have hX := h.hX
 have hY := h.hY
 cases he : e
 · have det := h.detF he
   have rq := h.rqF he
   have e1 : v2 * B = y * N + u2 * A + v2 * t - u2 * s ∧ u2 * s ≤ y * N + u2 * A + v2 * t := by
    have : v2 * Y = y + u2 * X := by rw [hX, hY]; clear hX hY hA hB m1 m2 m3 m4 m5 m6 m7 m8 m9; grind
    have e2 : v2 * B + u2 * s = y * N + u2 * A + v2 * t := by rw [hA, hB]; clear hX hY hA hB m1 m2 m3 m4 m5 m6 m7 m8 m9; grind
    omega
   have e3 : Q + v1 * t = x * N + u1 * s := by
    have : u1 * X = x + v1 * Y := by rw [hX, hY]; clear hX hY hA hB m1 m2 m3 m4 m5 m6 m7 m8 m9; grind
    rw [hA, hB] at rq
    clear hX hY hA hB m1 m2 m3 m4 m5 m6 m7 m8 m9
    grind
   refine ⟨v2 * B - u2 * A, fun _ => by omega, (fun hh => by cases hh), ?_⟩
   rw [hx, Nat.add_mul] at e3
   rw [Nat.add_mul] at m5 m6 m7 m8
   rw [Nat.add_mul] at m6 m7 m8
   omega
 · have det := h.detT he
   have rq := h.rqT he
   have e1 : u2 * A = y * N + v2 * B + u2 * s - v2 * t ∧ v2 * t ≤ y * N + v2 * B + u2 * s := by
    have : u2 * X = y + v2 * Y := by rw [hX, hY]; clear hX hY hA hB m1 m2 m3 m4 m5 m6 m7 m8 m9; grind
    have e2 : u2 * A + v2 * t = y * N + v2 * B + u2 * s := by rw [hA, hB]; clear hX hY hA hB m1 m2 m3 m4 m5 m6 m7 m8 m9; grind
    omega
   have e3 : Q + u1 * s = x * N + v1 * t := by
    have : v1 * Y = x + u1 * X := by rw [hX, hY]; clear hX hY hA hB m1 m2 m3 m4 m5 m6 m7 m8 m9; grind
    rw [hA, hB] at rq
    clear hX hY hA hB m1 m2 m3 m4 m5 m6 m7 m8 m9
    grind
   refine ⟨u2 * A - v2 * B, (fun hh => by cases hh), fun _ => by omega, ?_⟩
   rw [hx, Nat.add_mul] at e3
   rw [Nat.add_mul] at m5 m6 m7 m8
   rw [Nat.add_mul] at m6 m7 m8
   omega
theorem Eu.small {A B X Y x y u0 u1 u2 v0 v1 v2 : Nat} {e : Bool} {P Q : Nat} (h : Eu A B X Y x y u0 u1 u2 v0 v1 v2 e P Q) (hXl : X < 1152921504606846976) (c1 : v2 ≤ y) (c2 : v1 + v2 ≤ x - y) : v2 ≤ 1073741824 := by
 refine Classical.byContradiction fun hh => ?_
 have hX := h.hX
 have h1 := Nat.mul_le_mul (show 1073741824 ≤ v2 by omega) (show 1073741824 ≤ x by omega)
 have h2 := Nat.zero_le (v1 * y)
 omega
theorem Eu.v2l {A B X Y x y u0 u1 u2 v0 v1 v2 : Nat} {e : Bool} {P Q : Nat} (h : Eu A B X Y x y u0 u1 u2 v0 v1 v2 e P Q) (hXl : X < 1152921504606846976) : v2 < 1152921504606846976 ∧ u2 < 1152921504606846976 := by
 have hX := h.hX
 have h1 := Nat.mul_le_mul_left v2 h.xp
 have := h.uv
 omega
theorem Eu.next {A B X Y x y u0 u1 u2 v0 v1 v2 N s t : Nat} {e : Bool} {P Q : Nat} (h : Eu A B X Y x y u0 u1 u2 v0 v1 v2 e P Q) (hXl : X < 1152921504606846976) (hA : A = X * N + s) (hB : B = Y * N + t) (hs : s < N) (ht : t < N) (c1 : v2 ≤ y) (c2 : v1 + v2 ≤ x - y) :
 ∃ R, Eu A B X Y y (x - x / y * y) u1 u2 (u1 + x / y * u2) v1 v2 (v1 + x / y * v2) (!e) Q R := by
 obtain ⟨R, r1, r2, r3⟩ := h.left hA hB hs ht c1 c2
 have hv := h.small hXl c1 c2
 have vp := h.vp
 have uv := h.uv
 have uvs := h.uvs
 have yx := h.yx
 have hy1 : 1 ≤ y := by omega
 have hdm := Nat.div_add_mod x y
 have hml := Nat.mod_lt x (show 0 < y by omega)
 have hq1 : 1 ≤ x / y := (Nat.le_div_iff_mul_le (by omega)).2 (by omega)
 rw [Nat.mul_comm] at hdm
 obtain ⟨q, hq⟩ : ∃ q, q = x / y := ⟨_, rfl⟩
 obtain ⟨z, hz⟩ : ∃ z, z = x - x / y * y := ⟨_, rfl⟩
 rw [← hz]
 rw [← hq] at hdm hq1 hz ⊢
 have hxz : x = q * y + z := by omega
 have k1 : q * u2 ≤ q * v2 := Nat.mul_le_mul_left _ uv
 have k2 : 1 * v2 ≤ q * v2 := Nat.mul_le_mul_right _ hq1
 have b5 : u1 + q * u2 ≤ v1 + q * v2 := by
  by_cases h0 : v1 = 0
  · obtain ⟨_, f1, f2, f3⟩ := h.first h0
    rw [f1, f2, f3]
    omega
  · have := h.uv1 h0
    omega
 have zy : z ≤ y := by
  have : z = x % y := by omega
  omega
 have hX := h.hX
 have hY := h.hY
 have b2 := h.b2
 have b4 := h.b4
 have rqF := h.rqF
 have rqT := h.rqT
 have detF := h.detF
 have detT := h.detT
 have hQB : v2 ≠ 0 → R ≤ B := by
  intro _
  by_cases h0 : v1 = 0
  · obtain ⟨f0, f1, f2, f3⟩ := h.first h0
    have := r1 f0
    rw [f2, f3] at this
    omega
  · have := h.st h0
    omega
 have hst := h.st
 clear hdm hml hq hz h
 refine ⟨R, ?_⟩
 constructor
 · clear hY hA hB detF detT rqF rqT r1 r2; subst hxz; grind
 · clear hX hA hB detF detT rqF rqT r1 r2; subst hxz; grind
 · exact zy
 · exact hy1
 · exact b5
 · omega
 · omega
 · exact b2
 · omega
 · exact b4
 · exact hv
 · omega
 · intro he
   have := detT (by cases e <;> simp at he ⊢)
   clear hX hY hA hB detF detT rqF rqT r1 r2 k1 k2
   grind
 · intro he
   have := detF (by cases e <;> simp at he ⊢)
   clear hX hY hA hB detF detT rqF rqT r1 r2 k1 k2
   grind
 · intro he
   exact r2 (by cases e <;> simp at he ⊢)
 · intro he
   exact r1 (by cases e <;> simp at he ⊢)
 · intro h0 he
   exact rqT (by cases e <;> simp at he ⊢)
 · intro h0 he
   exact rqF (by cases e <;> simp at he ⊢)
 · intro h0
   clear hX hY hA hB k1 k2
   cases e
   · have a1 := r1 rfl
     have a2 := rqF rfl
     have a3 := detF rfl
     clear r1 r2 rqF rqT detF detT
     grind
   · have a1 := r2 rfl
     have a2 := rqT rfl
     have a3 := detT rfl
     clear r1 r2 rqF rqT detF detT
     grind
 · intro h0
   clear hX hY hA hB k1 k2
   cases e
   · have a1 := r1 rfl
     have a2 := rqF rfl
     have a3 := detF rfl
     clear r1 r2 rqF rqT detF detT
     grind
   · have a1 := r2 rfl
     have a2 := rqT rfl
     have a3 := detT rfl
     clear r1 r2 rqF rqT detF detT
     grind
 · intro _; omega
 · exact hQB
 · intro h0
   have := hst h0
   omega
 · intro _; exact uv
 · intro h0; omega
theorem Eu.gcd {A B X Y x y u0 u1 u2 v0 v1 v2 : Nat} {e : Bool} {P Q : Nat} (h : Eu A B X Y x y u0 u1 u2 v0 v1 v2 e P Q) (h0 : v0 ≠ 0) : Nat.gcd P Q = Nat.gcd A B := by
 have cA := h.cA h0
 have cB := h.cB h0
 apply Nat.dvd_antisymm
 · refine Nat.dvd_gcd ?_ ?_
   · rw [cA]
     exact Nat.dvd_add (Nat.dvd_mul_left_of_dvd (Nat.gcd_dvd_left _ _) _) (Nat.dvd_mul_left_of_dvd (Nat.gcd_dvd_right _ _) _)
   · rw [cB]
     exact Nat.dvd_add (Nat.dvd_mul_left_of_dvd (Nat.gcd_dvd_left _ _) _) (Nat.dvd_mul_left_of_dvd (Nat.gcd_dvd_right _ _) _)
 · have dA := Nat.gcd_dvd_left A B
   have dB := Nat.gcd_dvd_right A B
   cases e
   · refine Nat.dvd_gcd ?_ ?_
     · exact (Nat.dvd_add_left (Nat.dvd_mul_left_of_dvd dA u0)).1 (by rw [h.rpF h0 rfl]; exact Nat.dvd_mul_left_of_dvd dB v0)
     · exact (Nat.dvd_add_left (Nat.dvd_mul_left_of_dvd dB v1)).1 (by rw [h.rqF rfl]; exact Nat.dvd_mul_left_of_dvd dA u1)
   · refine Nat.dvd_gcd ?_ ?_
     · exact (Nat.dvd_add_left (Nat.dvd_mul_left_of_dvd dB v0)).1 (by rw [h.rpT h0 rfl]; exact Nat.dvd_mul_left_of_dvd dA u0)
     · exact (Nat.dvd_add_left (Nat.dvd_mul_left_of_dvd dA u1)).1 (by rw [h.rqT rfl]; exact Nat.dvd_mul_left_of_dvd dB v1)
def topAt (ys : List Nat) (q s : Nat) : Nat → Nat
 | 0 => nth ys (q + 2) % 2 ^ s * 2 ^ (64 - s) + nth ys (q + 1) * 2 ^ (32 - s) + nth ys q / 2 ^ s
 | 1 => nth ys (q + 2) % 2 ^ s * 2 ^ (64 - s) + nth ys (q + 1) * 2 ^ (32 - s)
 | 2 => nth ys (q + 2) % 2 ^ s * 2 ^ (64 - s)
 | _ => 0
theorem topN_eq (ys : List Nat) (hok : Ok ys) (k q s : Nat) (hq : q = k / 32) (hs : s = k % 32) : topAt ys q s 0 = val ys / 2 ^ k % 18446744073709551616 := by
 have hk : k = 32 * q + s := by omega
 have hd := val_drop ys (i := q) hok
 rw [hk, Nat.pow_add, ← Nat.div_div_eq_div_mul, ← hd]
 have h3 : val (ys.drop q) = nth ys q + 4294967296 * (nth ys (q + 1) + 4294967296 * (nth ys (q + 2) + 4294967296 * val (ys.drop (q + 3)))) := by
  have e : ∀ i, val (ys.drop i) = nth ys i + 4294967296 * val (ys.drop (i + 1)) := fun i => by
   by_cases hi : i < ys.length
   · rw [drop_cons hi]; rfl
   · rw [List.drop_of_length_le (by omega), List.drop_of_length_le (by omega), nth_over (by omega)]; rfl
  rw [e q, e (q + 1), e (q + 2)]
 rw [h3]
 have w0 := nth_lt hok q
 have w1 := nth_lt hok (q + 1)
 have w2 := nth_lt hok (q + 2)
 have hs3 : s < 32 := by omega
 show nth ys (q + 2) % 2 ^ s * 2 ^ (64 - s) + nth ys (q + 1) * 2 ^ (32 - s) + nth ys q / 2 ^ s = _
 generalize nth ys q = a at *
 generalize nth ys (q + 1) = b at *
 generalize nth ys (q + 2) = c at *
 generalize val (ys.drop (q + 3)) = r at *
 clear h3 hd hq hs hk
 obtain ⟨t, ht⟩ : ∃ t, t = 32 - s := ⟨_, rfl⟩
 have e64 : 2 ^ (64 - s) = 4294967296 * 2 ^ t := by rw [show 64 - s = 32 + t by omega, Nat.pow_add]
 have e32 : (2 : Nat) ^ s * 2 ^ t = 4294967296 := by rw [← Nat.pow_add, show s + t = 32 by omega]
 rw [e64, ← ht]
 have hS := Nat.two_pow_pos s
 have hT := Nat.two_pow_pos t
 generalize (2 : Nat) ^ s = S at *
 generalize (2 : Nat) ^ t = T at *
 have hc := Nat.div_add_mod c S
 have hcm := Nat.mod_lt c hS
 have ha := Nat.div_add_mod a S
 have ham := Nat.mod_lt a hS
 have haT : a / S < T := Nat.div_lt_of_lt_mul (by omega)
 have key : a + 4294967296 * (b + 4294967296 * (c + 4294967296 * r)) = S * (a / S + T * b + T * 4294967296 * c + T * 4294967296 * 4294967296 * r) + a % S := by
  have := ha
  generalize a / S = x at *
  generalize a % S = y at *
  clear hc hcm ham haT
  rw [← e32]
  grind
 have hdiv : (a + 4294967296 * (b + 4294967296 * (c + 4294967296 * r))) / S = a / S + T * b + T * 4294967296 * c + T * 4294967296 * 4294967296 * r := by
  rw [key, Nat.mul_add_div hS, Nat.div_eq_of_lt ham, Nat.add_zero]
 rw [hdiv]
 have hsplit : a / S + T * b + T * 4294967296 * c + T * 4294967296 * 4294967296 * r = (c % S * (4294967296 * T) + b * T + a / S) + 18446744073709551616 * (c / S + T * r) := by
  have e5 : T * 4294967296 * (S * (c / S)) = 18446744073709551616 * (c / S) := by
   rw [← Nat.mul_assoc, Nat.mul_right_comm T, Nat.mul_comm T S, e32]
  generalize c / S = x at *
  generalize c % S = y at *
  generalize a / S = z at *
  rw [← hc]
  clear hc hcm ha ham haT key hdiv w2 e64
  grind
 rw [hsplit, Nat.add_mul_mod_self_left]
 refine (Nat.mod_eq_of_lt ?_).symm
 have k1 : (c % S + 1) * (4294967296 * T) ≤ S * (4294967296 * T) := Nat.mul_le_mul_right _ (by omega)
 have k2 : S * (4294967296 * T) = 18446744073709551616 := by rw [Nat.mul_comm 4294967296, ← Nat.mul_assoc, e32]
 have k3 : (b + 1) * T ≤ 4294967296 * T := Nat.mul_le_mul_right _ (by omega)
 rw [Nat.add_mul] at k1 k3
 omega
theorem topAt_facts {ys : List Nat} (hok : Ok ys) {s : Nat} (q : Nat) (hs : s < 32) : topAt ys q s 2 < 18446744073709551616 ∧ topAt ys q s 1 < 18446744073709551616 ∧ (topAt ys q s 1 ||| nth ys q / 2 ^ s) = topAt ys q s 0 ∧ (topAt ys q s 2 ||| nth ys (q + 1) * 2 ^ (32 - s)) = topAt ys q s 1 ∧ nth ys q / 2 ^ s < 18446744073709551616 ∧ nth ys (q + 1) * 2 ^ (32 - s) < 18446744073709551616 ∧ nth ys (q + 2) * 2 ^ (64 - s) % 18446744073709551616 = topAt ys q s 2 := by
 have w0 := nth_lt hok q
 have w1 := nth_lt hok (q + 1)
 have w2 := nth_lt hok (q + 2)
 show nth ys (q + 2) % 2 ^ s * 2 ^ (64 - s) < _ ∧ nth ys (q + 2) % 2 ^ s * 2 ^ (64 - s) + nth ys (q + 1) * 2 ^ (32 - s) < _ ∧ (nth ys (q + 2) % 2 ^ s * 2 ^ (64 - s) + nth ys (q + 1) * 2 ^ (32 - s) ||| _) = nth ys (q + 2) % 2 ^ s * 2 ^ (64 - s) + nth ys (q + 1) * 2 ^ (32 - s) + nth ys q / 2 ^ s ∧ (nth ys (q + 2) % 2 ^ s * 2 ^ (64 - s) ||| _) = nth ys (q + 2) % 2 ^ s * 2 ^ (64 - s) + nth ys (q + 1) * 2 ^ (32 - s) ∧ _ ∧ _ ∧ _ = nth ys (q + 2) % 2 ^ s * 2 ^ (64 - s)
 generalize nth ys q = a at *
 generalize nth ys (q + 1) = b at *
 generalize nth ys (q + 2) = c at *
 obtain ⟨t, ht⟩ : ∃ t, t = 32 - s := ⟨_, rfl⟩
 have e64 : 2 ^ (64 - s) = 4294967296 * 2 ^ t := by rw [show 64 - s = 32 + t by omega, Nat.pow_add]
 have e32 : (2 : Nat) ^ s * 2 ^ t = 4294967296 := by rw [← Nat.pow_add, show s + t = 32 by omega]
 have hcS : 18446744073709551616 = 2 ^ s * 2 ^ (64 - s) := by rw [← Nat.pow_add, show s + (64 - s) = 64 by omega]
 have hS := Nat.two_pow_pos s
 have hT := Nat.two_pow_pos t
 have hcm := Nat.mod_lt c hS
 have haT : a / 2 ^ s < 2 ^ t := Nat.div_lt_of_lt_mul (by omega)
 have hlast : c * 2 ^ (64 - s) % 18446744073709551616 = c % 2 ^ s * 2 ^ (64 - s) := by rw [hcS, Nat.mul_mod_mul_right]
 have o1 : c % 2 ^ s * (4294967296 * 2 ^ t) + b * 2 ^ t = (c % 2 ^ s * 4294967296 + b) * 2 ^ t := by rw [Nat.add_mul, Nat.mul_assoc]
 have ho := or_disj (x := c % 2 ^ s * 4294967296 + b) haT
 have bl : b * 2 ^ t < 2 ^ (32 + t) := by rw [Nat.pow_add]; exact Nat.mul_lt_mul_of_pos_right (by omega) hT
 have ho2 := or_disj (x := c % 2 ^ s) bl
 have e3 : (2 : Nat) ^ (32 + t) = 4294967296 * 2 ^ t := Nat.pow_add _ _ _
 rw [e3] at ho2 bl
 rw [hlast]
 rw [e64, ← ht, o1]
 refine ⟨?_, ?_, by rw [ho], by rw [ho2, o1], ?_, ?_, rfl⟩
 · have k1 : (c % 2 ^ s + 1) * (4294967296 * 2 ^ t) ≤ 2 ^ s * (4294967296 * 2 ^ t) := Nat.mul_le_mul_right _ (by omega)
   have k2 : 2 ^ s * (4294967296 * 2 ^ t) = 18446744073709551616 := by rw [Nat.mul_comm 4294967296, ← Nat.mul_assoc, e32]
   rw [Nat.add_mul] at k1
   omega
 · rw [← o1]
   have k1 : (c % 2 ^ s + 1) * (4294967296 * 2 ^ t) ≤ 2 ^ s * (4294967296 * 2 ^ t) := Nat.mul_le_mul_right _ (by omega)
   have k2 : 2 ^ s * (4294967296 * 2 ^ t) = 18446744073709551616 := by rw [Nat.mul_comm 4294967296, ← Nat.mul_assoc, e32]
   rw [Nat.add_mul] at k1
   omega
 · have := Nat.div_le_self a (2 ^ s)
   omega
 · have k2 : 1 * 2 ^ t ≤ 2 ^ s * 2 ^ t := Nat.mul_le_mul_right _ (by omega)
   have k3 : 4294967296 * 2 ^ t ≤ 4294967296 * 4294967296 := Nat.mul_le_mul_left _ (by omega)
   omega
structure Bl (p q : Int) (xs ys : List Nat) (i : Nat) (zs : List Nat) (c : Int) : Prop where
 len : zs.length = i
 ok : Ok zs
 lo : -1073741824 ≤ c
 hi : c ≤ 1073741824
 eq : (val zs : Int) + (4294967296 ^ i : Nat) * c = p * (val (xs.take i) : Int) + q * (val (ys.take i) : Int)
theorem bl_zero (p q : Int) (xs ys : List Nat) : Bl p q xs ys 0 [] 0 := ⟨rfl, ok_nil, by decide, by decide, by simp [val]⟩
structure BlPQ (p q : Int) : Prop where
 p0 : -1073741824 ≤ p
 p1 : p ≤ 1073741824
 q0 : -1073741824 ≤ q
 q1 : q ≤ 1073741824
 pq : (0 ≤ p ∧ q ≤ 0) ∨ (p ≤ 0 ∧ 0 ≤ q)
theorem bl_mul {p : Int} {x : Nat} (h0 : -1073741824 ≤ p) (h1 : p ≤ 1073741824) (hx : x < 4294967296) : (0 ≤ p → 0 ≤ p * x ∧ p * x ≤ 4611686017353646080) ∧ (p ≤ 0 → -4611686017353646080 ≤ p * x ∧ p * x ≤ 0) := by
 constructor
 · intro h
   have a := Int.mul_nonneg h (Int.natCast_nonneg x)
   have b := Int.mul_le_mul h1 (show (x : Int) ≤ 4294967295 by omega) (Int.natCast_nonneg x) (by decide)
   omega
 · intro h
   have a := Int.mul_nonneg (show 0 ≤ -p by omega) (Int.natCast_nonneg x)
   have b := Int.mul_le_mul (show -p ≤ 1073741824 by omega) (show (x : Int) ≤ 4294967295 by omega) (Int.natCast_nonneg x) (by decide)
   rw [Int.neg_mul] at a b
   omega
theorem Bl.next {p q : Int} {xs ys zs : List Nat} {i : Nat} {c : Int} (h : Bl p q xs ys i zs c) (hp : BlPQ p q) (hx : Ok xs) (hy : Ok ys) {d : Nat} {t : Int} (ht : t = p * (nth xs i : Int) + c + q * (nth ys i : Int)) (hd : (d : Int) = t % 4294967296) : Bl p q xs ys (i + 1) (zs ++ [d]) (t / 4294967296) := by
 have lx := nth_lt hx i
 have ly := nth_lt hy i
 obtain ⟨x1, x2⟩ := bl_mul hp.p0 hp.p1 lx
 obtain ⟨y1, y2⟩ := bl_mul hp.q0 hp.q1 ly
 have lo := h.lo
 have hi := h.hi
 have hpq := hp.pq
 have he := h.eq
 have htb : -4611686018427387904 ≤ t ∧ t ≤ 4611686018427387904 := by
  clear he
  rcases hpq with ⟨a, b⟩ | ⟨a, b⟩
  · have := x1 a; have := y2 b; omega
  · have := x2 a; have := y1 b; omega
 refine ⟨by simp [h.len], ok_append h.ok (ok_cons (by omega) ok_nil), by omega, by omega, ?_⟩
 rw [val_snoc, val_take_next, val_take_next, h.len, Nat.pow_succ]
 have hdm : (t : Int) = 4294967296 * (t / 4294967296) + (d : Int) := by omega
 generalize t / 4294967296 = c' at *
 clear htb x1 x2 y1 y2 hpq hd lo hi
 generalize val zs = a at *
 generalize val (xs.take i) = A at *
 generalize val (ys.take i) = B at *
 generalize nth xs i = x at *
 generalize nth ys i = y at *
 generalize (4294967296 : Nat) ^ i = Q at *
 simp only [Int.natCast_add, Int.natCast_mul, Int.cast_ofNat_Int] at he ⊢
 grind
theorem Bl.bounds {p q c : Int} {x y : Nat} (hp : BlPQ p q) (hx : x < 4294967296) (hy : y < 4294967296) (lo : -1073741824 ≤ c) (hi : c ≤ 1073741824) : (-4611686018427387904 ≤ p * x ∧ p * x ≤ 4611686018427387904) ∧ (-4611686018427387904 ≤ q * y ∧ q * y ≤ 4611686018427387904) ∧ (-4611686018427387904 ≤ p * x + c + q * y ∧ p * x + c + q * y ≤ 4611686018427387904) := by
 obtain ⟨x1, x2⟩ := bl_mul hp.p0 hp.p1 hx
 obtain ⟨y1, y2⟩ := bl_mul hp.q0 hp.q1 hy
 rcases hp.pq with ⟨a, b⟩ | ⟨a, b⟩
 · have := x1 a; have := y2 b; omega
 · have := x2 a; have := y1 b; omega
theorem Bl.done {p q : Int} {xs ys zs : List Nat} {n : Nat} {c : Int} (h : Bl p q xs ys n zs c) (hx : xs.length = n) (hy : ys.length ≤ n) {R : Nat} (hR : p * (val xs : Int) + q * (val ys : Int) = (R : Int)) : 0 ≤ c ∧ c ≤ 1073741824 ∧ val (zs ++ [c.toNat]) = R := by
 have he := h.eq
 rw [List.take_of_length_le (by omega), List.take_of_length_le hy, hR] at he
 have hz := val_lt h.ok
 rw [h.len] at hz
 have hc0 : 0 ≤ c := by
  refine Classical.byContradiction fun hn => ?_
  have := Int.mul_le_mul_of_nonneg_left (show c ≤ -1 by omega) (Int.natCast_nonneg (4294967296 ^ n))
  omega
 refine ⟨hc0, h.hi, ?_⟩
 rw [val_snoc, h.len]
 obtain ⟨m, rfl⟩ : ∃ m : Nat, c = (m : Int) := ⟨c.toNat, by omega⟩
 rw [← Int.natCast_mul] at he
 rw [Int.toNat_natCast]
 omega
end
section
open Go.RowKit Go.Proofs.YtpmncmglmobjoaaGreatDoor
theorem sz_fine {xs : List Nat} (hf : Fine xs) (h0 : xs.length ≠ 0) : 1 ≤ szN xs ∧ 2 ^ (szN xs - 1) ≤ val xs ∧ val xs < 2 ^ szN xs := by
 have ht := fine_top hf h0
 have hlt := nth_lt hf.1 (xs.length - 1)
 obtain ⟨b1, b2, b3⟩ := Lib.bitLenAux_bounds 64 (nth xs (xs.length - 1)) (by omega) ht
 have hb : Lib.bitLen (nth xs (xs.length - 1)) = Lib.bitLenAux 64 (nth xs (xs.length - 1)) := rfl
 rw [← hb] at b1 b2 b3
 have hv := val_take_next xs (xs.length - 1)
 rw [show xs.length - 1 + 1 = xs.length by omega, List.take_of_length_le (by omega)] at hv
 have hlo := val_lt (ok_take hf.1 (xs.length - 1))
 rw [List.length_take, Nat.min_eq_left (by omega)] at hlo
 rw [szN_pos h0]
 generalize nth xs (xs.length - 1) = t at *
 generalize Lib.bitLen t = bl at *
 have hp : (4294967296 : Nat) ^ (xs.length - 1) = 2 ^ (32 * (xs.length - 1)) := pow32 _
 rw [hp] at hv hlo
 refine ⟨by omega, ?_, ?_⟩
 · rw [show 32 * (xs.length - 1) + bl - 1 = 32 * (xs.length - 1) + (bl - 1) by omega, Nat.pow_add, hv]
   have := Nat.mul_le_mul_left (2 ^ (32 * (xs.length - 1))) b2
   omega
 · rw [Nat.pow_add, hv]
   have := Nat.mul_le_mul_left (2 ^ (32 * (xs.length - 1))) (show t + 1 ≤ 2 ^ bl by omega)
   rw [Nat.mul_add] at this
   omega
theorem val_zero {xs : List Nat} (hf : Fine xs) : val xs = 0 ↔ xs.length = 0 := by
 constructor
 · intro h
   refine Classical.byContradiction fun hn => ?_
   have := (sz_fine hf hn).2.1
   have := Nat.two_pow_pos (szN xs - 1)
   omega
 · intro h
   rw [List.length_eq_zero_iff.1 h]
   rfl
theorem fine_zero {xs : List Nat} (hf : Fine xs) {n : Nat} (hl : xs.length = n) : val xs = 0 ↔ n = 0 := by rw [val_zero hf, hl]
theorem two_of_sz {xs : List Nat} (hf : Fine xs) (h0 : val xs ≠ 0) (h : tz (val xs) + 1 = szN xs) : val xs = 2 ^ tz (val xs) := by
 have hn : xs.length ≠ 0 := fun hh => h0 ((val_zero hf).2 hh)
 obtain ⟨a, b, c⟩ := sz_fine hf hn
 obtain ⟨m, hm⟩ := tz_spec h0
 rw [← h] at c
 rw [Nat.pow_succ] at c
 generalize tz (val xs) = k at *
 have hm0 : m = 0 := by
  refine Classical.byContradiction fun hn => ?_
  have := Nat.mul_le_mul_left (2 ^ k) (show 3 ≤ 2 * m + 1 by omega)
  have := Nat.two_pow_pos k
  omega
 rw [hm, hm0]
 omega
theorem gcd_pow {A k : Nat} (hA : A ≠ 0) : Nat.gcd A (2 ^ k) = 2 ^ min (tz A) k := by
 obtain ⟨m, hm⟩ := tz_spec hA
 have hodd : Nat.gcd (2 * m + 1) 2 = 1 := by
  rw [Nat.gcd_comm, Nat.gcd_rec]
  have : (2 * m + 1) % 2 = 1 := by omega
  rw [this]
  exact Nat.gcd_one_left 2
 rcases Nat.le_total (tz A) k with h | h
 · rw [Nat.min_eq_left h]
   obtain ⟨d, rfl⟩ : ∃ d, k = tz A + d := ⟨k - tz A, by omega⟩
   rw [Nat.pow_add]
   generalize tz A = t at *
   rw [hm, Nat.gcd_mul_left]
   have : Nat.gcd (2 * m + 1) (2 ^ d) = 1 := Nat.Coprime.pow_right d hodd
   rw [this, Nat.mul_one]
 · rw [Nat.min_eq_right h]
   refine Nat.gcd_eq_right ?_
   obtain ⟨d, hd⟩ : ∃ d, tz A = k + d := ⟨tz A - k, by omega⟩
   rw [hm, hd, Nat.pow_add, Nat.mul_assoc]
   exact Nat.dvd_mul_right _ _
theorem gcd_two {A B : Nat} (hA : A ≠ 0) (hB : B ≠ 0) (h : A = 2 ^ tz A ∨ B = 2 ^ tz B) : Nat.gcd A B = 2 ^ min (tz A) (tz B) := by
 rcases h with h | h
 · have := gcd_pow (A := B) (k := tz A) hB
   rw [← h, Nat.gcd_comm, Nat.min_comm] at this
   exact this
 · have := gcd_pow (A := A) (k := tz B) hA
   rw [← h] at this
   exact this
theorem top_bits {A n z : Nat} (hz : A < 2 ^ z) (hb : 2 ^ (z - 1) ≤ A) (hn : z = n + 60) : A / 2 ^ n < 1152921504606846976 ∧ 1 ≤ A / 2 ^ n ∧ A / 2 ^ n % 18446744073709551616 = A / 2 ^ n := by
 have h1 : A / 2 ^ n < 1152921504606846976 := Nat.div_lt_of_lt_mul (by rw [hn, Nat.pow_add] at hz; exact hz)
 have h2 : 1 ≤ A / 2 ^ n := (Nat.le_div_iff_mul_le (Nat.two_pow_pos n)).2 (by
  rw [Nat.one_mul]
  exact Nat.le_trans (Nat.pow_le_pow_right (by decide) (by omega)) hb)
 exact ⟨h1, h2, by omega⟩
theorem Eu.pq {A B X Y x y u0 u1 u2 v0 v1 v2 : Nat} {e : Bool} {P Q : Nat} (h : Eu A B X Y x y u0 u1 u2 v0 v1 v2 e P Q) : BlPQ (-(u0 : Int)) (v0 : Int) ∧ BlPQ (u0 : Int) (-(v0 : Int)) ∧ BlPQ (-(u1 : Int)) (v1 : Int) ∧ BlPQ (u1 : Int) (-(v1 : Int)) := by
 have := h.b1
 have := h.b2
 have := h.b3
 have := h.b4
 exact ⟨⟨by omega, by omega, by omega, by omega, by omega⟩, ⟨by omega, by omega, by omega, by omega, by omega⟩, ⟨by omega, by omega, by omega, by omega, by omega⟩, ⟨by omega, by omega, by omega, by omega, by omega⟩⟩
theorem nat_sum {P a b c d : Nat} (h : P + a * b = c * d) : (c : Int) * (d : Int) + -(a : Int) * (b : Int) = (P : Int) := by
 rw [Int.neg_mul, ← Int.natCast_mul, ← Int.natCast_mul]
 omega
theorem nat_sum' {P a b c d : Nat} (h : P + a * b = c * d) : -(a : Int) * (b : Int) + (c : Int) * (d : Int) = (P : Int) := by
 rw [Int.add_comm]
 exact nat_sum h
theorem Eu.evens {A B X Y x y u0 u1 u2 v0 v1 v2 P Q : Nat} (h : Eu A B X Y x y u0 u1 u2 v0 v1 v2 true P Q) (h0 : v0 ≠ 0) : (u0 : Int) * (A : Int) + -(v0 : Int) * (B : Int) = (P : Int) ∧ -(u1 : Int) * (A : Int) + (v1 : Int) * (B : Int) = (Q : Int) :=
 ⟨nat_sum (h.rpT h0 rfl), nat_sum' (h.rqT rfl)⟩
theorem Eu.odds {A B X Y x y u0 u1 u2 v0 v1 v2 P Q : Nat} (h : Eu A B X Y x y u0 u1 u2 v0 v1 v2 false P Q) (h0 : v0 ≠ 0) : -(u0 : Int) * (A : Int) + (v0 : Int) * (B : Int) = (P : Int) ∧ (u1 : Int) * (A : Int) + -(v1 : Int) * (B : Int) = (Q : Int) :=
 ⟨nat_sum' (h.rpF h0 rfl), nat_sum (h.rqF rfl)⟩
theorem small_words {xs : List Nat} (hok : Ok xs) (hl : xs.length ≤ 2) : val xs = nth xs 0 + 4294967296 * nth xs 1 := by
 rcases xs with _ | ⟨a, _ | ⟨b, _ | ⟨c, t⟩⟩⟩
 · rfl
 · simp [val, nth]
 · simp [val, nth]
 · simp only [List.length_cons] at hl
   omega
end
section
open Go.RowKit Go.Proofs.YtpmncmglmobjoaaGreatDoor
def natOf : Option Value → Nat
 | some (.int _ z) => z.toNat
 | _ => 0
def rdVal (w : World) : Value → Nat
 | .slice (some ⟨b, o, none⟩) n _ => val ((List.range n).map fun j => natOf (w.cell? ⟨b, o + j, none⟩))
 | _ => 0
theorem rdVal_sl {w : World} {ao : Option Addr} {n c : Nat} {xs : List Nat} (h : Sl w ao n c xs) : rdVal w (.slice ao n c) = val xs := by
 have hl := h.len
 by_cases hn : 0 < n
 · obtain ⟨b, o, rfl, _, hc⟩ := h.at_ hn
   show val ((List.range n).map fun j => natOf (w.cell? ⟨b, o + j, none⟩)) = _
   congr 1
   apply List.ext_getElem
   · simp [hl]
   · intro j h1 h2
     simp only [List.length_map, List.length_range] at h1
     simp only [List.getElem_map, List.getElem_range, hc j h1]
     show ((nth xs j : Nat) : Int).toNat = _
     rw [Int.toNat_natCast]
     unfold nth
     rw [List.getD_eq_getElem?_getD, List.getElem?_eq_getElem h2]
     rfl
 · obtain rfl : n = 0 := by omega
   rw [List.length_eq_zero_iff.1 hl]
   rcases ao with _ | ⟨b, o, _ | _⟩ <;> rfl
theorem rd_limbs {w : World} {ao : Option Addr} {n c N : Nat} (h : Sl w ao n c (limbs N)) : rdVal w (.slice ao n c) = N := by
 rw [rdVal_sl h, val_limbs']
theorem limbs_mono {A B : Nat} (h : B ≤ A) : (limbs B).length ≤ (limbs A).length := by
 have := lt_of_limbs_length (n := A) (Nat.le_refl _)
 exact limbs_length_le (by omega)
theorem com_top {A B m1 m2 : Nat} (hA : (limbs A).length = m1) (hB : (limbs B).length = m2) (h3 : 2 < m2) (hle : B ≤ A) (hm : m1 ≤ 1073741824) :
 ∃ n, szN (limbs A) = n + 60 ∧ n ≤ 1099511627776 ∧ A / 2 ^ n % 18446744073709551616 = A / 2 ^ n ∧ B / 2 ^ n % 18446744073709551616 = B / 2 ^ n ∧ A / 2 ^ n < 1152921504606846976 ∧ 1 ≤ A / 2 ^ n ∧ B / 2 ^ n ≤ A / 2 ^ n ∧ m2 ≤ m1 := by
 have hl := limbs_mono hle
 rw [hA, hB] at hl
 obtain ⟨s1, s2, s3⟩ := sz_fine (fine_limbs A) (by omega)
 rw [val_limbs'] at s2 s3
 have hp := szN_pos (xs := limbs A) (by omega)
 have ht := fine_top (fine_limbs A) (by omega)
 have hlt := nth_lt (ok_limbs A) ((limbs A).length - 1)
 obtain ⟨b1, b2, b3⟩ := Lib.bitLenAux_bounds 64 (nth (limbs A) ((limbs A).length - 1)) (by omega) ht
 have hb : Lib.bitLen (nth (limbs A) ((limbs A).length - 1)) = Lib.bitLenAux 64 (nth (limbs A) ((limbs A).length - 1)) := rfl
 rw [← hb] at b1 b2 b3
 have b4 : Lib.bitLen (nth (limbs A) ((limbs A).length - 1)) ≤ 64 := by
  refine Classical.byContradiction fun hh => ?_
  have := Nat.pow_le_pow_right (show 0 < 2 by decide) (show 64 ≤ Lib.bitLen (nth (limbs A) ((limbs A).length - 1)) - 1 by omega)
  omega
 rw [hA] at hp b4 b1
 refine ⟨szN (limbs A) - 60, by omega, by omega, ?_⟩
 obtain ⟨n, hn⟩ : ∃ n, n = szN (limbs A) - 60 := ⟨_, rfl⟩
 rw [← hn]
 have hsz : szN (limbs A) = n + 60 := by omega
 obtain ⟨t1, t2, t3⟩ := top_bits s3 s2 hsz
 have hd : B / 2 ^ n ≤ A / 2 ^ n := Nat.div_le_div_right hle
 generalize A / 2 ^ n = X at *
 generalize B / 2 ^ n = Y at *
 exact ⟨t3, by omega, t1, t2, hd, hl⟩
theorem Eu.ends {A B X Y x y u0 u1 u2 v0 v1 v2 : Nat} {e : Bool} {P Q : Nat} (h : Eu A B X Y x y u0 u1 u2 v0 v1 v2 e P Q) (h0 : v0 ≠ 0) (hle : B ≤ A) : Nat.gcd P Q = Nat.gcd A B ∧ Q ≤ P ∧ Q < B ∧ P ≤ A := by
 refine ⟨h.gcd h0, h.qp h0, h.lt h0, ?_⟩
 have c := h.cA h0
 have lt := h.lt h0
 have v1p : v1 ≠ 0 := by
  intro hv
  obtain ⟨f0, f1, f2, f3⟩ := h.first hv
  have := h.rqF f0
  rw [hv, f1] at this
  omega
 have := Nat.mul_le_mul_right P (show 1 ≤ v1 by omega)
 rw [Nat.one_mul] at this
 have := Nat.zero_le (v0 * Q)
 omega
theorem Eu.sizes {A B X Y x y u0 u1 u2 v0 v1 v2 : Nat} {e : Bool} {P Q : Nat} (h : Eu A B X Y x y u0 u1 u2 v0 v1 v2 e P Q) (hXl : X < 1152921504606846976) : x < 1152921504606846976 ∧ y ≤ x ∧ 1 ≤ v2 ∧ v1 ≤ 1073741824 ∧ u1 ≤ 1073741824 ∧ v0 ≤ 1073741824 ∧ u0 ≤ 1073741824 ∧ v2 < 1152921504606846976 ∧ u2 < 1152921504606846976 := by
 have hX := h.hX
 have := Nat.mul_le_mul_right x h.vp
 have := Nat.zero_le (v1 * y)
 obtain ⟨a, b⟩ := h.v2l hXl
 exact ⟨by omega, h.yx, h.vp, h.b4, h.b2, h.b3, h.b1, a, b⟩
theorem Eu.step {A B X Y x y u0 u1 u2 v0 v1 v2 N s t : Nat} {e : Bool} {P Q : Nat} (h : Eu A B X Y x y u0 u1 u2 v0 v1 v2 e P Q) (hXl : X < 1152921504606846976) (hA : A = X * N + s) (hB : B = Y * N + t) (hs : s < N) (ht : t < N) (c1 : v2 ≤ y) (c2 : v1 + v2 ≤ x - y) :
 (∃ R, Eu A B X Y y (x - x / y * y) u1 u2 (u1 + x / y * u2) v1 v2 (v1 + x / y * v2) (!e) Q R) ∧ x / y * y ≤ x ∧ v1 + x / y * v2 < 1152921504606846976 ∧ u1 + x / y * u2 < 1152921504606846976 ∧ x - x / y * y < y := by
 obtain ⟨R, hR⟩ := h.next hXl hA hB hs ht c1 c2
 obtain ⟨a, b⟩ := hR.v2l hXl
 have hvp := h.vp
 have hdm := Nat.div_add_mod x y
 have hml := Nat.mod_lt x (show 0 < y by omega)
 rw [Nat.mul_comm] at hdm
 exact ⟨⟨R, hR⟩, by omega, a, b, by omega⟩
theorem gcd_step {A B G : Nat} (h : Nat.gcd A B = G) : Nat.gcd B (A % B) = G := by
 rw [← h, Nat.gcd_comm A B, Nat.gcd_rec B A, Nat.gcd_comm]
theorem tz_size {xs : List Nat} {n : Nat} (hf : Fine xs) (hl : xs.length = n) (hn : n ≤ 67108864) (h0 : val xs ≠ 0) : tz (val xs) + 1 ≤ szN xs ∧ szN xs ≤ 2147483712 := by
 have hne : xs.length ≠ 0 := fun hh => h0 ((val_zero hf).2 hh)
 obtain ⟨a, b, c⟩ := sz_fine hf hne
 obtain ⟨m, hm⟩ := tz_spec h0
 have hp := szN_pos hne
 have ht := fine_top hf hne
 have hlt := nth_lt hf.1 (xs.length - 1)
 obtain ⟨b1, b2, b3⟩ := Lib.bitLenAux_bounds 64 (nth xs (xs.length - 1)) (by omega) ht
 have hb : Lib.bitLen (nth xs (xs.length - 1)) = Lib.bitLenAux 64 (nth xs (xs.length - 1)) := rfl
 rw [← hb] at b1 b2 b3
 have b4 : Lib.bitLen (nth xs (xs.length - 1)) ≤ 64 := by
  refine Classical.byContradiction fun hh => ?_
  have := Nat.pow_le_pow_right (show 0 < 2 by decide) (show 64 ≤ Lib.bitLen (nth xs (xs.length - 1)) - 1 by omega)
  omega
 refine ⟨?_, by omega⟩
 refine Classical.byContradiction fun hh => ?_
 have h2 := Nat.pow_le_pow_right (show 0 < 2 by decide) (show szN xs ≤ tz (val xs) by omega)
 have h3 := Nat.mul_le_mul_left (2 ^ tz (val xs)) (show 1 ≤ 2 * m + 1 by omega)
 rw [← hm] at h3
 omega
end
section
open Go.RowKit Go.Proofs.YtpmncmglmobjoaaGreatDoor
structure Zc (w : World) (b : Nat) : Prop where
 c0 : w.cell? ⟨b, 0, none⟩ = some (cellOf w b 0)
 c1 : w.cell? ⟨b, 1, none⟩ = some (cellOf w b 1)
 z0 : w.frozen? ⟨b, 0, none⟩ = false
 z1 : w.frozen? ⟨b, 1, none⟩ = false
structure In (e : TypeId) (w : World) (base b : Nat) (s : Bool) (ao : Option Addr) (k c : Nat) (N : Nat) : Prop where
 c0 : w.cell? ⟨b, 0, none⟩ = some (.bool s)
 c1 : w.cell? ⟨b, 1, none⟩ = some (.slice ao k c)
 z0 : w.frozen? ⟨b, 0, none⟩ = false
 z1 : w.frozen? ⟨b, 1, none⟩ = false
 fr : Fr e w base ao k c (limbs N)
 ne : blkOf ao ≠ some b
 hb : base ≤ b
theorem In.zc {e : TypeId} {w : World} {base b : Nat} {s : Bool} {ao : Option Addr} {k c N : Nat} (h : In e w base b s ao k c N) : Zc w b := ⟨cellOf_of h.c0, cellOf_of h.c1, h.z0, h.z1⟩
theorem In.lt {e : TypeId} {w : World} {base b : Nat} {s : Bool} {ao : Option Addr} {k c N : Nat} (h : In e w base b s ao k c N) : b < w.heap.size := World.block_lt_of_cell? w ⟨b, 0, none⟩ h.c0
theorem Zc.lt {w : World} {b : Nat} (h : Zc w b) : b < w.heap.size := World.block_lt_of_cell? w ⟨b, 0, none⟩ h.c0
theorem Zc.of {w : World} {b : Nat} {u v : Value} (h0 : w.cell? ⟨b, 0, none⟩ = some u) (h1 : w.cell? ⟨b, 1, none⟩ = some v) (z0 : w.frozen? ⟨b, 0, none⟩ = false) (z1 : w.frozen? ⟨b, 1, none⟩ = false) : Zc w b := ⟨cellOf_of h0, cellOf_of h1, z0, z1⟩
theorem grown_set (w : World) (b j : Nat) (v : Value) : w.grownBy (w.setCell ⟨b, j, none⟩ v) (some b) := by
 have h := (Below.refl w.heap.size w)
 refine ⟨?_, ?_, ?_, ?_, fun k _ hne => Below.heap_setCell _ _ _ _ (fun e => hne (by rw [e]))⟩
 · simp [World.setCell]
 · simp [World.setCell]
 · simp [World.setCell]
 · simp
theorem grown_trans {w w1 w2 : World} {row : Option Nat} (h : w.grownBy w1 row) (k : w1.grownBy w2 row) : w.grownBy w2 row :=
 ⟨k.os.trans h.os, k.tape.trans h.tape, k.output.trans h.output, Nat.le_trans h.size k.size, fun j hj hne => (k.block j (Nat.lt_of_lt_of_le hj h.size) hne).trans (h.block j hj hne)⟩
theorem grown_below {w w1 : World} (h : Below w.heap.size w w1) (row : Option Nat) : w.grownBy w1 row := ⟨h.os, h.tape, h.output, h.size, fun k hk _ => h.block k hk⟩
theorem grown_new {w w1 : World} {row : Option Nat} (h : w.grownBy w1 row) (hn : ∀ k, row = some k → w.heap.size ≤ k) : Below w.heap.size w w1 :=
 ⟨h.os, h.tape, h.output, h.size, fun k hk => h.block k hk (fun e => absurd (hn k e.symm) (by omega))⟩
theorem Zc.stay {w w' : World} {b : Nat} (h : Zc w b) (k : Below w.heap.size w w') : Zc w' b :=
 Zc.of (cellStay h.c0 k) (cellStay h.c1 k) ((k.frozen (p := ⟨b, 0, none⟩) h.lt).trans h.z0) ((k.frozen (p := ⟨b, 1, none⟩) h.lt).trans h.z1)
theorem Zc.drewN {w : World} {b : Nat} (h : Zc w b) (m : Nat) : Zc (w.drewN m) b := h.stay (below_drewN (Below.refl _ _) m)
theorem In.stay {e : TypeId} {w w' : World} {base b : Nat} {s : Bool} {ao : Option Addr} {k c N : Nat} (h : In e w base b s ao k c N) (hb : Below w.heap.size w w') : In e w' base b s ao k c N :=
 ⟨cellStay h.c0 hb, cellStay h.c1 hb, (hb.frozen (p := ⟨b, 0, none⟩) h.lt).trans h.z0, (hb.frozen (p := ⟨b, 1, none⟩) h.lt).trans h.z1, h.fr.below hb, h.ne, h.hb⟩
theorem In.mono {e : TypeId} {w : World} {base base' b : Nat} {s : Bool} {ao : Option Addr} {k c N : Nat} (h : In e w base b s ao k c N) (hb : base' ≤ base) : In e w base' b s ao k c N :=
 ⟨h.c0, h.c1, h.z0, h.z1, h.fr.mono hb, h.ne, Nat.le_trans hb h.hb⟩
theorem In.other {e : TypeId} {w w' : World} {base b p : Nat} {s : Bool} {ao : Option Addr} {k c N : Nat} (h : In e w base b s ao k c N) (hg : w.grownBy w' (some p)) (h1 : b ≠ p) (h2 : blkOf ao ≠ some p) : In e w' base b s ao k c N := by
 have hb : w'.heap[b]? = w.heap[b]? := hg.block b h.lt (fun e => h1 (by cases e; rfl))
 refine ⟨(World.cell?_of_block hb).trans h.c0, (World.cell?_of_block hb).trans h.c1, (World.frozen?_of_block hb).trans h.z0, (World.frozen?_of_block hb).trans h.z1, ?_, h.ne, h.hb⟩
 exact fr_at h.fr hg.size (fun g hgb hgl => hg.block g hgl (fun e => h2 (by rw [hgb, e])))
def setIn (w : World) (b : Nat) (s : Bool) (v : Value) : World := (w.setCell ⟨b, 1, none⟩ v).setCell ⟨b, 0, none⟩ (.bool s)
theorem setIn_grown (w : World) (b : Nat) (s : Bool) (v : Value) : w.grownBy (setIn w b s v) (some b) := grown_trans (grown_set _ _ _ _) (grown_set _ _ _ _)
theorem setIn_c0 {w : World} {b : Nat} (h : Zc w b) (s : Bool) (v : Value) : (setIn w b s v).cell? ⟨b, 0, none⟩ = some (.bool s) := by
 refine World.cell?_setCell_same (u := cellOf w b 0) _ _ _ ?_
 rw [World.cell?_setCell_other _ _ _ _ (by simp)]
 exact h.c0
theorem setIn_c1 {w : World} {b : Nat} (h : Zc w b) (s : Bool) (v : Value) : (setIn w b s v).cell? ⟨b, 1, none⟩ = some v := by
 show ((w.setCell ⟨b, 1, none⟩ v).setCell ⟨b, 0, none⟩ (.bool s)).cell? ⟨b, 1, none⟩ = some v
 rw [World.cell?_setCell_other _ _ _ _ (by simp)]
 exact World.cell?_setCell_same _ _ _ h.c1
theorem setIn_in {e : TypeId} {w : World} {base b : Nat} {ao : Option Addr} {k c N : Nat} (h : Zc w b) (s : Bool) (hf : Fr e w base ao k c (limbs N)) (hne : blkOf ao ≠ some b) (hb : base ≤ b) :
 In e (setIn w b s (.slice ao k c)) base b s ao k c N := by
 refine ⟨setIn_c0 h s _, setIn_c1 h s _, by simp [setIn, h.z0], by simp [setIn, h.z1], ?_, hne, hb⟩
 exact fr_at hf (setIn_grown _ _ _ _).size (fun g hgb hgl => (setIn_grown w b s _).block g hgl (fun e => hne (by rw [hgb, e])))
def sgnI (s : Bool) (N : Nat) : Int := if N = 0 then 0 else if s then -1 else 1
end
section
open Go.RowKit Go.Proofs.YtpmncmglmobjoaaGreatDoor
def clp (K j : Nat) : Nat := min (K - 4 * j) 4
def stg (x m : Nat) : Nat := x / 256 ^ m * 256 ^ m
def byt (xs : List Nat) (k : Nat) : Nat := nth xs (k / 4) / 256 ^ (k % 4) % 256
def stgs (xs : List Nat) (K : Nat) : List Nat := (List.range xs.length).map fun j => stg (nth xs j) (clp K j)
theorem byt_lt (xs : List Nat) (k : Nat) : byt xs k < 256 := Nat.mod_lt _ (by decide)
theorem stgs_len (xs : List Nat) (K : Nat) : (stgs xs K).length = xs.length := by simp [stgs]
theorem nth_stgs (xs : List Nat) (K j : Nat) : nth (stgs xs K) j = stg (nth xs j) (clp K j) := by
 by_cases h : j < xs.length
 · show (stgs xs K).getD j 0 = _
   rw [List.getD_eq_getElem?_getD, stgs, List.getElem?_map, List.getElem?_range h]
   rfl
 · rw [nth_over (by rw [stgs_len]; omega), nth_over (xs := xs) (by omega)]
   simp [stg]
theorem stg_le (x m : Nat) : stg x m ≤ x := Nat.div_mul_le_self x _
theorem stgs_full (xs : List Nat) (L : Nat) (h : ∀ j, nth xs j < 256 ^ clp L j) : stgs xs L = List.replicate xs.length 0 := by
 refine ext_nth (by simp [stgs]) fun j hj => ?_
 rw [nth_stgs]
 have h1 : stg (nth xs j) (clp L j) = 0 := by unfold stg; rw [Nat.div_eq_of_lt (h j), Nat.zero_mul]
 rw [h1]
 unfold nth
 rw [List.getD_eq_getElem?_getD, List.getElem?_replicate]
 split <;> rfl
theorem stgs_zero (xs : List Nat) : stgs xs 0 = xs := by
 refine ext_nth (stgs_len _ _) fun j hj => ?_
 rw [nth_stgs]
 simp [clp, stg]
theorem stgs_set (xs : List Nat) (k : Nat) (hk : k / 4 < xs.length) : (lvs (stgs xs (k + 1))).set (k / 4) (lv (stg (nth xs (k / 4)) (k % 4))) = lvs (stgs xs k) := by
 have e : (stgs xs (k + 1)).set (k / 4) (stg (nth xs (k / 4)) (k % 4)) = stgs xs k := by
  refine ext_nth (by simp [stgs_len]) fun j hj => ?_
  rw [nth_stgs]
  by_cases h : j = k / 4
  · subst h
    have : clp k (k / 4) = k % 4 := by unfold clp; omega
    rw [this]
    unfold nth
    rw [List.getD_eq_getElem?_getD, List.getElem?_set_self (by rw [stgs_len]; exact hk)]
    rfl
  · have h1 : nth ((stgs xs (k + 1)).set (k / 4) (stg (nth xs (k / 4)) (k % 4))) j = nth (stgs xs (k + 1)) j := by
     unfold nth
     rw [List.getD_eq_getElem?_getD, List.getElem?_set_ne (fun hh => h hh.symm), List.getD_eq_getElem?_getD]
    rw [h1, nth_stgs]
    have : clp (k + 1) j = clp k j := by unfold clp; omega
    rw [this]
 rw [← e]
 simp [lvs]
theorem stg_step (x t : Nat) : stg x (t + 1) ||| (x / 256 ^ t % 256) * 2 ^ (8 * t) = stg x t := by
 have e1 : (2 : Nat) ^ (8 * t) = 256 ^ t := by rw [Nat.pow_mul]
 unfold stg
 rw [e1]
 have e2 : 256 ^ (t + 1) = 2 ^ (8 * t + 8) := by rw [show 8 * t + 8 = 8 * (t + 1) by omega, Nat.pow_mul]
 have hlt : (x / 256 ^ t % 256) * 256 ^ t < 2 ^ (8 * t + 8) := by
  rw [← e2, Nat.pow_succ, Nat.mul_comm (256 ^ t)]
  exact Nat.mul_lt_mul_of_pos_right (Nat.mod_lt _ (by decide)) (Nat.pow_pos (by decide))
 rw [e2, or_disj hlt, ← e2, Nat.pow_succ, ← Nat.div_div_eq_div_mul, ← Nat.mul_assoc, Nat.mul_right_comm, ← Nat.add_mul, Nat.div_add_mod' (x / 256 ^ t) 256]
theorem or_byte {xs : List Nat} (hx : Ok xs) {t q m : Nat} (hq : q = t / 4) (hm : m = t % 4) :
 bits BinOp.or IntKind.u32 (stg (nth xs q) (m + 1) : Int) (IntKind.u32.wrap (IntKind.u32.wrap (byt xs t : Int) * 2 ^ (8 * (m : Int)).toNat)) = (stg (nth xs q) m : Int) := by
 have hb := byt_lt xs t
 have hm4 : m < 4 := by omega
 have e1 : IntKind.u32.wrap (byt xs t : Int) = (byt xs t : Int) := by rw [IntKind.wrap_u32]; omega
 have e2 : (8 * (m : Int)).toNat = 8 * m := by omega
 have e3 : (byt xs t : Int) * 2 ^ (8 * m) = ((byt xs t * 2 ^ (8 * m) : Nat) : Int) := by
  rw [Int.natCast_mul, Int.natCast_pow]; rfl
 have e4 : byt xs t * 2 ^ (8 * m) < 4294967296 := by
  rcases (show m = 0 ∨ m = 1 ∨ m = 2 ∨ m = 3 by omega) with h | h | h | h <;> rw [h] <;> omega
 have e5 : IntKind.u32.wrap ((byt xs t * 2 ^ (8 * m) : Nat) : Int) = ((byt xs t * 2 ^ (8 * m) : Nat) : Int) := by rw [IntKind.wrap_u32]; omega
 have e6 : stg (nth xs q) (m + 1) < 4294967296 := Nat.lt_of_le_of_lt (stg_le _ _) (nth_lt hx q)
 rw [e1, e2, e3, e5, u32_or_nat _ _ e6 e4]
 have := stg_step (nth xs q) m
 rw [show byt xs t = nth xs q / 256 ^ m % 256 by rw [hq, hm]; rfl, this]
def byteN (xs : List Nat) : Nat := (szN xs + 7) / 8
def bf (L : Nat) (f : Nat → Nat) : List Value := (List.range L).map fun p => Value.int .u8 (f p : Int)
theorem bf_len (L : Nat) (f : Nat → Nat) : (bf L f).length = L := by simp [bf]
theorem bf_get (L : Nat) (f : Nat → Nat) {p : Nat} (h : p < L) : (bf L f)[p]? = some (.int .u8 (f p : Int)) := by
 rw [bf, List.getElem?_map, List.getElem?_range h]
 rfl
theorem bf_congr {L : Nat} {f g : Nat → Nat} (h : ∀ p, p < L → f p = g p) : bf L f = bf L g := by
 refine List.map_congr_left fun p hp => ?_
 rw [h p (List.mem_range.1 hp)]
theorem bf_set {L : Nat} {f g : Nat → Nat} (p : Nat) (v : Nat) (hp : g p = v) (h : ∀ q, q < L → q ≠ p → f q = g q) : (bf L f).set p (.int .u8 (v : Int)) = bf L g := by
 refine List.ext_getElem? fun q => ?_
 by_cases hq : q < L
 · rw [bf_get L g hq]
   by_cases e : q = p
   · subst e
     rw [List.getElem?_set_self (by rw [bf_len]; exact hq), hp]
   · rw [List.getElem?_set_ne (fun hh => e hh.symm), bf_get L f hq, h q hq e]
 · rw [List.getElem?_eq_none (by rw [List.length_set, bf_len]; omega), List.getElem?_eq_none (by rw [bf_len]; omega)]
theorem bf_zero (L : Nat) : List.replicate L (Value.int .u8 0) = bf L (fun _ => 0) := by
 refine List.ext_getElem (by simp [bf]) fun i h1 h2 => ?_
 simp [bf]
structure By (w : World) (ao : Option Addr) (L c : Nat) (xs : List Nat) : Prop where
 le : L ≤ c
 cap : c ≤ 9223372036854775807
 at_ : 0 < L → ∃ b, ao = some ⟨b, 0, none⟩ ∧ b < w.heap.size ∧ ∀ p, p < L → w.cell? ⟨b, p, none⟩ = some (.int .u8 (byt xs (L - 1 - p) : Int))
theorem By.below {w w' : World} {ao : Option Addr} {L c : Nat} {xs : List Nat} (h : By w ao L c xs) (hb : Below w.heap.size w w') : By w' ao L c xs :=
 ⟨h.le, h.cap, fun hn => by
  obtain ⟨b, e, h1, h2⟩ := h.at_ hn
  exact ⟨b, e, Nat.lt_of_lt_of_le h1 hb.size, fun p hp => (hb.cell (p := ⟨b, p, none⟩) h1).trans (h2 p hp)⟩⟩
end
section
open Go.RowKit Go.Proofs.YtpmncmglmobjoaaGreatDoor
def nzB (s : Bool) (N : Nat) : Bool := s && decide (N ≠ 0)
def StI (e : TypeId) (b base : Nat) (s : Bool) (N : Nat) (w : World) (en : Ending) (w' : World) : Prop :=
 ∃ ao k c w1, en = .returned (.pointer (some ⟨b, 0, none⟩)) ∧ Below w.heap.size w w1 ∧ Fr e w1 base ao k c (limbs N) ∧ blkOf ao ≠ some b ∧ w' = setIn w1 b s (.slice ao k c)
def MkI (e : TypeId) (s : Bool) (N : Nat) (w : World) (en : Ending) (w' : World) : Prop :=
 ∃ b ao k c, en = .returned (.pointer (some ⟨b, 0, none⟩)) ∧ In e w' w.heap.size b s ao k c N ∧ Below w.heap.size w w'
theorem StI.in_ {e : TypeId} {b base : Nat} {s : Bool} {N : Nat} {w w' : World} {en : Ending} (h : StI e b base s N w en w') (hz : Zc w b) (hb : base ≤ b) :
 ∃ ao k c, en = .returned (.pointer (some ⟨b, 0, none⟩)) ∧ In e w' base b s ao k c N ∧ w.grownBy w' (some b) := by
 obtain ⟨ao, k, c, w1, rfl, hb1, hf, hne, rfl⟩ := h
 exact ⟨ao, k, c, rfl, setIn_in (hz.stay hb1) s hf hne hb, grown_trans (grown_below hb1 _) (setIn_grown _ _ _ _)⟩
theorem zc_new (w : World) (t : TypeId) (u v : Value) : Zc (w.alloc (.cells #[u, v] t)) w.heap.size := Zc.of (u := u) (v := v) (by simp) (by simp) (by simp [go_sem]) (by simp [go_sem])
theorem StI.mk {e t : TypeId} {s : Bool} {N : Nat} {w w' : World} {u v : Value} {en : Ending} (h : StI e w.heap.size w.heap.size s N (w.alloc (.cells #[u, v] t)) en w') : MkI e s N w en w' := by
 obtain ⟨ao, k, c, he, hi, hg⟩ := h.in_ (zc_new w t u v) (Nat.le_refl _)
 refine ⟨_, ao, k, c, he, hi, ?_⟩
 have h1 := (Below.refl w.heap.size w).alloc (Nat.le_refl _) (.cells #[u, v] t)
 exact h1.grown hg (by simp) (by simp)
theorem setIn_other {w : World} {b p j : Nat} (hne : p ≠ b) (s : Bool) (v : Value) : (setIn w b s v).cell? ⟨p, j, none⟩ = w.cell? ⟨p, j, none⟩ := by
 have hn : ∀ i : Nat, (⟨b, i, none⟩ : Addr) ≠ ⟨p, j, none⟩ := fun i e => hne (congrArg Addr.block e).symm
 show ((w.setCell ⟨b, 1, none⟩ v).setCell ⟨b, 0, none⟩ (.bool s)).cell? _ = _
 rw [World.cell?_setCell_other _ _ _ _ (hn 0), World.cell?_setCell_other _ _ _ _ (hn 1)]
theorem setIn_c2 {w : World} {b : Nat} (s : Bool) (v : Value) : (setIn w b s v).cell? ⟨b, 2, none⟩ = w.cell? ⟨b, 2, none⟩ := by
 show ((w.setCell ⟨b, 1, none⟩ v).setCell ⟨b, 0, none⟩ (.bool s)).cell? _ = _
 rw [World.cell?_setCell_other _ _ _ _ (by simp), World.cell?_setCell_other _ _ _ _ (by simp)]
theorem setIn_z (w : World) (b : Nat) (s : Bool) (v : Value) (p : Addr) : (setIn w b s v).frozen? p = w.frozen? p := by simp [setIn]
def DenW (D : Nat) (ds : List Nat) : Prop := 0 < D ∧ (ds = limbs D ∨ ds = [] ∧ D = 1)
structure Ra (e : TypeId) (w : World) (base b : Nat) (s : Bool) (N D : Nat) : Prop where
 num : ∃ ao k c, In e w base b s ao k c N
 den : ∃ ad kd cd ds, w.cell? ⟨b, 2, none⟩ = some (.slice ad kd cd) ∧ Fr e w base ad kd cd ds ∧ DenW D ds ∧ blkOf ad ≠ some b
 z2 : w.frozen? ⟨b, 2, none⟩ = false
theorem Ra.stay {e : TypeId} {w w' : World} {base b : Nat} {s : Bool} {N D : Nat} (h : Ra e w base b s N D) (hb : Below w.heap.size w w') : Ra e w' base b s N D := by
 obtain ⟨⟨ao, k, c, hi⟩, ⟨ad, kd, cd, ds, h2, hf, hd, hn⟩, hz⟩ := h
 exact ⟨⟨ao, k, c, hi.stay hb⟩, ⟨ad, kd, cd, ds, cellStay h2 hb, hf.below hb, hd, hn⟩, (hb.frozen (p := ⟨b, 2, none⟩) hi.lt).trans hz⟩
theorem Ra.mono {e : TypeId} {w : World} {base base' b : Nat} {s : Bool} {N D : Nat} (h : Ra e w base b s N D) (hb : base' ≤ base) : Ra e w base' b s N D := by
 obtain ⟨⟨ao, k, c, hi⟩, ⟨ad, kd, cd, ds, h2, hf, hd, hn⟩, hz⟩ := h
 exact ⟨⟨ao, k, c, hi.mono hb⟩, ⟨ad, kd, cd, ds, h2, hf.mono hb, hd, hn⟩, hz⟩
theorem fr_copied {e : TypeId} {w w' : World} {base g n c : Nat} {ao : Option Addr} {xs : List Nat} (ho : w'.ownsRow base e 1 (.slice (some ⟨g, 0, none⟩) n n) n (lvs xs)) (h : Sl w ao n c xs) (hf : Fine xs) : Fr e w' base (some ⟨g, 0, none⟩) n n (limbs (val xs)) := by
 have hF := fr_own ho h.ok (Nat.le_refl _) (Nat.le_refl _) (Nat.le_refl _)
 rw [List.take_of_length_le (by rw [h.len]; exact Nat.le_refl _)] at hF
 rw [limbs_val hf]
 exact hF
theorem fr_ne {e : TypeId} {w : World} {base b : Nat} {ao : Option Addr} {n c : Nat} {xs : List Nat} (h : Fr e w base ao n c xs) (hb : b < base) : blkOf ao ≠ some b := by
 intro hh
 have := (fr_lt h hh).1
 omega
theorem In.nil {e : TypeId} {w : World} {base b : Nat} {s : Bool} {ao : Option Addr} {k c N : Nat} (h : In e w base b s ao k c N) : N = 0 ↔ k = 0 := by
 have hl := h.fr.sl.len
 constructor
 · intro hN
   rw [← hl, hN, limbs_zero]; rfl
 · intro hk
   rw [hk] at hl
   have := val_limbs' N
   rw [List.length_eq_zero_iff.1 hl] at this
   exact this.symm
theorem Res3.zc {w : World} {b : Nat} (h : Res3 w b) : Zc w b := ⟨h.c0, h.c1, h.z0, h.z1⟩
theorem Res3.lt {w : World} {b : Nat} (h : Res3 w b) : b < w.heap.size := World.block_lt_of_cell? w ⟨b, 0, none⟩ h.c0
theorem Res3.ofs {w : World} {b : Nat} {x y z : Value} (h0 : w.cell? ⟨b, 0, none⟩ = some x) (h1 : w.cell? ⟨b, 1, none⟩ = some y) (h2 : w.cell? ⟨b, 2, none⟩ = some z) (z0 : w.frozen? ⟨b, 0, none⟩ = false) (z1 : w.frozen? ⟨b, 1, none⟩ = false) (z2 : w.frozen? ⟨b, 2, none⟩ = false) : Res3 w b := ⟨cellOf_of h0, cellOf_of h1, cellOf_of h2, z0, z1, z2⟩
theorem Ra.res {e : TypeId} {w : World} {base b : Nat} {s : Bool} {N D : Nat} (h : Ra e w base b s N D) : Res3 w b := by
 obtain ⟨⟨ao, k, c, hi⟩, ⟨ad, kd, cd, ds, h2, hf, hd, hn⟩, hz⟩ := h
 exact Res3.ofs hi.c0 hi.c1 h2 hi.z0 hi.z1 hz
theorem Res3.setIn {w : World} {b : Nat} (h : Res3 w b) (s : Bool) (v : Value) : Res3 (Lb.setIn w b s v) b :=
 Res3.ofs (setIn_c0 h.zc s v) (setIn_c1 h.zc s v) ((setIn_c2 s v).trans h.c2) ((setIn_z ..).trans h.z0) ((setIn_z ..).trans h.z1) ((setIn_z ..).trans h.z2)
theorem fr_grown {e : TypeId} {w w' : World} {base b : Nat} {ao : Option Addr} {n c : Nat} {xs : List Nat} (hf : Fr e w base ao n c xs) (hg : w.grownBy w' (some b)) (hb : b < base) : Fr e w' base ao n c xs :=
 fr_at hf hg.size (fun g hgb hgl => hg.block g hgl (fun e => by
  have := (fr_lt hf hgb).1
  cases e
  omega))
theorem In.third {e : TypeId} {w : World} {base b : Nat} {s : Bool} {ao : Option Addr} {k c N : Nat} (h : In e w base b s ao k c N) (v : Value) : In e (w.setCell ⟨b, 2, none⟩ v) base b s ao k c N := by
 refine ⟨?_, ?_, by simp [h.z0], by simp [h.z1], ?_, h.ne, h.hb⟩
 · rw [World.cell?_setCell_other _ _ _ _ (by simp)]; exact h.c0
 · rw [World.cell?_setCell_other _ _ _ _ (by simp)]; exact h.c1
 · exact fr_at h.fr (by simp) (fun g hgb hgl => (grown_set w b 2 v).block g hgl (fun e => h.ne (by rw [hgb, e])))
theorem setCell_third {w : World} {b : Nat} (h : Res3 w b) (v : Value) : (w.setCell ⟨b, 2, none⟩ v).cell? ⟨b, 2, none⟩ = some v := World.cell?_setCell_same _ _ _ h.c2
theorem ra_of {e : TypeId} {w : World} {base b : Nat} {s : Bool} {ao ad : Option Addr} {k c kd cd N D : Nat} {ds : List Nat} (hi : In e w base b s ao k c N) (hr : Res3 w b) (hf : Fr e w base ad kd cd ds) (hd : DenW D ds) (hn : blkOf ad ≠ some b) : Ra e (w.setCell ⟨b, 2, none⟩ (.slice ad kd cd)) base b s N D :=
 ⟨⟨ao, k, c, hi.third _⟩, ⟨ad, kd, cd, ds, setCell_third hr _, fr_at hf (by simp) (fun g hgb hgl => (grown_set w b 2 _).block g hgl (fun e => hn (by rw [hgb, e]))), hd, hn⟩, by simp [hr.z2]⟩
def StR (e : TypeId) (b base : Nat) (s : Bool) (N D : Nat) (w : World) (en : Ending) (w' : World) : Prop :=
 en = .returned (.pointer (some ⟨b, 0, none⟩)) ∧ Ra e w' base b s N D ∧ w.grownBy w' (some b)
theorem DenW.limbs {D : Nat} (h : D ≠ 0) : DenW D (limbs D) := ⟨Nat.pos_of_ne_zero h, .inl rfl⟩
structure SfK (w W : World) (b b1 b2 : Nat) (x1 y1 x2 y2 : Value) : Prop where
 c0 : W.cell? ⟨b1, 0, none⟩ = some x1
 c1 : W.cell? ⟨b1, 1, none⟩ = some y1
 d0 : W.cell? ⟨b2, 0, none⟩ = some x2
 d1 : W.cell? ⟨b2, 1, none⟩ = some y2
 gr : w.grownBy W (some b)
 rs : Res3 W b
 n1 : b1 ≠ b
 n2 : b2 ≠ b
theorem SfK.conj {w W : World} {b b1 b2 : Nat} {x1 y1 x2 y2 : Value} (h : SfK w W b b1 b2 x1 y1 x2 y2) : W.cell? ⟨b1, 0, none⟩ = some x1 ∧ W.cell? ⟨b1, 1, none⟩ = some y1 ∧ W.cell? ⟨b2, 0, none⟩ = some x2 ∧ W.cell? ⟨b2, 1, none⟩ = some y2 ∧ SfK w W b b1 b2 x1 y1 x2 y2 := ⟨h.c0, h.c1, h.d0, h.d1, h⟩
theorem SfK.stay {w W W' : World} {b b1 b2 : Nat} {x1 y1 x2 y2 : Value} (h : SfK w W b b1 b2 x1 y1 x2 y2) (hb : Below W.heap.size W W') : SfK w W' b b1 b2 x1 y1 x2 y2 :=
 ⟨cellStay h.c0 hb, cellStay h.c1 hb, cellStay h.d0 hb, cellStay h.d1 hb, grown_trans h.gr (grown_below hb _), h.rs.stay hb, h.n1, h.n2⟩
theorem SfK.drew {w W : World} {b b1 b2 : Nat} {x1 y1 x2 y2 : Value} (h : SfK w W b b1 b2 x1 y1 x2 y2) : SfK w W.drew b b1 b2 x1 y1 x2 y2 := h.stay ((Below.refl _ _).drew)
theorem SfK.write {w W W' : World} {b b1 b2 : Nat} {x1 y1 x2 y2 : Value} (h : SfK w W b b1 b2 x1 y1 x2 y2) (hg : W.grownBy W' (some b)) (hr : Res3 W' b) : SfK w W' b b1 b2 x1 y1 x2 y2 :=
 ⟨hg.cell h.c0 (fun e => h.n1 (by cases e; rfl)), hg.cell h.c1 (fun e => h.n1 (by cases e; rfl)), hg.cell h.d0 (fun e => h.n2 (by cases e; rfl)), hg.cell h.d1 (fun e => h.n2 (by cases e; rfl)), grown_trans h.gr hg, hr, h.n1, h.n2⟩
end
end Go.Lb
