/-
  soft's plus of two floats that are numbers: what the reference's sum is. soft.Add whole.
-/
import Derived.Test.YtkifhlgmbckekaaGreatDoorQKitQ
import Derived.Test.YtkifhlgmbckekaaGreatDoorQMS17
import Derived.Test.YtkifhlgmbckekaaGreatDoorQMS16
import Derived.Test.YtkifhlgmbckekaaGreatDoorQRef7E
import Derived.Test.YtkifhlgmbckekaaGreatDoorQMS5
import Derived.Test.YtkifhlgmbckekaaGreatDoorQMS8
namespace Go.Proofs.YtkifhlgmbckekaaGreatDoor

open Go.RowKit Go.Lb

theorem meth_fin (n : Nat) (x : Value) (V : World) : (method (n + 1) 176 x "numeral/soft.plus").run Tryz.prog V = .ok (421, x) V := by kernel_rfl

theorem meth_end (n : Nat) (x : Value) (V : World) : (method (n + 1) 283 x "numeral/soft.plus").run Tryz.prog V = .ok (452, x) V := by kernel_rfl

theorem call_fin (args : Array Value) (V : World) : (callFunc 421 args).run Tryz.prog V = .ok (.enter 421 args) V := by kernel_rfl

theorem call_end (args : Array Value) (V : World) : (callFunc 452 args).run Tryz.prog V = .ok (.enter 452 args) V := by kernel_rfl

/-- An infinity is told by its sign alone. -/
theorem inf_join {e f b : Nat} (hp : b < pw (1 + e + f)) (hx : exN e f b = maskN e) (hf : frN f b = 0) : joinN e f (sgB e f b) (maskN e) 0 = b := by
  have := fields_join hp
  rwa [hx, hf] at this

/-- Where a sum is nought, both are, or neither. -/
theorem sum_nought {s t : Bool} {N M : Nat} {x y : Int} (h1 : Dy s N x) (h2 : Dy t M y) (h : (addA s (limbs N) x t (limbs M) y).N = 0) (hN : N = 0) : M = 0 := by
  rw [addA_dy h1 h2, if_pos hN] at h
  exact h

theorem smB_same {E F : Nat} {D : Ds} {n1 n2 : Nat} {x y : Bool} {m : Nat} (h : D.N = 0 → n1 = 0 → n2 = 0) : smB E F D (ngS n1 n2 x y m) m = smB E F D (smS (decide (n1 = 0)) x y m) m := by
  unfold smB
  by_cases h0 : D.N = 0
  · rw [if_pos h0, if_pos h0]
    congr 1
    unfold ngS smS
    by_cases hn : n1 = 0
    · have := h h0 hn
      simp [hn, this]
    · simp [hn]
  · rw [if_neg h0, if_neg h0]

theorem not_nan {e f b : Nat} (h : nanB e f b = false) (hx : exN e f b = maskN e) : frN f b = 0 ∧ infB e f b = true := by
  by_cases hf : frN f b = 0
  · exact ⟨hf, decide_eq_true ⟨hx, hf⟩⟩
  · have : nanB e f b = true := decide_eq_true ⟨hx, hf⟩
    rw [h] at this
    cases this

theorem fin_inf {e f b : Nat} (hx : exN e f b ≠ maskN e) : infB e f b = false := decide_eq_false fun hh => hx hh.1

set_option maxHeartbeats 1000000 in
theorem plus_meth (e f a b m : Nat) (hm : m < 5) (h : twoE e f a b = 0) (hna : nanB e f a = false) (hnb : nanB e f b = false) : Meth "numeral/soft.plus" (e : Int) (f : Int) a b m (adB e f a b m) (adG e f a b m) 0 := by
  intro v0 base0 W0 hO
  obtain ⟨p1, p2⟩ := twoE_ok h
  have f1 := (fitsE_parts p1).1
  have l1 : a < pw (1 + e + f) := (fitsE_parts p1).2
  have l2 : b < pw (1 + e + f) := (fitsE_parts p2).2
  have hO' : OpF e f a v0 base0 W0 := hO
  have hab : (nanB e f a || nanB e f b) = false := by rw [hna, hnb]; rfl
  have hB1 : adB e f a b m = if (infB e f a && infB e f b && (sgB e f a != sgB e f b)) = true then nanN e f else if infB e f a = true then a else if infB e f b = true then b else smB e f (adD e f a b) (smS (decide (valN (e : Int) (f : Int) a = 0)) (sgB e f a) (sgB e f b) m) m := by unfold adB; rw [if_neg (by rw [hab]; decide)]
  have hG1 : adG e f a b m = if (infB e f a && infB e f b && (sgB e f a != sgB e f b)) = true then 16 else if infB e f a = true then 0 else if infB e f b = true then 0 else (smG e f (adD e f a b) m : Int) := by unfold adG; rw [if_neg (by rw [hab]; decide)]
  by_cases xa : exN e f a = maskN e
  · obtain ⟨fa, ia⟩ := not_nan hna xa
    refine ⟨_, _, 452, hO'.2.1 ia, fun n V => meth_end n _ V, call_end, ?_⟩
    intro pk v1 base W o0 o1 hK hT
    have o1' : OpF e f b v1 base W := o1
    have ja := inf_join l1 xa fa
    by_cases xb : exN e f b = maskN e
    · obtain ⟨fb, ib⟩ := not_nan hnb xb
      rw [o1'.2.1 ib]
      have hB : adB e f a b m = iiB e f (sgB e f a) (sgB e f b) := by
        rw [hB1, ia, ib]
        unfold iiB
        rw [ja]
        cases sgB e f a <;> cases sgB e f b <;> rfl
      have hG : adG e f a b m = (iiG (sgB e f a) (sgB e f b) : Int) := by
        rw [hG1, ia, ib]
        unfold iiG
        cases sgB e f a <;> cases sgB e f b <;> rfl
      rw [hB, hG]
      exact endPlus_inf pk e f (sgB e f a) (sgB e f b) m W f1 hK
    · obtain ⟨ao, n, c, hv, _⟩ := o1'.2.2 xb
      rw [hv]
      have hB : adB e f a b m = joinN e f (sgB e f a) (maskN e) 0 := by rw [hB1, ia, fin_inf xb, ja]; rfl
      have hG : adG e f a b m = 0 := by rw [hG1, ia, fin_inf xb]; rfl
      rw [hB, hG]
      exact endPlus_fin pk e f (sgB e f a) _ m W f1 hK
  · obtain ⟨ao, n, c, hv, _⟩ := hO'.2.2 xa
    refine ⟨_, _, 421, hv, fun n V => meth_fin n _ V, call_fin, ?_⟩
    intro pk v1 base W o0 o1 hK hT
    have o0' : OpF e f a v0 base W := o0
    have o1' : OpF e f b v1 base W := o1
    by_cases xb : exN e f b = maskN e
    · obtain ⟨fb, ib⟩ := not_nan hnb xb
      have jb := inf_join l2 xb fb
      rw [o1'.2.1 ib]
      have hB : adB e f a b m = joinN e f (sgB e f b) (maskN e) 0 := by rw [hB1, fin_inf xa, ib, jb]; rfl
      have hG : adG e f a b m = 0 := by rw [hG1, fin_inf xa, ib]; rfl
      rw [hB, hG]
      exact finPlus_inf pk e f _ (sgB e f a) (sgB e f b) _ _ _ _ _ m W f1 hK
    · obtain ⟨ao', n', c', hv', hF⟩ := o0'.2.2 xa
      rw [hv] at hv'
      injection hv' with _ hv'
      injection hv' with hv'
      have hao : ao = ao' ∧ n = n' ∧ c = c' := by simpa using hv'
      obtain ⟨rfl, rfl, rfl⟩ := hao
      obtain ⟨bo, k, d, hw, hH⟩ := o1'.2.2 xb
      rw [hw]
      obtain ⟨s1, s2, s3, s4, s5⟩ := sum_bounds f1 l1 l2 xa xb (adD e f a b) rfl
      have hd := fun ng => dy_sum f1 hm s2 s3 s4 ng
      have hn1 : n = (limbs (valN (e : Int) (f : Int) a)).length := hF.sl.len.symm
      have hk1 : k = (limbs (valN (e : Int) (f : Int) b)).length := hH.sl.len.symm
      have hz : ∀ N : Nat, ((limbs N).length = 0) ↔ N = 0 := fun N => by
        by_cases h0 : N = 0
        · rw [h0, limbs_zero]; simp
        · rw [limbs_pos h0]; simp [h0]
      have hB : adB e f a b m = smB e f (adD e f a b) (smS (decide (n = 0)) (sgB e f a) (sgB e f b) m) m := by
        rw [hB1, fin_inf xa, fin_inf xb, hn1, decide_eq_decide.2 (hz _)]
        rfl
      have hG : adG e f a b m = (smG e f (adD e f a b) m : Int) := by rw [hG1, fin_inf xa, fin_inf xb]; rfl
      have he : e ≤ 11 := by have := formE_ok f1; omega
      have da : Dy (valS (e : Int) (f : Int) a) (valN (e : Int) (f : Int) a) (valX (e : Int) (f : Int) a) := (valD_ok (fits_bits f1 l1) xa he (by have := formE_ok f1; omega)).2.dy
      have db : Dy (valS (e : Int) (f : Int) b) (valN (e : Int) (f : Int) b) (valX (e : Int) (f : Int) b) := (valD_ok (fits_bits f1 l2) xb he (by have := formE_ok f1; omega)).2.dy
      have hsame := smB_same (E := e) (F := f) (D := adD e f a b) (n1 := n) (n2 := k) (x := sgB e f a) (y := sgB e f b) (m := m) (fun h0 h1 => by
        rw [hk1, hz]
        exact sum_nought da db h0 ((hz _).1 (by rw [← hn1, h1])))
      have cP := finPlus_fin pk (e : Int) (f : Int) (valS (e : Int) (f : Int) a) (valS (e : Int) (f : Int) b) (sgB e f a) (sgB e f b) ao bo n k c d m a b (valX (e : Int) (f : Int) a) (valX (e : Int) (f : Int) b) (limbs (valN (e : Int) (f : Int) a)) (limbs (valN (e : Int) (f : Int) b)) W hm hK hF.sl hH.sl hT s1 (by have := s5; unfold adD at this; omega)
      obtain ⟨d1, d2, d3⟩ := hd (ngS n k (sgB e f a) (sgB e f b) m)
      unfold adD at d1 d2 d3
      rw [d1, d2, d3] at cP
      rw [hB, hG, ← hsame]
      exact cP

/-- What Add answers. -/
def soB (e f : Int) (a b m : Nat) : Nat := if askE e f m [a, b] = 0 then adB e.toNat f.toNat a b m else 0

def soG (e f : Int) (a b m : Nat) : Int := if askE e f m [a, b] = 0 then adG e.toNat f.toNat a b m else 0

theorem ask_two {e f : Int} {a b m : Nat} (h : askE e f m [a, b] = 0) : twoE e f a b = 0 ∧ m < 5 := by
  unfold askE at h
  rw [askL_two] at h
  by_cases h0 : twoE e f a b = 0
  · rw [if_neg (by simp [h0])] at h
    by_cases h4 : 4 < (m : Int)
    · rw [if_pos h4] at h
      cases h
    · exact ⟨h0, by omega⟩
  · rw [if_pos h0] at h
    exact absurd h h0

theorem softAdd_any (e f : Int) (a b m : Nat) (w : World) (hm : m < 256) (ha : a < 18446744073709551616) (hb : b < 18446744073709551616) (hT : Tab w) :
    Calls Tryz.prog 16 #[.agg #[.int .i64 e, .int .i64 f], .int .u64 (a : Int), .int .u64 (b : Int), .int .u8 (m : Int)] w fun en w' => en = .returned (.tuple #[.int .u64 (soB e f a b m : Int), .int .u8 (soG e f a b m), .int .i64 (askE e f m [a, b])]) ∧ Below w.heap.size w w' := by
  cases hk : alK e f m [a, b]
  · have hB : alB e f m [a, b] = soB e f a b m := by
      unfold alB soB
      by_cases h0 : askE e f m [a, b] = 0
      · have hn : nansB (prL e.toNat f.toNat [a, b]) = true := by
          unfold alK at hk
          rw [decide_eq_true h0] at hk
          simpa using hk
        rw [if_pos ⟨h0, hn⟩, if_pos h0]
        unfold adB
        rw [if_pos (by simpa [prL, nansB] using hn)]
      · rw [if_neg (fun h => h0 h.1), if_neg h0]
    have hG : alF e f m [a, b] = soG e f a b m := by
      unfold alF soG
      by_cases h0 : askE e f m [a, b] = 0
      · have hn : nansB (prL e.toNat f.toNat [a, b]) = true := by
          unfold alK at hk
          rw [decide_eq_true h0] at hk
          simpa using hk
        rw [if_pos ⟨h0, hn⟩, if_pos h0]
        unfold adG
        rw [if_pos (by simpa [prL, nansB] using hn)]
        rfl
      · rw [if_neg (fun h => h0 h.1), if_neg h0]
    rw [← hB, ← hG]
    exact softAdd_no e f a b m w hm ha hb hT hk
  · have h0 : askE e f m [a, b] = 0 ∧ nansB (prL e.toNat f.toNat [a, b]) = false := by
      unfold alK at hk
      simpa using hk
    obtain ⟨h1, hm5⟩ := ask_two h0.1
    obtain ⟨q1, q2, q3, q4⟩ := formE_ok (fitsE_parts (twoE_ok h1).1).1
    obtain ⟨e, rfl⟩ := Int.eq_ofNat_of_zero_le (by omega : 0 ≤ e)
    obtain ⟨f, rfl⟩ := Int.eq_ofNat_of_zero_le (by omega : 0 ≤ f)
    have hn : nanB e f a = false ∧ nanB e f b = false := by
      have := h0.2
      simpa [prL, nansB] using this
    have hB : soB (e : Int) (f : Int) a b m = adB e f a b m := if_pos h0.1
    have hG : soG (e : Int) (f : Int) a b m = adG e f a b m := if_pos h0.1
    rw [hB, hG, h0.1]
    exact softAdd_yes e f a b m w hm ha hb hT hk (plus_meth e f a b m hm5 h1 hn.1 hn.2)

end Go.Proofs.YtkifhlgmbckekaaGreatDoor

/-
  The reference of layer 7: Add where it may not be asked.
-/
namespace Go.Proofs.YtkifhlgmbckekaaGreatDoor

open Go.RowKit Go.Lb

attribute [local go_sem] Go.World.cell?_alloc_some

set_option maxRecDepth 100000 in
theorem refAdd7_bad (e f : Int) (a b m : Nat) (w : World) (ha : a < 18446744073709551616) (hb : b < 18446744073709551616) (h : askE e f (m : Int) [a, b] ≠ 0) :
    Calls Tryz.prog 17 #[.agg #[.int .i64 e, .int .i64 f], .int .u64 (a : Int), .int .u64 (b : Int), .int .u8 (m : Int)] w fun en w' => en = .returned (.tuple #[.int .u64 0, .int .u8 0, .int .i64 (askE e f (m : Int) [a, b])]) ∧ Below w.heap.size w w' := by
  have hB : (askE e f (m : Int) [a, b] != 0) = true := by simp [h]
  have cA := fun W hv => asked_any (w.heap.size + 1) e f (m : Int) [a, b] W (by simp) hv
  have hv : ∀ W : World, W.cell? ⟨w.heap.size + 1, 0, none⟩ = some (.int .u64 a) → W.cell? ⟨w.heap.size + 1, 1, none⟩ = some (.int .u64 b) → ∀ j, (h : j < [a, b].length) → [a, b][j] < 18446744073709551616 ∧ W.cell? ⟨w.heap.size + 1, j, none⟩ = some (.int .u64 ([a, b][j] : Nat)) := by
    intro W c0 c1 j hj
    match j, hj with
    | 0, _ => exact ⟨ha, c0⟩
    | 1, _ => exact ⟨hb, c1⟩
  generalize askE e f (m : Int) [a, b] = E at hB cA h ⊢
  go_enter Tryz.func17, Tryz.ntmps17
  go_wp2_with (go_at_call 65; refine (cA _ (hv _ (by simp) (by simp))).mono ?_; rintro en w1 ⟨rfl, hb1⟩)
  refine bodyPost_ret (v := .tuple #[.int .u64 0, .int .u8 0, .int .i64 E]) (by simp [results, Tryz.results17, go_sem]) rfl ⟨rfl, next (more (more (Below.refl _ _) _) _) hb1⟩

end Go.Proofs.YtkifhlgmbckekaaGreatDoor

/-
  Plain: what the law RoundMirror compares. No program in sight.
-/
namespace Go.Proofs.YtkifhlgmbckekaaGreatDoor

open Go.RowKit Go.Lb

theorem u64_xor_nat (a b : Nat) (ha : a < 18446744073709551616) (hb : b < 18446744073709551616) : bits BinOp.xor IntKind.u64 (a : Int) (b : Int) = ((a ^^^ b : Nat) : Int) := by
  have hx : a ^^^ b < 2 ^ 64 := Nat.xor_lt_two_pow (by omega) (by omega)
  have h1 : (BitVec.ofInt 64 (a : Int)).toNat = a := by
    rw [BitVec.ofInt_natCast, BitVec.toNat_ofNat]; exact Nat.mod_eq_of_lt (by omega)
  have h2 : (BitVec.ofInt 64 (b : Int)).toNat = b := by
    rw [BitVec.ofInt_natCast, BitVec.toNat_ofNat]; exact Nat.mod_eq_of_lt (by omega)
  show IntKind.u64.wrap ((BitVec.ofInt 64 (a : Int) ^^^ BitVec.ofInt 64 (b : Int)).toNat : Int) = _
  rw [BitVec.toNat_xor, h1, h2, IntKind.wrap_u64]
  omega

end Go.Proofs.YtkifhlgmbckekaaGreatDoor

