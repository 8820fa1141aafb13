/-
  Plain laws: the words that the reference's Bits comes by.
-/
import Derived.Test.YtaanaacgkioagaaBitsW
namespace Go.Proofs.Ytaanaacgkioagaa
open Go.RowKit Go.Lb

theorem u64n {n : Nat} (h : n < 18446744073709551616) : IntKind.u64.wrap (n : Int) = (n : Int) := IntWalk.u64_in _ (by omega)

theorem pw64 : pw 64 = 18446744073709551616 := by unfold pw; rfl

/-- The words on the way of a normal float. -/
theorem norm_words {e f s m : Nat} {x : Int} {neg : Bool} (he1 : 2 ≤ e) (he : e ≤ 11) (hf1 : 1 ≤ f) (hf : f ≤ 52) (hx1 : -1073741824 ≤ x) (hx2 : x ≤ 1073741824) (hA : s ≤ f + 1) (hB : 1 ≤ x + s - 1 + biasN e)
    (hC : ¬ 2 * (biasN e : Int) < x + s - 1 + biasN e) (hs1 : 1 ≤ s) (hlo : pw (s - 1) ≤ m) (hhi : m < pw s) :
    ∃ q r0 E F R T R2 : Nat, IntKind.u64.wrap ((m : Int) * 2 ^ (x - (x + (s : Int) - 1 - (f : Int))).toNat) = (q : Int) ∧ IntKind.u64.wrap (2 ^ f) = (pw f : Int) ∧ pw f ≤ q ∧
      IntKind.u64.wrap ((q : Int) - (pw f : Int)) = (r0 : Int) ∧ IntKind.i64.wrap (x + (s : Int) - 1 - (f : Int) + (biasN e : Int)) = x + (s : Int) - 1 - (f : Int) + (biasN e : Int) ∧
      IntKind.i64.wrap (x + (s : Int) - 1 - (f : Int) + (biasN e : Int) + (f : Int)) = (E : Int) ∧ IntKind.u64.wrap (E : Int) = (E : Int) ∧ IntKind.u64.wrap ((E : Int) * 2 ^ f) = (F : Int) ∧
      IntKind.u64.wrap ((r0 : Int) + (F : Int)) = (R : Int) ∧ IntKind.u64.wrap (2 ^ (e + f)) = (T : Int) ∧ IntKind.u64.wrap ((R : Int) + (T : Int)) = (R2 : Int) ∧
      joinN e f neg (x + s - 1 + biasN e).toNat (m * pw (f + 1 - s) - pw f) = if neg = true then R2 else R := by
  obtain ⟨q1, q2⟩ := shift_top (k := f + 1 - s) (f := f) hs1 hlo hhi (by omega)
  clear hlo hhi
  have hk : (x - (x + (s : Int) - 1 - (f : Int))).toNat = f + 1 - s := by omega
  obtain ⟨q, hq⟩ : ∃ q, q = m * pw (f + 1 - s) := ⟨_, rfl⟩
  rw [← hq] at q1 q2 ⊢
  obtain ⟨E, hE⟩ := Int.eq_ofNat_of_zero_le (show 0 ≤ x + (s : Int) - 1 + (biasN e : Int) by omega)
  have hEt : (x + (s : Int) - 1 + (biasN e : Int)).toNat = E := by omega
  rw [hEt]
  have hble := biasN_le he
  have hEb : E < pw e := by have := biasN_two he1; omega
  have p2 := pw_succ f
  have hr : q - pw f < pw f := by omega
  have h1 := (put_bits (b := q - pw f) (fr := f) (sz := e) (fld := E) hr (by omega) hEb).2.2
  have h2 := (put_bits (b := q - pw f + E * pw f) (fr := f + e) (sz := 1) (fld := 1) h1 (by omega) (by unfold pw; decide)).2.2
  have h63 : pw (f + e + 1) ≤ 18446744073709551616 := pw64 ▸ pw_le (by omega)
  have c1 : (m : Int) * 2 ^ (f + 1 - s) = (q : Int) := by rw [hq]; unfold pw; simp
  have c2 : (2 : Int) ^ f = (pw f : Int) := by unfold pw; simp
  have c3 : (E : Int) * 2 ^ f = ((E * pw f : Nat) : Int) := by unfold pw; simp
  have c4 : (2 : Int) ^ (e + f) = (pw (f + e) : Int) := by rw [Nat.add_comm e f]; unfold pw; simp
  rw [Nat.one_mul] at h2
  have hfe : pw f < pw (f + e + 1) := pw_lt (by omega)
  have hfe2 : pw (f + e) < pw (f + e + 1) := pw_lt (by omega)
  have hfe3 : pw (f + 1) ≤ pw (f + e + 1) := pw_le (by omega)
  refine ⟨q, q - pw f, E, E * pw f, q - pw f + E * pw f, pw (f + e), q - pw f + E * pw f + pw (f + e), ?_, ?_, q1, ?_, ?_, ?_, ?_, ?_, ?_, ?_, ?_, ?_⟩
  · rw [hk, c1]; exact u64n (by omega)
  · rw [c2]; exact u64n (by omega)
  · rw [show (q : Int) - (pw f : Int) = ((q - pw f : Nat) : Int) by omega]; exact u64n (by omega)
  · exact IntWalk.i64_in _ (by omega)
  · rw [show x + (s : Int) - 1 - (f : Int) + (biasN e : Int) + (f : Int) = (E : Int) by omega]; exact IntWalk.i64_in _ (by omega)
  · exact u64n (by omega)
  · rw [c3]; exact u64n (by omega)
  · rw [← Int.natCast_add]; exact u64n (by omega)
  · rw [c4]; exact u64n (by omega)
  · rw [← Int.natCast_add]; exact u64n (by omega)
  · unfold joinN putN
    rw [Nat.one_mul, Nat.add_comm e f]

/-- The words on the way of a subnormal float. -/
theorem sub_words {e f s m : Nat} {x : Int} {neg : Bool} (he1 : 2 ≤ e) (he : e ≤ 11) (hf1 : 1 ≤ f) (hf : f ≤ 52) (hB : x + s - 1 + biasN e < 1)
    (hC : ¬ x < 1 - (biasN e : Int) - f) (hhi : m < pw s) :
    ∃ q T R2 : Nat, IntKind.u64.wrap ((m : Int) * 2 ^ (x - (1 - (biasN e : Int) - (f : Int))).toNat) = (q : Int) ∧ IntKind.u64.wrap (2 ^ f) = (pw f : Int) ∧ q < pw f ∧
      IntKind.u64.wrap (2 ^ (e + f)) = (T : Int) ∧ IntKind.u64.wrap ((q : Int) + (T : Int)) = (R2 : Int) ∧
      joinN e f neg 0 (m * pw (x - (1 - (biasN e : Int) - f)).toNat) = if neg = true then R2 else q := by
  have q2 := shift_low (k := (x - (1 - (biasN e : Int) - f)).toNat) (f := f) hhi (by have := biasN_le he; omega)
  clear hhi
  have c1 : (m : Int) * 2 ^ (x - (1 - (biasN e : Int) - (f : Int))).toNat = ((m * pw (x - (1 - (biasN e : Int) - f)).toNat : Nat) : Int) := by unfold pw; simp
  rw [c1]
  generalize m * pw (x - (1 - (biasN e : Int) - f)).toNat = q at q2 ⊢
  have h1 : pw f ≤ pw (f + e) := pw_le (by omega)
  have h2 := pw_succ (f + e)
  have h63 : pw (f + e + 1) ≤ 18446744073709551616 := pw64 ▸ pw_le (by omega)
  have c2 : (2 : Int) ^ f = (pw f : Int) := by unfold pw; simp
  have c4 : (2 : Int) ^ (e + f) = (pw (f + e) : Int) := by rw [Nat.add_comm e f]; unfold pw; simp
  refine ⟨q, pw (f + e), q + pw (f + e), ?_, ?_, q2, ?_, ?_, ?_⟩
  · exact u64n (by omega)
  · rw [c2]; exact u64n (by omega)
  · rw [c4]; exact u64n (by omega)
  · rw [← Int.natCast_add]; exact u64n (by omega)
  · unfold joinN putN
    rw [Nat.one_mul, Nat.add_comm e f, Nat.zero_mul, Nat.add_zero]

end Go.Proofs.Ytaanaacgkioagaa
