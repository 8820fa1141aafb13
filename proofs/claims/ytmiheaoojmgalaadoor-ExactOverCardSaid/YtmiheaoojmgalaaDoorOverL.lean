/-
  Plain: sums in any brackets, products over sums, of numbers that are not too great: none fails, and both ways are one.
-/
import Derived.Test.YtmiheaoojmgalaaDoorWorth
namespace Go.Proofs.YtmiheaoojmgalaaDoor
open Go.RowKit Go.Lb

theorem bd_of_len {N k K : Nat} {x b : Int} (h : (limbs N).length ≤ k) (hb : b ≤ x) (hK : 32 * k + (x - b).toNat ≤ K) : Bd N x b K := by
  refine ⟨fun _ => hb, ?_⟩
  rw [len_big] at h
  unfold upW
  have h1 := Nat.mul_lt_mul_of_pos_right h (Nat.two_pow_pos (x - b).toNat)
  rw [← Nat.pow_add] at h1
  exact Nat.lt_of_lt_of_le h1 (Nat.pow_le_pow_right (by decide) hK)

theorem add_all {s t : Bool} {N M : Nat} {x y b : Int} {K : Nat} (h1 : Dy s N x) (h2 : Dy t M y) (g1 : Bd N x b K) (g2 : Bd M y b K) (hK : K + 1 ≤ 524288) (hb1 : -1073741824 ≤ b) (hb2 : b + K + 1 ≤ 1073741824) (d : Ds) (hd : d = addA s (limbs N) x t (limbs M) y) :
    d.e = 0 ∧ Wo d b (wI s N x b + wI t M y b) ∧ Bd d.N d.x b (K + 1) := by
  have he := addA_ok h1 h2 g1 g2 hK hb1 hb2
  have hw := addA_worth h1 h2 g1.low g2.low he
  rw [← hd] at he hw
  refine ⟨he, hw, hw.bd ?_⟩
  have e1 := wI_abs s N x b
  have e2 := wI_abs t M y b
  have := Int.natAbs_add_le (wI s N x b) (wI t M y b)
  have t1 := g1.top
  have t2 := g2.top
  rw [Nat.pow_succ]
  omega

theorem mul_all {s t : Bool} {N M : Nat} {x y b c : Int} {K L : Nat} (h1 : Dy s N x) (h2 : Dy t M y) (g1 : Bd N x b K) (g2 : Bd M y c L) (hK : K + L ≤ 524288) (hb1 : -1073741824 ≤ b + c) (hb2 : b + c + K + L ≤ 1073741824) (d : Ds) (hd : d = mulA s (limbs N) x t (limbs M) y) :
    d.e = 0 ∧ Wo d (b + c) (wI s N x b * wI t M y c) ∧ Bd d.N d.x (b + c) (K + L) := by
  have he := mulA_ok h1 h2 g1 g2 hK hb1 hb2
  have hw := mulA_worth h1 h2 g1.low g2.low he
  rw [← hd] at he hw
  refine ⟨he, hw, hw.bd ?_⟩
  rw [Int.natAbs_mul, wI_abs, wI_abs, Nat.pow_add]
  exact Nat.mul_lt_mul_of_lt_of_lt g1.top g2.top

theorem ds_ext {d f : Ds} {b W : Int} (h : Wo d b W) (g : Wo f b W) (h0 : d.e = 0) (g0 : f.e = 0) : d = f := by
  obtain ⟨h1, h2, h3⟩ := h.one g
  cases d
  cases f
  simp only at *
  subst h1 h2 h3 h0 g0
  rfl

theorem over_plain {s t u : Bool} {N M O : Nat} {x y z : Int} (h1 : Dy s N x) (h2 : Dy t M y) (h3 : Dy u O z) (l1 : (limbs N).length ≤ 200) (l2 : (limbs M).length ≤ 200) (l3 : (limbs O).length ≤ 200)
    (x1 : -3000 ≤ x) (x2 : x ≤ 3000) (y1 : -3000 ≤ y) (y2 : y ≤ 3000) (z1 : -3000 ≤ z) (z2 : z ≤ 3000) (BC AB L R V P Q U : Ds)
    (eBC : BC = addA t (limbs M) y u (limbs O) z) (eAB : AB = addA s (limbs N) x t (limbs M) y) (eL : L = addA AB.s (limbs AB.N) AB.x u (limbs O) z) (eR : R = addA s (limbs N) x BC.s (limbs BC.N) BC.x)
    (eV : V = mulA s (limbs N) x BC.s (limbs BC.N) BC.x) (eP : P = mulA s (limbs N) x t (limbs M) y) (eQ : Q = mulA s (limbs N) x u (limbs O) z) (eU : U = addA P.s (limbs P.N) P.x Q.s (limbs Q.N) Q.x) :
    BC.e = 0 ∧ AB.e = 0 ∧ L.e = 0 ∧ R = L ∧ V.e = 0 ∧ P.e = 0 ∧ Q.e = 0 ∧ U = V := by
  obtain ⟨K, hK⟩ : ∃ K, K = 12400 := ⟨_, rfl⟩
  obtain ⟨b, hb⟩ : ∃ b : Int, b = -3000 := ⟨_, rfl⟩
  have b1 : Bd N x b K := bd_of_len l1 (by omega) (by omega)
  have b2 : Bd M y b K := bd_of_len l2 (by omega) (by omega)
  have b3 : Bd O z b K := bd_of_len l3 (by omega) (by omega)
  obtain ⟨c1, c2, c3⟩ := add_all h2 h3 b2 b3 (by omega) (by omega) (by omega) BC eBC
  obtain ⟨d1, d2, d3⟩ := add_all h1 h2 b1 b2 (by omega) (by omega) (by omega) AB eAB
  obtain ⟨f1, f2, _⟩ := add_all d2.dy h3 d3 (b3.up (Nat.le_succ K)) (by omega) (by omega) (by omega) L eL
  obtain ⟨g1, g2, _⟩ := add_all h1 c2.dy (b1.up (Nat.le_succ K)) c3 (by omega) (by omega) (by omega) R eR
  obtain ⟨i1, i2, _⟩ := mul_all h1 c2.dy b1 c3 (by omega) (by omega) (by omega) V eV
  obtain ⟨j1, j2, j3⟩ := mul_all h1 h2 b1 b2 (by omega) (by omega) (by omega) P eP
  obtain ⟨k1, k2, k3⟩ := mul_all h1 h3 b1 b3 (by omega) (by omega) (by omega) Q eQ
  obtain ⟨m1, m2, _⟩ := add_all j2.dy k2.dy j3 k3 (by omega) (by omega) (by omega) U eU
  rw [d2.wo] at f2
  rw [c2.wo] at g2 i2
  rw [j2.wo, k2.wo] at m2
  rw [Int.add_assoc] at f2
  rw [Int.mul_add] at i2
  exact ⟨c1, d1, f1, ds_ext g2 f2 g1 f1, i1, j1, k1, ds_ext m2 i2 m1 i1⟩

end Go.Proofs.YtmiheaoojmgalaaDoor
