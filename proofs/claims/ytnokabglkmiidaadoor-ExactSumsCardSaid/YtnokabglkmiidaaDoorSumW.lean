/-
  The walks of math/bits.Add32 and Sub32, nat.checks (of two) and nat.fits.
-/
import Derived.Test.YtnokabglkmiidaaDoorUp
import Derived.Test.YtnokabglkmiidaaDoorDig
import Derived.Test.YtnokabglkmiidaaDoorCmpW
namespace Go.Proofs.YtnokabglkmiidaaDoor
open Go.RowKit Go.Lb

theorem add32_any (x y c : Nat) (w : World) (hx : x < 4294967296) (hy : y < 4294967296) (hc : c ≤ 1) :
    Calls Tryd.prog 111 #[.int .u32 x, .int .u32 y, .int .u32 c] w fun e w' => e = .returned (.tuple #[.int .u32 (((x + y + c) % 4294967296 : Nat) : Int), .int .u32 (((x + y + c) / 4294967296 : Nat) : Int)]) ∧ w = w' := by
  go_enter Tryd.func111, Tryd.ntmps111
  go_wp2
  refine bodyPost_ret (v := .tuple #[.int .u32 (((x : Int) + y + c) % 4294967296), .int .u32 (((x : Int) + y + c) / 4294967296)]) (by simp [results, Tryd.results111, go_sem]) rfl ⟨by simp, rfl⟩

theorem u32_xor_nat (a b : Nat) (ha : a < 4294967296) (hb : b < 4294967296) : bits .xor .u32 (a : Int) (b : Int) = ((a ^^^ b : Nat) : Int) := by
  have hx : a ^^^ b < 2 ^ 32 := Nat.xor_lt_two_pow (by omega) (by omega)
  have h1 : (BitVec.ofInt 32 (a : Int)).toNat = a := by
    rw [BitVec.ofInt_natCast, BitVec.toNat_ofNat]; exact Nat.mod_eq_of_lt (by omega)
  have h2 : (BitVec.ofInt 32 (b : Int)).toNat = b := by
    rw [BitVec.ofInt_natCast, BitVec.toNat_ofNat]; exact Nat.mod_eq_of_lt (by omega)
  show IntKind.u32.wrap ((BitVec.ofInt 32 (a : Int) ^^^ BitVec.ofInt 32 (b : Int)).toNat : Int) = _
  rw [BitVec.toNat_xor, h1, h2, show ∀ n : Int, IntKind.u32.wrap n = n % 4294967296 from fun n => by simp [IntKind.wrap, IntKind.signed, IntKind.bits]]
  omega

theorem top_bit {v : Nat} (h : v < 4294967296) : v / 2147483648 = (v.testBit 31).toNat := by
  rw [Nat.testBit_eq_decide_div_mod_eq]
  have : v / 2 ^ 31 % 2 = v / 2147483648 := by omega
  rw [this]
  by_cases hv : v / 2147483648 = 1
  · simp [hv]
  · have : v / 2147483648 = 0 := by omega
    simp [this]

theorem bit_top {v : Nat} (h : v < 4294967296) : v.testBit 31 = decide (2147483648 ≤ v) := by
  rw [Nat.testBit_eq_decide_div_mod_eq]
  exact decide_eq_decide.2 (by omega)

theorem lent_bits {x y c : Nat} (hx : x < 4294967296) (hy : y < 4294967296) (hc : c ≤ 1) :
    (((4294967295 ^^^ x) &&& y) ||| ((4294967295 ^^^ (x ^^^ y)) &&& sbD x y c)) / 2147483648 = sbC x y c := by
  have hd : sbD x y c < 4294967296 := by unfold sbD; omega
  have b1 : (4294967295 ^^^ x) &&& y < 2 ^ 32 := Nat.and_lt_two_pow _ (by omega)
  have b2 : (4294967295 ^^^ (x ^^^ y)) &&& sbD x y c < 2 ^ 32 := Nat.and_lt_two_pow _ (by omega)
  have b3 := Nat.or_lt_two_pow b1 b2
  rw [top_bit (by omega), Nat.testBit_or, Nat.testBit_and, Nat.testBit_and, Nat.testBit_xor, Nat.testBit_xor, Nat.testBit_xor, bit_top hx, bit_top hy, bit_top hd, show Nat.testBit 4294967295 31 = true by decide]
  unfold sbC sbD at *
  by_cases h1 : 2147483648 ≤ x <;> by_cases h2 : 2147483648 ≤ y <;> simp only [h1, h2, decide_true, decide_false, Bool.not_false, Bool.false_and, Bool.true_and, Bool.and_true, Bool.and_false, Bool.xor_false, Bool.xor_true, Bool.xor_self, Bool.false_or, Bool.or_false, Bool.toNat_true, Bool.toNat_false]
  · by_cases h3 : 2147483648 ≤ (x + 4294967296 - y - c) % 4294967296
    · rw [decide_eq_true h3, if_pos (by omega)]; rfl
    · rw [decide_eq_false h3, if_neg (by omega)]; rfl
  · rw [if_neg (by omega)]
  · rw [if_pos (by omega)]
  · by_cases h3 : 2147483648 ≤ (x + 4294967296 - y - c) % 4294967296
    · rw [decide_eq_true h3, if_pos (by omega)]; rfl
    · rw [decide_eq_false h3, if_neg (by omega)]; rfl

theorem sub32_any (x y c : Nat) (w : World) (hx : x < 4294967296) (hy : y < 4294967296) (hc : c ≤ 1) :
    Calls Tryd.prog 113 #[.int .u32 x, .int .u32 y, .int .u32 c] w fun e w' => e = .returned (.tuple #[.int .u32 (sbD x y c : Int), .int .u32 (sbC x y c : Int)]) ∧ w = w' := by
  have hd : sbD x y c < 4294967296 := by unfold sbD; omega
  have hD : ((x : Int) - y - c) % 4294967296 = (sbD x y c : Int) := by unfold sbD; omega
  have b0 : 4294967295 ^^^ x < 2 ^ 32 := Nat.xor_lt_two_pow (by omega) (by omega)
  have b00 : x ^^^ y < 2 ^ 32 := Nat.xor_lt_two_pow (by omega) (by omega)
  have b01 : 4294967295 ^^^ (x ^^^ y) < 2 ^ 32 := Nat.xor_lt_two_pow (by omega) (by omega)
  have b1 : (4294967295 ^^^ x) &&& y < 2 ^ 32 := Nat.and_lt_two_pow _ (by omega)
  have b2 : (4294967295 ^^^ (x ^^^ y)) &&& sbD x y c < 2 ^ 32 := Nat.and_lt_two_pow _ (by omega)
  have hm : IntKind.u32.max = ((4294967295 : Nat) : Int) := by decide
  have hE : (bits BinOp.or IntKind.u32 (bits BinOp.and IntKind.u32 (bits BinOp.xor IntKind.u32 IntKind.u32.max (x : Int)) (y : Int)) (bits BinOp.and IntKind.u32 (bits BinOp.xor IntKind.u32 IntKind.u32.max (bits BinOp.xor IntKind.u32 (x : Int) (y : Int))) (((x : Int) - y - c) % 4294967296))) / 2147483648 = (sbC x y c : Int) := by
    rw [hD, hm, u32_xor_nat _ _ (by omega) hx, u32_xor_nat _ _ hx hy, u32_xor_nat _ _ (by omega) (by omega), u32_and_nat _ _ (by omega) hy, u32_and_nat _ _ (by omega) hd, u32_or_nat _ _ (by omega) (by omega)]
    exact congrArg Int.ofNat (lent_bits hx hy hc)
  have H1 := Lib.hid hD
  have H2 := Lib.hid hE
  clear hE hD hm b0 b00 b01 b1 b2
  go_enter Tryd.func113, Tryd.ntmps113
  go_wp2
  rw [H2.out, H1.out]
  refine bodyPost_ret (v := .tuple #[.int .u32 (sbD x y c : Int), .int .u32 (sbC x y c : Int)]) (by simp [results, Tryd.results113, go_sem]) rfl ⟨rfl, rfl⟩

set_option maxRecDepth 100000 in
set_option maxHeartbeats 1600000 in
theorem natChecks_two (a1 a2 : Option Addr) (n1 n2 c1 c2 b : Nat) (xs ys : List Nat) (w : World) (h1 : Sl w a1 n1 c1 xs) (h2 : Sl w a2 n2 c2 ys) (hx : chk xs = 0) (hy : chk ys = 0)
    (d0 : w.cell? ⟨b, 0, none⟩ = some (.slice a1 n1 c1)) (d1 : w.cell? ⟨b, 1, none⟩ = some (.slice a2 n2 c2)) :
    Calls Tryd.prog 108 #[.slice (some ⟨b, 0, none⟩) 2 2] w fun e w' => e = .returned (.int .i64 0) ∧ Below w.heap.size w w' := by
  go_enter Tryd.func108, Tryd.ntmps108
  go_wp2
  go_loopw [8] (fun i wr => ∃ k : Nat, k ≤ 2 ∧ i = .int .i64 k ∧ Below w.heap.size w wr) (fun i _ => 2 - (intOf i).toNat)
  case atStart => exact ⟨0, by omega, rfl, Below.refl _ _⟩
  case round =>
    obtain ⟨k, hk, rfl, hW⟩ := hrel
    have e0 := cellStay d0 hW
    have e1 := cellStay d1 hW
    have s1 := h1.below hW
    have s2 := h2.below hW
    have hxB : (chk xs != 0) = false := by simp [hx]
    have hyB : (chk ys != 0) = false := by simp [hy]
    obtain rfl | rfl | rfl : k = 0 ∨ k = 1 ∨ k = 2 := by omega
    · clear hk
      go_wp2_with (go_at_call 35; refine (natCheck_any a1 n1 c1 xs _ (s1.alloc _)).mono ?_; rintro e w1 ⟨rfl, hb1⟩; replace hW := next (more hW _) hb1)
      exact ⟨⟨1, by omega, rfl, hW⟩, by simp [intOf]⟩
    · clear hk
      go_wp2_with (go_at_call 35; refine (natCheck_any a2 n2 c2 ys _ (s2.alloc _)).mono ?_; rintro e w1 ⟨rfl, hb1⟩; replace hW := next (more hW _) hb1)
      exact ⟨⟨2, by omega, rfl, hW⟩, by simp [intOf]⟩
    · go_wp2
      go_ret
      exact ⟨rfl, hW⟩

/-- trimmed of a row that is owned: what it answers lay there before. -/
theorem natTrimmed_was {base g n cap : Nat} {ys : List Nat} (w wp : World) (h : w.ownsRow base 55 1 (.slice (some ⟨g, 0, none⟩) n cap) n (lvs ys)) (hok : Ok ys) (hp : Below w.heap.size w wp) :
    Calls Tryd.prog 68 #[.slice (some ⟨g, 0, none⟩) n cap] wp fun e w' => ∃ ao k, e = .returned (.agg #[.slice ao k k]) ∧ Fr 55 w base ao k k (limbs (val ys)) ∧ Below wp.heap.size wp w' := by
  refine (natTrimmed_any _ n cap ys wp ((own_sl h hok).below hp)).mono ?_
  rintro e w' ⟨k, hk, rfl, hv, hb⟩
  refine ⟨_, k, rfl, ?_, hb⟩
  have hcap := (own_cap h).1
  by_cases h0 : k = 0
  · subst h0
    rw [if_pos rfl, ← hv]
    exact fr_nil _ _ _
  · rw [if_neg h0, ← hv]
    exact fr_own h hok hk (Nat.le_refl _) (by omega)

set_option maxRecDepth 100000 in
set_option maxHeartbeats 1600000 in
theorem natFits_any {g n : Nat} {ys : List Nat} {base : Nat} (w : World) (h : w.ownsRow base 55 1 (.slice (some ⟨g, 0, none⟩) n n) n (lvs ys)) (hok : Ok ys) :
    Calls Tryd.prog 112 #[.slice (some ⟨g, 0, none⟩) n n] w fun e w' => ∃ ao k c, e = .returned (.tuple #[.agg #[.slice ao k c], .int .i64 (bigE (val ys))]) ∧ Fr 55 w' base ao k c (limbs (bigN (val ys))) ∧ Below w.heap.size w w' := by
  go_enter Tryd.func112, Tryd.ntmps112
  go_wp2_with (go_at_call 68; refine (natTrimmed_was w _ h hok ((Below.refl _ _).alloc (Nat.le_refl _) _)).mono ?_; rintro e w1 ⟨ao, k, rfl, hF, hb1⟩; have hl := hF.sl.len; have B := (box1_new w _ _).stay hb1; have hlt := B.lt; have ⟨b0, bz⟩ := B; have hW := next (more (Below.refl _ _) _) hb1; by_cases hk : k ≤ 16384)
  · have hB := bigE_ok (N := val ys) (by omega)
    have hWW := more (hW.setCell (p := ⟨w.heap.size, 0, none⟩) (Nat.le_refl _) (.slice ao k k)) (.cells #[.slice ao k k] 24)
    refine bodyPost_ret (v := .tuple #[.agg #[.slice ao k k], .int .i64 0]) (by simp [results, Tryd.results112, go_sem, hlt, B.set (.slice ao k k)]) rfl ⟨ao, k, k, by rw [hB.1], ?_, hWW⟩
    rw [hB.2]
    exact hF.below hWW
  · have hB := bigE_many (N := val ys) (by omega)
    have hWW := more (hW.setCell (p := ⟨w.heap.size, 0, none⟩) (Nat.le_refl _) (.slice none 0 0)) (.cells #[.slice ao k k] 24)
    refine bodyPost_ret (v := .tuple #[.agg #[.slice none 0 0], .int .i64 4]) (by simp [results, Tryd.results112, go_sem, hlt, B.set (.slice none 0 0)]) rfl ⟨none, 0, 0, by rw [hB.1], ?_, hWW⟩
    rw [hB.2]
    exact fr_nil _ _ _
end Go.Proofs.YtnokabglkmiidaaDoor
