/-
  Contracts of numeral/big: addWords, subWords, plain, addAt. (Printed by wip/gen/bigM.py.) Contracts of numeral/big: addAt, mulWords. (Printed by wip/gen/bigX.py.) Contracts of numeral/big: mulWords, of long words by three products of halves; of any. (Printed by wip/gen/bigX.py.)
-/
import Derived.Test.YtoiifhmepniniaaGreatDoorQbCMC9
import Derived.StillTailTactics
import Derived.Deep.DrawnRows
set_option maxHeartbeats 4000000
set_option maxRecDepth 100000
namespace Go.Proofs.YtoiifhmepniniaaGreatDoor
open Go.RowKit Go.Lb
theorem bgLvs_set (xs : List Nat) (i v : Nat) : (lvs xs).set i (lv v) = lvs (xs.set i v) := by simp [lvs]
theorem bgU64_limb {x : Nat} (hx : x < 4294967296) : IntKind.u64.wrap (x : Int) = (x : Int) := by
 rw [IntKind.wrap_u64]
 omega
theorem bgAdd_wraps {x y c : Nat} (hx : x < 4294967296) (hy : y < 4294967296) (hc : c ≤ 1) : IntKind.u64.wrap ((x : Int) + (c : Int)) = (x : Int) + (c : Int) ∧ IntKind.u64.wrap ((x : Int) + (c : Int) + (y : Int)) = (x : Int) + (c : Int) + (y : Int) := by
 constructor <;> (rw [IntKind.wrap_u64]; omega)
theorem bgSub_wraps {x y c : Nat} (hx : x < 4294967296) (hy : y < 4294967296) (hc : c ≤ 1) : IntKind.u64.wrap (IntKind.u64.wrap ((x : Int) - (c : Int)) - (y : Int)) % 4294967296 = (sbD x y c : Int) ∧ IntKind.u64.wrap (IntKind.u64.wrap ((x : Int) - (c : Int)) - (y : Int)) / 9223372036854775808 = (sbC x y c : Int) := by
 unfold sbD sbC
 rw [IntKind.wrap_u64, IntKind.wrap_u64]
 constructor
 · omega
 · split <;> omega
theorem bgSub_wraps0 {x c : Nat} (hx : x < 4294967296) (hc : c ≤ 1) : IntKind.u64.wrap ((x : Int) - (c : Int)) % 4294967296 = (sbD x 0 c : Int) ∧ IntKind.u64.wrap ((x : Int) - (c : Int)) / 9223372036854775808 = (sbC x 0 c : Int) := by
 unfold sbD sbC
 rw [IntKind.wrap_u64]
 constructor
 · omega
 · split <;> omega
theorem bgAddW_any (a1 a2 : Option Addr) (n1 n2 c1 c2 : Nat) (xs ys : List Nat) (w : World) (h1 : Sl w a1 n1 c1 xs) (h2 : Sl w a2 n2 c2 ys) (hn1 : n1 ≤ 1073741824) (hn2 : n2 ≤ 1073741824) :
 Calls Tryz.prog 229 #[.slice a1 n1 c1, .slice a2 n2 c2] w (Wd 23 (val xs + val ys) w) := by
 obtain ⟨i0, hi0, hz0, hz1, hz2⟩ := info_parts u32_infoL
 by_cases hlt : n1 < n2
 · have hl1 : (n1 : Int) < (n2 : Int) := by omega
   have hle1 := h2.le
   have hcap1 := h2.cap
   have hlen1 := h2.len
   have hlen2 := h1.len
   have hle2 := h1.le
   have hcap2 := h1.cap
   go_enter Tryz.func229, Tryz.ntmps229
   go_wp2_with (at_make; refine wpList_make_full _ rfl _ _ 128 rfl w.heap.size 23 i0 _ 1 Tryz.underlying128 hi0 hz0 hz1 _ _ _ _ (n2 + 1) rfl rfl rfl rfl (by rw [hz2]; omega) (by unfold maxLen; omega) (Nat.le_refl _) ?_; intro w1 hown hg1; rw [made_lvs] at hown; have hb1 := (Below.refl w.heap.size w).grown hg1 (Nat.le_refl _) (by simp))
   go_loopw [6, 7] (fun cv iv wr => ∃ (i c : Nat) (zs : List Nat), i ≤ n2 ∧ cv = .int .u64 c ∧ iv = .int .i64 i ∧ Hid (Ad ys xs i zs c) ∧ wr.ownsRow w.heap.size 23 1 (.slice (some ⟨w.heap.size, 0, none⟩) (n2 + 1) (n2 + 1)) (n2 + 1) (lvs (zs ++ List.replicate (n2 + 1 - i) 0)) ∧ Below w.heap.size w wr) (fun _ iv _ => n2 - (intOf iv).toNat)
   case atStart => exact ⟨0, 0, [], by omega, rfl, rfl, Lib.hid (ad_zero ys xs), by simpa using hown, hb1⟩
   case round =>
    obtain ⟨i, c, zs, hi, rfl, rfl, HB, hownr, hbr⟩ := hrel
    have hc1 := HB.out.one
    have hzl := HB.out.len
    by_cases hin : i < n2
    · obtain ⟨b, o, rfl, hb, hc⟩ := (h2.below hbr).at_ (by omega)
      have hcell := hc i hin
      have hx := nth_lt h2.ok i
      have hy := nth_lt h1.ok i
      have j1 : (i : Int) < (n2 : Int) := by omega
      have j3 : (i : Int) < (n2 : Int) + 1 := by omega
      have HN := Lib.hid (HB.out.next h2.ok h1.ok)
      have hfz := hownr.frozenAt i
      have hst := own_cell hownr (j := i) (by omega)
      obtain ⟨o1, r1⟩ := hownr.stored i (lv ((nth ys i + nth xs i + c) % 4294967296))
      rw [set_front hzl (by omega)] at o1
      have hb3 := hbr.grown r1 hbr.size (by simp)
      obtain ⟨z2, z3⟩ := bgAdd_wraps hx hy hc1
      have z1 := bgU64_limb hx
      by_cases hin2 : i < n1
      · obtain ⟨b', o', rfl, hb', hc'⟩ := (h1.below hbr).at_ (by omega)
        have hcell2 := hc' i hin2
        have j2 : (i : Int) < (n1 : Int) := by omega
        have z4 := bgU64_limb hy
        have e1 : Hid (Value.int IntKind.u32 (((nth ys i : Int) + (c : Int) + (nth xs i : Int)) % 4294967296) = lv ((nth ys i + nth xs i + c) % 4294967296)) := Lib.hid (by unfold lv; congr 1 <;> omega)
        have e2 : Hid (((nth ys i : Int) + (c : Int) + (nth xs i : Int)) / 4294967296 = (((nth ys i + nth xs i + c) / 4294967296 : Nat) : Int)) := Lib.hid (by omega)
        clear hc hc' r1 HB
        go_wp2
        rw [e1.out, e2.out]
        exact ⟨⟨i + 1, _, _, by omega, rfl, by go_num, HN, o1, hb3⟩, by simp [intOf]; omega⟩
      · have j2 : ¬ (i : Int) < (n1 : Int) := by omega
        have hz : nth xs i = 0 := nth_over (by omega)
        rw [hz] at o1 HN hb3
        have e1 : Hid (Value.int IntKind.u32 (((nth ys i : Int) + (c : Int)) % 4294967296) = lv ((nth ys i + 0 + c) % 4294967296)) := Lib.hid (by unfold lv; congr 1 <;> omega)
        have e2 : Hid (((nth ys i : Int) + (c : Int)) / 4294967296 = (((nth ys i + 0 + c) / 4294967296 : Nat) : Int)) := Lib.hid (by omega)
        clear hc r1 HB hz z3
        go_wp2
        rw [e1.out, e2.out]
        exact ⟨⟨i + 1, _, _, by omega, rfl, by go_num, HN, o1, hb3⟩, by simp [intOf]; omega⟩
    · obtain rfl : n2 = i := by omega
      obtain ⟨hsum, hok⟩ := HB.out.sum (by omega) (by omega)
      have hfz := hownr.frozenAt n2
      have hst := own_cell hownr (j := n2) (by omega)
      obtain ⟨o1, r1⟩ := hownr.stored n2 (lv c)
      rw [set_front hzl (by omega), show n2 + 1 - (n2 + 1) = 0 by omega, List.replicate_zero, List.append_nil] at o1
      have hb3 := hbr.grown r1 hbr.size (by simp)
      have z1 : (c : Int) % 4294967296 = (c : Int) := by omega
      have Hs := Lib.hid hsum
      clear hsum r1 HB
      go_wp2_with fail
      refine (bgTrim_own _ o1 hok).mono ?_
      rintro e w2 ⟨k2, rfl, hF, rfl⟩
      rw [Hs.out, Nat.add_comm (val ys) (val xs)] at hF
      go_wp2
      go_ret
      exact ⟨_, _, _, rfl, hF, hb3⟩
 · have hl1 : ¬ (n1 : Int) < (n2 : Int) := by omega
   have hle1 := h1.le
   have hcap1 := h1.cap
   have hlen1 := h1.len
   have hlen2 := h2.len
   have hle2 := h2.le
   have hcap2 := h2.cap
   go_enter Tryz.func229, Tryz.ntmps229
   go_wp2_with (at_make; refine wpList_make_full _ rfl _ _ 128 rfl w.heap.size 23 i0 _ 1 Tryz.underlying128 hi0 hz0 hz1 _ _ _ _ (n1 + 1) rfl rfl rfl rfl (by rw [hz2]; omega) (by unfold maxLen; omega) (Nat.le_refl _) ?_; intro w1 hown hg1; rw [made_lvs] at hown; have hb1 := (Below.refl w.heap.size w).grown hg1 (Nat.le_refl _) (by simp))
   go_loopw [6, 7] (fun cv iv wr => ∃ (i c : Nat) (zs : List Nat), i ≤ n1 ∧ cv = .int .u64 c ∧ iv = .int .i64 i ∧ Hid (Ad xs ys i zs c) ∧ wr.ownsRow w.heap.size 23 1 (.slice (some ⟨w.heap.size, 0, none⟩) (n1 + 1) (n1 + 1)) (n1 + 1) (lvs (zs ++ List.replicate (n1 + 1 - i) 0)) ∧ Below w.heap.size w wr) (fun _ iv _ => n1 - (intOf iv).toNat)
   case atStart => exact ⟨0, 0, [], by omega, rfl, rfl, Lib.hid (ad_zero xs ys), by simpa using hown, hb1⟩
   case round =>
    obtain ⟨i, c, zs, hi, rfl, rfl, HB, hownr, hbr⟩ := hrel
    have hc1 := HB.out.one
    have hzl := HB.out.len
    by_cases hin : i < n1
    · obtain ⟨b, o, rfl, hb, hc⟩ := (h1.below hbr).at_ (by omega)
      have hcell := hc i hin
      have hx := nth_lt h1.ok i
      have hy := nth_lt h2.ok i
      have j1 : (i : Int) < (n1 : Int) := by omega
      have j3 : (i : Int) < (n1 : Int) + 1 := by omega
      have HN := Lib.hid (HB.out.next h1.ok h2.ok)
      have hfz := hownr.frozenAt i
      have hst := own_cell hownr (j := i) (by omega)
      obtain ⟨o1, r1⟩ := hownr.stored i (lv ((nth xs i + nth ys i + c) % 4294967296))
      rw [set_front hzl (by omega)] at o1
      have hb3 := hbr.grown r1 hbr.size (by simp)
      obtain ⟨z2, z3⟩ := bgAdd_wraps hx hy hc1
      have z1 := bgU64_limb hx
      by_cases hin2 : i < n2
      · obtain ⟨b', o', rfl, hb', hc'⟩ := (h2.below hbr).at_ (by omega)
        have hcell2 := hc' i hin2
        have j2 : (i : Int) < (n2 : Int) := by omega
        have z4 := bgU64_limb hy
        have e1 : Hid (Value.int IntKind.u32 (((nth xs i : Int) + (c : Int) + (nth ys i : Int)) % 4294967296) = lv ((nth xs i + nth ys i + c) % 4294967296)) := Lib.hid (by unfold lv; congr 1 <;> omega)
        have e2 : Hid (((nth xs i : Int) + (c : Int) + (nth ys i : Int)) / 4294967296 = (((nth xs i + nth ys i + c) / 4294967296 : Nat) : Int)) := Lib.hid (by omega)
        clear hc hc' r1 HB
        go_wp2
        rw [e1.out, e2.out]
        exact ⟨⟨i + 1, _, _, by omega, rfl, by go_num, HN, o1, hb3⟩, by simp [intOf]; omega⟩
      · have j2 : ¬ (i : Int) < (n2 : Int) := by omega
        have hz : nth ys i = 0 := nth_over (by omega)
        rw [hz] at o1 HN hb3
        have e1 : Hid (Value.int IntKind.u32 (((nth xs i : Int) + (c : Int)) % 4294967296) = lv ((nth xs i + 0 + c) % 4294967296)) := Lib.hid (by unfold lv; congr 1 <;> omega)
        have e2 : Hid (((nth xs i : Int) + (c : Int)) / 4294967296 = (((nth xs i + 0 + c) / 4294967296 : Nat) : Int)) := Lib.hid (by omega)
        clear hc r1 HB hz z3
        go_wp2
        rw [e1.out, e2.out]
        exact ⟨⟨i + 1, _, _, by omega, rfl, by go_num, HN, o1, hb3⟩, by simp [intOf]; omega⟩
    · obtain rfl : n1 = i := by omega
      obtain ⟨hsum, hok⟩ := HB.out.sum (by omega) (by omega)
      have hfz := hownr.frozenAt n1
      have hst := own_cell hownr (j := n1) (by omega)
      obtain ⟨o1, r1⟩ := hownr.stored n1 (lv c)
      rw [set_front hzl (by omega), show n1 + 1 - (n1 + 1) = 0 by omega, List.replicate_zero, List.append_nil] at o1
      have hb3 := hbr.grown r1 hbr.size (by simp)
      have z1 : (c : Int) % 4294967296 = (c : Int) := by omega
      have Hs := Lib.hid hsum
      clear hsum r1 HB
      go_wp2_with fail
      refine (bgTrim_own _ o1 hok).mono ?_
      rintro e w2 ⟨k2, rfl, hF, rfl⟩
      rw [Hs.out] at hF
      go_wp2
      go_ret
      exact ⟨_, _, _, rfl, hF, hb3⟩
theorem bgSubW_any (a1 a2 : Option Addr) (n1 n2 c1 c2 : Nat) (xs ys : List Nat) (w : World) (h1 : Sl w a1 n1 c1 xs) (h2 : Sl w a2 n2 c2 ys) (hn1 : n1 ≤ 1073741824) (hnn : n2 ≤ n1) (hle : val ys ≤ val xs) :
 Calls Tryz.prog 249 #[.slice a1 n1 c1, .slice a2 n2 c2] w (Wd 23 (val xs - val ys) w) := by
 obtain ⟨i0, hi0, hz0, hz1, hz2⟩ := info_parts u32_infoL
 have hle1 := h1.le
 have hcap1 := h1.cap
 have hlen1 := h1.len
 have hlen2 := h2.len
 have hle2 := h2.le
 have hcap2 := h2.cap
 have HL := Lib.hid hle
 clear hle
 go_enter Tryz.func249, Tryz.ntmps249
 go_wp2_with (at_make; refine wpList_make_full _ rfl _ _ 128 rfl w.heap.size 23 i0 _ 1 Tryz.underlying128 hi0 hz0 hz1 _ _ _ _ (n1) rfl rfl rfl rfl (by rw [hz2]; omega) (by unfold maxLen; omega) (Nat.le_refl _) ?_; intro w1 hown hg1; rw [made_lvs] at hown; have hb1 := (Below.refl w.heap.size w).grown hg1 (Nat.le_refl _) (by simp))
 go_loopw [6, 7] (fun cv iv wr => ∃ (i c : Nat) (zs : List Nat), i ≤ n1 ∧ cv = .int .u64 c ∧ iv = .int .i64 i ∧ Hid (Sb xs ys i zs c) ∧ wr.ownsRow w.heap.size 23 1 (.slice (some ⟨w.heap.size, 0, none⟩) n1 n1) n1 (lvs (zs ++ List.replicate (n1 - i) 0)) ∧ Below w.heap.size w wr) (fun _ iv _ => n1 - (intOf iv).toNat)
 case atStart => exact ⟨0, 0, [], by omega, rfl, rfl, Lib.hid (sb_zero xs ys), by simpa using hown, hb1⟩
 case round =>
  obtain ⟨i, c, zs, hi, rfl, rfl, HB, hownr, hbr⟩ := hrel
  have hc1 := HB.out.one
  have hzl := HB.out.len
  by_cases hin : i < n1
  · obtain ⟨b, o, rfl, hb, hc⟩ := (h1.below hbr).at_ (by omega)
    have hcell := hc i hin
    have hx := nth_lt h1.ok i
    have hy := nth_lt h2.ok i
    have j1 : (i : Int) < (n1 : Int) := by omega
    have HN := Lib.hid (HB.out.next h1.ok h2.ok)
    have hfz := hownr.frozenAt i
    have hst := own_cell hownr (j := i) (by omega)
    obtain ⟨o1, r1⟩ := hownr.stored i (lv (sbD (nth xs i) (nth ys i) c))
    rw [set_front hzl (by omega)] at o1
    have hb3 := hbr.grown r1 hbr.size (by simp)
    have z1 := bgU64_limb hx
    by_cases hin2 : i < n2
    · obtain ⟨b', o', rfl, hb', hc'⟩ := (h2.below hbr).at_ (by omega)
      have hcell2 := hc' i hin2
      have j2 : (i : Int) < (n2 : Int) := by omega
      have z4 := bgU64_limb hy
      have E := Lib.hid (bgSub_wraps hx hy hc1)
      clear hc hc' r1 HB
      go_wp2
      rw [E.out.1, E.out.2]
      exact ⟨⟨i + 1, _, _, by omega, rfl, by go_num, HN, o1, hb3⟩, by simp [intOf]; omega⟩
    · have j2 : ¬ (i : Int) < (n2 : Int) := by omega
      have hz : nth ys i = 0 := nth_over (by omega)
      rw [hz] at o1 HN hb3
      have E := Lib.hid (bgSub_wraps0 hx hc1)
      clear hc r1 HB hz
      go_wp2
      rw [E.out.1, E.out.2]
      exact ⟨⟨i + 1, _, _, by omega, rfl, by go_num, HN, o1, hb3⟩, by simp [intOf]; omega⟩
  · obtain rfl : n1 = i := by omega
    have hdf := HB.out.diff (by omega) (by omega) HL.out
    have hok := HB.out.ok
    rw [Nat.sub_self, List.replicate_zero, List.append_nil] at hownr
    have Hs := Lib.hid hdf
    clear hdf HB
    go_wp2_with fail
    refine (bgTrim_own _ hownr hok).mono ?_
    rintro e w2 ⟨k2, rfl, hF, rfl⟩
    rw [Hs.out] at hF
    go_wp2
    go_ret
    exact ⟨_, _, _, rfl, hF, hbr⟩
section
attribute [local go_sem ↓] Go.wp_at_zero Go.wp_at_succ
theorem bgAdded_ffS (b base : Nat) (a1 a2 : Option Addr) (n1 n2 c1 c2 N1 N2 : Nat) (w : World) (hz : Zc w b) (hb : base ≤ w.heap.size) (h1 : Sl w a1 n1 c1 (limbs N1)) (h2 : Sl w a2 n2 c2 (limbs N2)) (hn1 : n1 ≤ 536870912) (hn2 : n2 ≤ 536870912) :
 Calls Tryz.prog 225 #[.pointer (some ⟨b, 0, none⟩), .slice a1 n1 c1, .bool false, .slice a2 n2 c2, .bool false] w (StZ 23 b base (sgv false N1 + sgv false N2) w) := by
 have hbl := hz.lt
 rw [sgv_add false N1 N2, StZ_sgv]
 have hA := bgAddW_any a1 a2 n1 n2 c1 c2 (limbs N1) (limbs N2) w h1 h2 (by omega) (by omega)
 rw [val_limbs', val_limbs'] at hA
 clear h1 h2
 go_enter Tryz.func225, Tryz.ntmps225
 go_wp2_with (first
  | (go_at_call 229; refine hA.mono ?_; rintro e w1 ⟨ao, k, c, rfl, hF, hb1⟩)
  | (go_at_call 205; refine (bgSet_any b false ao k c (N1 + N2) w.heap.size _ (hz.stay hb1) hF).mono ?_; rintro e w2 ⟨rfl, rfl⟩))
 go_ret
 exact ⟨_, _, _, w1, rfl, hb1, hF.mono hb, fr_ne hF hbl, rfl⟩
theorem bgAdded_ftG (b base : Nat) (a1 a2 : Option Addr) (n1 n2 c1 c2 N1 N2 : Nat) (w : World) (hz : Zc w b) (hb : base ≤ w.heap.size) (h1 : Sl w a1 n1 c1 (limbs N1)) (h2 : Sl w a2 n2 c2 (limbs N2)) (hn1 : n1 ≤ 536870912) (_hn2 : n2 ≤ 536870912) (hle : N2 ≤ N1) :
 Calls Tryz.prog 225 #[.pointer (some ⟨b, 0, none⟩), .slice a1 n1 c1, .bool false, .slice a2 n2 c2, .bool true] w (StZ 23 b base (sgv false N1 + sgv true N2) w) := by
 have hbl := hz.lt
 rw [(sgv_sub (by decide) hle).1, StZ_sgv]
 have l1 := h1.len
 have l2 := h2.len
 have hC : Calls Tryz.prog 219 #[.slice a1 n1 c1, .slice a2 n2 c2] w fun e w' => e = .returned (.int .i64 (cmpN N1 N2)) ∧ Below w.heap.size w w' := by
  have := bgCmp_any a1 a2 n1 n2 c1 c2 (limbs N1) (limbs N2) w h1 h2 (fine_limbs _) (fine_limbs _)
  rwa [val_limbs', val_limbs'] at this
 have hm := limbs_mono (A := N1) (B := N2) (by omega)
 rw [l1, l2] at hm
 have hA : ∀ W, Below w.heap.size w W → Calls Tryz.prog 249 #[.slice a1 n1 c1, .slice a2 n2 c2] W (Wd 23 (N1 - N2) W) := fun W hW => by
  have := bgSubW_any a1 a2 n1 n2 c1 c2 (limbs N1) (limbs N2) W (h1.below hW) (h2.below hW) (by omega) hm (by rw [val_limbs', val_limbs']; omega)
  rwa [val_limbs', val_limbs'] at this
 have hc : cmpN N1 N2 ≥ 0 := by unfold cmpN; split <;> (try split) <;> omega
 generalize cmpN N1 N2 = q at *
 clear h1 h2 l1 l2 hm
 go_enter Tryz.func225, Tryz.ntmps225
 go_wp2_with (first
  | (go_at_call 219; refine hC.mono ?_; rintro e w0 ⟨rfl, hb0⟩)
  | (go_at_call 249; refine (hA _ hb0).mono ?_; rintro e w1 ⟨ao, k, c, rfl, hF, hb1⟩)
  | (go_at_call 205; refine (bgSet_any b false ao k c (N1 - N2) w0.heap.size _ ((hz.stay hb0).stay hb1) hF).mono ?_; rintro e w2 ⟨rfl, rfl⟩))
 go_ret
 exact ⟨_, _, _, w1, rfl, next hb0 hb1, hF.mono (Nat.le_trans hb hb0.size), fr_ne hF (Nat.lt_of_lt_of_le hbl hb0.size), rfl⟩
theorem bgAdded_ftL (b base : Nat) (a1 a2 : Option Addr) (n1 n2 c1 c2 N1 N2 : Nat) (w : World) (hz : Zc w b) (hb : base ≤ w.heap.size) (h1 : Sl w a1 n1 c1 (limbs N1)) (h2 : Sl w a2 n2 c2 (limbs N2)) (_hn1 : n1 ≤ 536870912) (hn2 : n2 ≤ 536870912) (hlt : N1 < N2) :
 Calls Tryz.prog 225 #[.pointer (some ⟨b, 0, none⟩), .slice a1 n1 c1, .bool false, .slice a2 n2 c2, .bool true] w (StZ 23 b base (sgv false N1 + sgv true N2) w) := by
 have hbl := hz.lt
 rw [(sgv_sub (s := true) (t := false) (by decide) (Nat.le_of_lt hlt)).2, StZ_sgv]
 have l1 := h1.len
 have l2 := h2.len
 have hC : Calls Tryz.prog 219 #[.slice a1 n1 c1, .slice a2 n2 c2] w fun e w' => e = .returned (.int .i64 (cmpN N1 N2)) ∧ Below w.heap.size w w' := by
  have := bgCmp_any a1 a2 n1 n2 c1 c2 (limbs N1) (limbs N2) w h1 h2 (fine_limbs _) (fine_limbs _)
  rwa [val_limbs', val_limbs'] at this
 have hm := limbs_mono (A := N2) (B := N1) (by omega)
 rw [l1, l2] at hm
 have hA : ∀ W, Below w.heap.size w W → Calls Tryz.prog 249 #[.slice a2 n2 c2, .slice a1 n1 c1] W (Wd 23 (N2 - N1) W) := fun W hW => by
  have := bgSubW_any a2 a1 n2 n1 c2 c1 (limbs N2) (limbs N1) W (h2.below hW) (h1.below hW) (by omega) hm (by rw [val_limbs', val_limbs']; omega)
  rwa [val_limbs', val_limbs'] at this
 have hc : ¬ cmpN N1 N2 ≥ 0 := by unfold cmpN; rw [if_pos hlt]; decide
 generalize cmpN N1 N2 = q at *
 clear h1 h2 l1 l2 hm
 go_enter Tryz.func225, Tryz.ntmps225
 go_wp2_with (first
  | (go_at_call 219; refine hC.mono ?_; rintro e w0 ⟨rfl, hb0⟩)
  | (go_at_call 249; refine (hA _ hb0).mono ?_; rintro e w1 ⟨ao, k, c, rfl, hF, hb1⟩)
  | (go_at_call 205; refine (bgSet_any b true ao k c (N2 - N1) w0.heap.size _ ((hz.stay hb0).stay hb1) hF).mono ?_; rintro e w2 ⟨rfl, rfl⟩))
 go_ret
 exact ⟨_, _, _, w1, rfl, next hb0 hb1, hF.mono (Nat.le_trans hb hb0.size), fr_ne hF (Nat.lt_of_lt_of_le hbl hb0.size), rfl⟩
theorem bgAdded_tfG (b base : Nat) (a1 a2 : Option Addr) (n1 n2 c1 c2 N1 N2 : Nat) (w : World) (hz : Zc w b) (hb : base ≤ w.heap.size) (h1 : Sl w a1 n1 c1 (limbs N1)) (h2 : Sl w a2 n2 c2 (limbs N2)) (hn1 : n1 ≤ 536870912) (_hn2 : n2 ≤ 536870912) (hle : N2 ≤ N1) :
 Calls Tryz.prog 225 #[.pointer (some ⟨b, 0, none⟩), .slice a1 n1 c1, .bool true, .slice a2 n2 c2, .bool false] w (StZ 23 b base (sgv true N1 + sgv false N2) w) := by
 have hbl := hz.lt
 rw [(sgv_sub (by decide) hle).1, StZ_sgv]
 have l1 := h1.len
 have l2 := h2.len
 have hC : Calls Tryz.prog 219 #[.slice a1 n1 c1, .slice a2 n2 c2] w fun e w' => e = .returned (.int .i64 (cmpN N1 N2)) ∧ Below w.heap.size w w' := by
  have := bgCmp_any a1 a2 n1 n2 c1 c2 (limbs N1) (limbs N2) w h1 h2 (fine_limbs _) (fine_limbs _)
  rwa [val_limbs', val_limbs'] at this
 have hm := limbs_mono (A := N1) (B := N2) (by omega)
 rw [l1, l2] at hm
 have hA : ∀ W, Below w.heap.size w W → Calls Tryz.prog 249 #[.slice a1 n1 c1, .slice a2 n2 c2] W (Wd 23 (N1 - N2) W) := fun W hW => by
  have := bgSubW_any a1 a2 n1 n2 c1 c2 (limbs N1) (limbs N2) W (h1.below hW) (h2.below hW) (by omega) hm (by rw [val_limbs', val_limbs']; omega)
  rwa [val_limbs', val_limbs'] at this
 have hc : cmpN N1 N2 ≥ 0 := by unfold cmpN; split <;> (try split) <;> omega
 generalize cmpN N1 N2 = q at *
 clear h1 h2 l1 l2 hm
 go_enter Tryz.func225, Tryz.ntmps225
 go_wp2_with (first
  | (go_at_call 219; refine hC.mono ?_; rintro e w0 ⟨rfl, hb0⟩)
  | (go_at_call 249; refine (hA _ hb0).mono ?_; rintro e w1 ⟨ao, k, c, rfl, hF, hb1⟩)
  | (go_at_call 205; refine (bgSet_any b true ao k c (N1 - N2) w0.heap.size _ ((hz.stay hb0).stay hb1) hF).mono ?_; rintro e w2 ⟨rfl, rfl⟩))
 go_ret
 exact ⟨_, _, _, w1, rfl, next hb0 hb1, hF.mono (Nat.le_trans hb hb0.size), fr_ne hF (Nat.lt_of_lt_of_le hbl hb0.size), rfl⟩
theorem bgAdded_tfL (b base : Nat) (a1 a2 : Option Addr) (n1 n2 c1 c2 N1 N2 : Nat) (w : World) (hz : Zc w b) (hb : base ≤ w.heap.size) (h1 : Sl w a1 n1 c1 (limbs N1)) (h2 : Sl w a2 n2 c2 (limbs N2)) (_hn1 : n1 ≤ 536870912) (hn2 : n2 ≤ 536870912) (hlt : N1 < N2) :
 Calls Tryz.prog 225 #[.pointer (some ⟨b, 0, none⟩), .slice a1 n1 c1, .bool true, .slice a2 n2 c2, .bool false] w (StZ 23 b base (sgv true N1 + sgv false N2) w) := by
 have hbl := hz.lt
 rw [(sgv_sub (s := false) (t := true) (by decide) (Nat.le_of_lt hlt)).2, StZ_sgv]
 have l1 := h1.len
 have l2 := h2.len
 have hC : Calls Tryz.prog 219 #[.slice a1 n1 c1, .slice a2 n2 c2] w fun e w' => e = .returned (.int .i64 (cmpN N1 N2)) ∧ Below w.heap.size w w' := by
  have := bgCmp_any a1 a2 n1 n2 c1 c2 (limbs N1) (limbs N2) w h1 h2 (fine_limbs _) (fine_limbs _)
  rwa [val_limbs', val_limbs'] at this
 have hm := limbs_mono (A := N2) (B := N1) (by omega)
 rw [l1, l2] at hm
 have hA : ∀ W, Below w.heap.size w W → Calls Tryz.prog 249 #[.slice a2 n2 c2, .slice a1 n1 c1] W (Wd 23 (N2 - N1) W) := fun W hW => by
  have := bgSubW_any a2 a1 n2 n1 c2 c1 (limbs N2) (limbs N1) W (h2.below hW) (h1.below hW) (by omega) hm (by rw [val_limbs', val_limbs']; omega)
  rwa [val_limbs', val_limbs'] at this
 have hc : ¬ cmpN N1 N2 ≥ 0 := by unfold cmpN; rw [if_pos hlt]; decide
 generalize cmpN N1 N2 = q at *
 clear h1 h2 l1 l2 hm
 go_enter Tryz.func225, Tryz.ntmps225
 go_wp2_with (first
  | (go_at_call 219; refine hC.mono ?_; rintro e w0 ⟨rfl, hb0⟩)
  | (go_at_call 249; refine (hA _ hb0).mono ?_; rintro e w1 ⟨ao, k, c, rfl, hF, hb1⟩)
  | (go_at_call 205; refine (bgSet_any b false ao k c (N2 - N1) w0.heap.size _ ((hz.stay hb0).stay hb1) hF).mono ?_; rintro e w2 ⟨rfl, rfl⟩))
 go_ret
 exact ⟨_, _, _, w1, rfl, next hb0 hb1, hF.mono (Nat.le_trans hb hb0.size), fr_ne hF (Nat.lt_of_lt_of_le hbl hb0.size), rfl⟩
theorem bgAdded_ttS (b base : Nat) (a1 a2 : Option Addr) (n1 n2 c1 c2 N1 N2 : Nat) (w : World) (hz : Zc w b) (hb : base ≤ w.heap.size) (h1 : Sl w a1 n1 c1 (limbs N1)) (h2 : Sl w a2 n2 c2 (limbs N2)) (hn1 : n1 ≤ 536870912) (hn2 : n2 ≤ 536870912) :
 Calls Tryz.prog 225 #[.pointer (some ⟨b, 0, none⟩), .slice a1 n1 c1, .bool true, .slice a2 n2 c2, .bool true] w (StZ 23 b base (sgv true N1 + sgv true N2) w) := by
 have hbl := hz.lt
 rw [sgv_add true N1 N2, StZ_sgv]
 have hA := bgAddW_any a1 a2 n1 n2 c1 c2 (limbs N1) (limbs N2) w h1 h2 (by omega) (by omega)
 rw [val_limbs', val_limbs'] at hA
 clear h1 h2
 go_enter Tryz.func225, Tryz.ntmps225
 go_wp2_with (first
  | (go_at_call 229; refine hA.mono ?_; rintro e w1 ⟨ao, k, c, rfl, hF, hb1⟩)
  | (go_at_call 205; refine (bgSet_any b true ao k c (N1 + N2) w.heap.size _ (hz.stay hb1) hF).mono ?_; rintro e w2 ⟨rfl, rfl⟩))
 go_ret
 exact ⟨_, _, _, w1, rfl, hb1, hF.mono hb, fr_ne hF hbl, rfl⟩
theorem bgAdded_any (b base : Nat) (s1 s2 : Bool) (a1 a2 : Option Addr) (n1 n2 c1 c2 N1 N2 : Nat) (w : World) (hz : Zc w b) (hb : base ≤ w.heap.size) (h1 : Sl w a1 n1 c1 (limbs N1)) (h2 : Sl w a2 n2 c2 (limbs N2)) (hn1 : n1 ≤ 536870912) (hn2 : n2 ≤ 536870912) :
 Calls Tryz.prog 225 #[.pointer (some ⟨b, 0, none⟩), .slice a1 n1 c1, .bool s1, .slice a2 n2 c2, .bool s2] w (StZ 23 b base (sgv s1 N1 + sgv s2 N2) w) := by
 cases s1 <;> cases s2
 · exact bgAdded_ffS b base a1 a2 n1 n2 c1 c2 N1 N2 w hz hb h1 h2 hn1 hn2
 · rcases Nat.lt_or_ge N1 N2 with h | h
   · exact bgAdded_ftL b base a1 a2 n1 n2 c1 c2 N1 N2 w hz hb h1 h2 hn1 hn2 h
   · exact bgAdded_ftG b base a1 a2 n1 n2 c1 c2 N1 N2 w hz hb h1 h2 hn1 hn2 h
 · rcases Nat.lt_or_ge N1 N2 with h | h
   · exact bgAdded_tfL b base a1 a2 n1 n2 c1 c2 N1 N2 w hz hb h1 h2 hn1 hn2 h
   · exact bgAdded_tfG b base a1 a2 n1 n2 c1 c2 N1 N2 w hz hb h1 h2 hn1 hn2 h
 · exact bgAdded_ttS b base a1 a2 n1 n2 c1 c2 N1 N2 w hz hb h1 h2 hn1 hn2
theorem bgIAdd_any (b base B1 B2 b1 b2 : Nat) (x y : Int) (w : World) (hz : Zc w b) (hb : base ≤ w.heap.size) (h1 : Iz 23 w B1 b1 x) (h2 : Iz 23 w B2 b2 y) (l1 : ln x.natAbs ≤ 536870912) (l2 : ln y.natAbs ≤ 536870912) :
 Calls Tryz.prog 183 #[.pointer (some ⟨b, 0, none⟩), .pointer (some ⟨b1, 0, none⟩), .pointer (some ⟨b2, 0, none⟩)] w (StZ 23 b base (x + y) w) := by
 obtain ⟨a1, n1, c1, h1⟩ := h1
 obtain ⟨a2, n2, c2, h2⟩ := h2
 have hC := bgAdded_any b base (decide (x < 0)) (decide (y < 0)) a1 a2 n1 n2 c1 c2 x.natAbs y.natAbs w.drew (hz.stay (Below.refl _ _).drew) hb (h1.stay (Below.refl _ _).drew).fr.sl (h2.stay (Below.refl _ _).drew).fr.sl (by rw [h1.len]; exact l1) (by rw [h2.len]; exact l2)
 rw [sgv_of, sgv_of] at hC
 obtain ⟨d0, d1, _, _, _, _, _⟩ := h1
 obtain ⟨e0, e1, _, _, _, _, _⟩ := h2
 clear l1 l2
 go_enter Tryz.func183, Tryz.ntmps183
 go_wp2
 go_still_tail 17, (by kernel_rfl)
 change wpList _ _ _ _ _ w.drew
 generalize hw2 : w.drew = w2 at hC
 go_wp2_with (go_at_call 225; refine hC.mono ?_; rintro e w1 hS; obtain ⟨ao, k, c, w3, rfl, hb1, hF, hne, rfl⟩ := hS)
 go_ret
 exact ⟨ao, k, c, w3, rfl, undrew (by rw [hw2]; exact hb1), hF, hne, rfl⟩
end
section
attribute [local go_sem ↓] Go.wp_at_zero Go.wp_at_succ
theorem bgSetRaw_any (b base g n c : Nat) (s : Bool) (xs : List Nat) (w : World) (hz : Zc w b) (h : w.ownsRow base 23 1 (.slice (some ⟨g, 0, none⟩) n c) n (lvs xs)) (hok : Ok xs) :
 Calls Tryz.prog 205 #[.pointer (some ⟨b, 0, none⟩), .bool s, .slice (some ⟨g, 0, none⟩) n c] w fun e w' => e = .returned (.pointer (some ⟨b, 0, none⟩)) ∧ ∃ k, Fr 23 w base (some ⟨g, 0, none⟩) k c (limbs (val xs)) ∧ w' = setIn w b (nzB s (val xs)) (.slice (some ⟨g, 0, none⟩) k c) := by
 have hT := bgTrim_own w h hok
 have hz' := hz
 obtain ⟨c0, c1, z0, z1⟩ := hz
 clear h hok
 generalize val xs = N at *
 go_enter Tryz.func205, Tryz.ntmps205
 go_wp2_with fail
 refine hT.mono ?_
 rintro e w1 ⟨k, rfl, hF, rfl⟩
 have hl := hF.sl.len
 have hI := hz'
 by_cases hN : N = 0
 · have hk : k = 0 := by rw [← hl, hN, limbs_zero]; rfl
   have hd : Hid (nzB s N = false) := Lib.hid (by simp [nzB, hN])
   subst hk
   clear hl hN
   cases s
   all_goals
    go_wp2
    go_ret
    exact ⟨rfl, 0, hF, by rw [hd.out]; rfl⟩
 · have hk : 0 < k := by
    rw [← hl]
    exact List.length_pos_iff.2 fun h => hN (by have := val_limbs' N; rw [h] at this; exact this.symm)
   have hd : Hid (nzB s N = s) := Lib.hid (by simp [nzB, hN])
   have hk1 : (k : Int) > 0 := by omega
   clear hN hl
   cases s
   all_goals
    go_wp2
    go_ret
    exact ⟨rfl, k, hF, by rw [hd.out]; rfl⟩
theorem bgQuoRem_any (b br B1 B2 b1 b2 : Nat) (x y : Int) (w : World) (hz : Zc w b) (hr : Zc w br) (ne : br ≠ b) (h1 : Iz 23 w B1 b1 x) (h2 : Iz 23 w B2 b2 y) (hy : y ≠ 0) (l1 : ln x.natAbs ≤ 1073741824) :
 Calls Tryz.prog 179 #[.pointer (some ⟨b, 0, none⟩), .pointer (some ⟨b1, 0, none⟩), .pointer (some ⟨b2, 0, none⟩), .pointer (some ⟨br, 0, none⟩)] w (QrZ 23 b br (x.tdiv y) (x.tmod y) w) := by
 obtain ⟨a1, n1, c1, h1⟩ := h1
 obtain ⟨a2, n2, c2, h2⟩ := h2
 have hrl := hr.lt
 have hD : ∀ W, Below w.heap.size w W → Calls Tryz.prog 218 #[.slice a1 n1 c1, .slice a2 n2 c2] W (fun e w' => ∃ aq kq cq ar kr cr, e = .returned (.tuple #[.slice aq kq cq, .slice ar kr cr]) ∧ Fr 23 w' W.heap.size aq kq cq (limbs (x.natAbs / y.natAbs)) ∧ Fr 23 w' W.heap.size ar kr cr (limbs (x.natAbs % y.natAbs)) ∧ Below W.heap.size W w') := fun W hW => by
  have := bgDiv_any a1 a2 n1 n2 c1 c2 _ _ W (h1.stay hW).fr.sl (h2.stay hW).fr.sl (fine_limbs _) (fine_limbs _) (by rw [h1.len]; exact l1) (by rw [val_limbs']; omega)
  rw [val_limbs', val_limbs'] at this
  exact this
 have hS := Lib.hid (sgn_quo x y)
 obtain ⟨d0, d1, _, _, _, _, _⟩ := h1
 obtain ⟨e0, e1, _, _, _, _, _⟩ := h2
 generalize decide (x < 0) = s1 at *
 generalize decide (y < 0) = s2 at *
 generalize x.natAbs / y.natAbs = Q at *
 generalize x.natAbs % y.natAbs = R at *
 clear l1 hy
 go_enter Tryz.func179, Tryz.ntmps179
 go_wp2
 go_quiet (fail)
 go_wp2
 go_region_with (go_at_call 218; (with_reducible refine (hD _ ?_).mono ?_); (first | exact Below.refl _ _ | exact Below.drew (Below.refl _ _) | exact drewn (Below.refl _ _) _ | exact (drewn (Below.refl _ _) _).drew); rintro e w1 ⟨aq, kq, cq, ar, kr, cr, rfl, hFq, hFr, hb1⟩; have hbw : Below w.heap.size w w1 := (by first | exact hb1 | exact undrew hb1 | exact next (drewn (Below.refl _ _) _) hb1 | exact next (drewn (Below.refl _ _) _).drew hb1))
 all_goals
  go_wp2_with fail
  refine (bgSet_any br s1 ar kr cr R _ _ (hr.stay hbw) hFr).mono ?_
  rintro e w2 ⟨rfl, rfl⟩
  go_wp2_with fail
  refine (bgSet_any b (!(s1 == s2)) aq kq cq Q _ _ ((hz.stay hbw).setOther (Ne.symm ne) _ _) (fr_grown hFq (setIn_grown _ _ _ _) hrl)).mono ?_
  rintro e w2 ⟨rfl, rfl⟩
  go_wp2
  go_ret2
  obtain ⟨q1, q2, q3, q4⟩ := hS.out
  refine ⟨aq, kq, cq, ar, kr, cr, w1, rfl, hbw, ?_, ?_, ?_⟩
  · rw [← q2]; exact hFq
  · rw [← q4]; exact hFr
  · rw [← q1, ← q3]; rfl
theorem bgLsh_any (b base B1 b1 k : Nat) (x : Int) (w : World) (hz : Zc w b) (hb : base ≤ w.heap.size) (h1 : Iz 23 w B1 b1 x) (l1 : ln x.natAbs ≤ 4294967296) (hk : k ≤ 4294967296) :
 Calls Tryz.prog 171 #[.pointer (some ⟨b, 0, none⟩), .pointer (some ⟨b1, 0, none⟩), .int .u64 (k : Int)] w (StZ 23 b base (x * 2 ^ k) w) := by
 obtain ⟨a1, n1, c1, h1⟩ := h1
 have hbl := hz.lt
 have hM : ∀ (z : Int) W, z = (k : Int) → Below w.heap.size w W → Calls Tryz.prog 206 #[.slice a1 n1 c1, .int .i64 z] W (Wd 23 (x.natAbs * 2 ^ k) W) := fun z W hzk hW => by
  have := bgUp_any a1 n1 c1 k z hzk _ W (h1.stay hW).fr.sl (by rw [h1.len]; exact l1) hk
  rwa [val_limbs'] at this
 have hS := Lib.hid (sgn_shl x k)
 have hwk : IntKind.i64.wrap (k : Int) = (k : Int) := IntWalk.i64_in _ (by omega)
 obtain ⟨d0, d1, _, _, _, _, _⟩ := h1
 generalize decide (x < 0) = s1 at *
 generalize x.natAbs * 2 ^ k = M at *
 clear l1
 go_enter Tryz.func171, Tryz.ntmps171
 go_wp2
 go_region_with (first
  | (go_at_call 206; (with_reducible refine (hM _ _ (by first | rfl | omega | simp) ?_).mono ?_); (exact (Below.refl _ _).drew); rintro e w1 ⟨ao, k, c, rfl, hF, hb1⟩; replace hb1 := undrew hb1; have f0 := cellStay d0 hb1)
  | (go_at_call 205; (with_reducible refine (bgSet_any b s1 ao k c M _ _ (hz.stay hb1) hF).mono ?_); rintro e w2 ⟨rfl, rfl⟩))
 all_goals go_wp2
 all_goals go_ret
 all_goals (unfold StZ; rw [← hS.out.1, ← hS.out.2]; exact ⟨_, _, _, w1, rfl, hb1, hF.mono hb, fr_ne hF hbl, rfl⟩)
theorem bgRsh_any (b base B1 b1 k : Nat) (x : Nat) (w : World) (hz : Zc w b) (hb : base ≤ w.heap.size) (h1 : Iz 23 w B1 b1 (x : Int)) (l1 : ln x ≤ 4294967296) (hk : k ≤ 4294967296) :
 Calls Tryz.prog 185 #[.pointer (some ⟨b, 0, none⟩), .pointer (some ⟨b1, 0, none⟩), .int .u64 (k : Int)] w (StZ 23 b base ((x / 2 ^ k : Nat) : Int) w) := by
 obtain ⟨a1, n1, c1, h1⟩ := h1
 rw [nonneg_dec (by omega), Int.natAbs_natCast] at h1
 have hbl := hz.lt
 have hM : ∀ (z : Int), z = (k : Int) → Calls Tryz.prog 227 #[.slice a1 n1 c1, .int .i64 z] w (Wd 23 (x / 2 ^ k) w) := fun z hzk => by
  have := bgDown_any a1 n1 c1 k z hzk _ w h1.fr.sl (by rw [h1.len]; exact l1) (by omega)
  rwa [val_limbs'] at this
 have hwk : IntKind.i64.wrap (k : Int) = (k : Int) := IntWalk.i64_in _ (by omega)
 have hnn : (0 : Int) ≤ ((x / 2 ^ k : Nat) : Int) := Int.natCast_nonneg _
 unfold StZ
 rw [nonneg_dec hnn, Int.natAbs_natCast]
 clear hnn
 obtain ⟨d0, d1, _, _, _, _, _⟩ := h1
 generalize x / 2 ^ k = M at *
 clear l1
 go_enter Tryz.func185, Tryz.ntmps185
 go_wp2_with (first
  | (go_at_call 227; (with_reducible refine (hM _ (by first | rfl | omega | simp)).mono ?_); rintro e w1 ⟨ao, k, c, rfl, hF, hb1⟩; have f0 := cellStay d0 hb1; have f1 := cellStay d1 hb1)
  | (go_at_call 205; (with_reducible refine (bgSet_any b false ao k c M _ _ (hz.stay hb1) hF).mono ?_); rintro e w2 ⟨rfl, rfl⟩))
 go_ret
 exact ⟨_, _, _, w1, rfl, hb1, hF.mono hb, fr_ne hF hbl, rfl⟩
theorem bgBit0_any (base b : Nat) (x d : Nat) (w : World) (h : Iz 23 w base b (x : Int)) (hd : x % 2 = d) :
 Calls Tryz.prog 180 #[.pointer (some ⟨b, 0, none⟩), .int .i64 0] w fun e w' => e = .returned (.int .u64 (d : Int)) ∧ w = w' := by
 have HD := Lib.hid hd
 clear hd
 obtain ⟨ao, k, c, h⟩ := h
 rw [nonneg_dec (by omega), Int.natAbs_natCast] at h
 have hk := h.nil
 have hs := h.fr.sl
 obtain ⟨d0, d1, _, _, _, _, _⟩ := h
 by_cases h0 : k = 0
 · have hx : Hid (d = 0) := Lib.hid (by have := HD.out; rw [hk.2 h0] at this; omega)
   subst h0
   clear hs hk
   go_enter Tryz.func180, Tryz.ntmps180
   go_wp2
   go_ret
   rw [hx.out]
   exact ⟨rfl, rfl⟩
 · obtain ⟨b2, o, rfl, hb2, hc⟩ := hs.at_ (by omega)
   have hc0 : w.cell? ⟨b2, o, none⟩ = some (.int .u32 (nth (limbs x) 0 : Int)) := hc 0 (by omega)
   have hlt := nth_lt hs.ok 0
   have hle := hs.le
   have hcap := hs.cap
   have hx : nth (limbs x) 0 % 2 = d := by
    obtain ⟨r, hr⟩ := val_nth0 (limbs x)
    rw [val_limbs'] at hr
    have := HD.out
    omega
   generalize nth (limbs x) 0 = y at *
   have hand : bits BinOp.and IntKind.u32 (y : Int) 1 = (d : Int) := by
    have := u32_and_nat y 1 hlt (by decide)
    rw [Nat.and_one_is_mod, hx] at this
    exact this
   have hd2 : d < 2 := by omega
   clear hx
   have j1 : ¬ (0 : Int) ≥ (k : Int) := by omega
   have j2 : (0 : Int) < (k : Int) := by omega
   clear hs hk hc
   go_enter Tryz.func180, Tryz.ntmps180
   go_wp2
   go_ret
   exact ⟨rfl, rfl⟩
theorem bgUint64_any (base b : Nat) (x : Nat) (w : World) (h : Iz 23 w base b (x : Int)) (hx : x < 18446744073709551616) :
 Calls Tryz.prog 187 #[.pointer (some ⟨b, 0, none⟩)] w fun e w' => e = .returned (.int .u64 (x : Int)) ∧ w = w' := by
 obtain ⟨ao, k, c, h⟩ := h
 rw [nonneg_dec (by omega), Int.natAbs_natCast] at h
 have hs := h.fr.sl
 have hv := small_words (ok_limbs x) (ln_small2 hx)
 rw [val_limbs'] at hv
 have hC := bgToUint_any ao k c (limbs x) w hs
 rw [← hv] at hC
 obtain ⟨d0, d1, _, _, _, _, _⟩ := h
 clear hs hv
 go_enter Tryz.func187, Tryz.ntmps187
 go_wp2_with (go_at_call 230; refine hC.mono ?_; rintro e w1 ⟨rfl, rfl⟩)
 go_ret
 exact ⟨rfl, rfl⟩
theorem bgNewZ_any (x : Int) (w : World) (hx : -9223372036854775808 ≤ x ∧ x ≤ 9223372036854775807) :
 Calls Tryz.prog 118 #[.int .i64 x] w (MkZ 23 x w) :=
 (bgNewInt_any x w hx).mono fun _ _ h => h.z rfl rfl
theorem bgSetZ_any (b base B1 b1 : Nat) (x : Int) (w : World) (hz : Zc w b) (hb : base ≤ w.heap.size) (h1 : Iz 23 w B1 b1 x) (l1 : ln x.natAbs ≤ 4294967296) :
 Calls Tryz.prog 184 #[.pointer (some ⟨b, 0, none⟩), .pointer (some ⟨b1, 0, none⟩)] w (StZ 23 b base x w) := by
 obtain ⟨a1, n1, c1, h1⟩ := h1
 have := bgISet_any b base B1 b1 _ a1 n1 c1 _ w hz hb h1 (by rw [h1.len]; exact l1)
 rwa [nzB_nat _ _ rfl] at this
theorem bgSignZ_any (b base : Nat) (x : Int) (w : World) (h : Iz 23 w base b x) :
 Calls Tryz.prog 126 #[.pointer (some ⟨b, 0, none⟩)] w fun e w' => e = .returned (.int .i64 x.sign) ∧ w = w' := by
 obtain ⟨a1, n1, c1, h⟩ := h
 have := bgSign_any b base _ a1 n1 c1 _ w h
 rwa [sgnI_z] at this
theorem bgCmpN_any (B1 B2 b1 b2 : Nat) (x y : Nat) (w : World) (h1 : Iz 23 w B1 b1 (x : Int)) (h2 : Iz 23 w B2 b2 (y : Int)) :
 Calls Tryz.prog 181 #[.pointer (some ⟨b1, 0, none⟩), .pointer (some ⟨b2, 0, none⟩)] w fun e w' => e = .returned (.int .i64 (cmpN x y)) ∧ Below w.heap.size w w' := by
 obtain ⟨a1, n1, c1, h1⟩ := iz_nat h1
 obtain ⟨a2, n2, c2, h2⟩ := iz_nat h2
 exact bgICmp_any B1 B2 b1 b2 a1 a2 n1 n2 c1 c2 x y w h1 h2
theorem bgBitLenZ_any (b base : Nat) (x : Int) (w : World) (h : Iz 23 w base b x) (l : ln x.natAbs ≤ 4294967296) :
 Calls Tryz.prog 121 #[.pointer (some ⟨b, 0, none⟩)] w fun e w' => e = .returned (.int .i64 (szN (limbs x.natAbs) : Int)) ∧ w = w' := by
 obtain ⟨a1, n1, c1, h⟩ := h
 exact bgIBitLen_any b base _ a1 n1 c1 _ w h (by rw [h.len]; exact l)
end
section
attribute [local go_sem ↓] Go.wp_at_zero Go.wp_at_succ
theorem bgAndLow_any (b base B1 B2 b1 b2 : Nat) (x : Nat) (w : World) (hz : Zc w b) (hb : base ≤ w.heap.size) (h1 : Iz 23 w B1 b1 (x : Int)) (h2 : Iz 23 w B2 b2 4294967295) :
 Calls Tryz.prog 186 #[.pointer (some ⟨b, 0, none⟩), .pointer (some ⟨b1, 0, none⟩), .pointer (some ⟨b2, 0, none⟩)] w (StZ 23 b base ((x % 4294967296 : Nat) : Int) w) := by
 obtain ⟨i0, hi0, hz0, hz1, hz2⟩ := info_parts u32_infoL
 obtain ⟨a1, n1, c1, h1⟩ := iz_nat h1
 obtain ⟨a2, n2, c2, h2⟩ := iz_nat (x := 4294967295) h2
 have hbl := hz.lt
 have hnn : (0 : Int) ≤ ((x % 4294967296 : Nat) : Int) := Int.natCast_nonneg _
 unfold StZ
 rw [nonneg_dec hnn, Int.natAbs_natCast]
 clear hnn
 have s1 := h1.fr.sl
 have s2 := h2.fr.sl
 have hl2 : n2 = 1 := by rw [h2.len]; decide
 subst hl2
 have hnil := h1.nil
 obtain ⟨d0, d1, _, _, _, _, _⟩ := h1
 obtain ⟨e0, e1, _, _, _, _, _⟩ := h2
 have hcap1 := s1.cap
 have hle1 := s1.le
 have hcap2 := s2.cap
 have hle2 := s2.le
 by_cases h0 : n1 = 0
 · have hx0 : Hid (x % 4294967296 = val (List.replicate 0 0)) := Lib.hid (by rw [hnil.2 h0]; rfl)
   subst h0
   have j0 : min (0 : Int) 1 = 0 := by decide
   clear hnil s1 s2
   go_enter Tryz.func186, Tryz.ntmps186
   go_wp2
   go_quiet (fail)
   rename_i nq
   generalize hwq : w.drewN nq = wq
   have hbq : Below w.heap.size w wq := hwq ▸ drewn (Below.refl _ _) nq
   have HSQ : Hid (wq.heap.size = w.heap.size) := Lib.hid (by rw [← hwq]; rfl)
   clear hwq
   go_wp2_with (at_make; refine wpList_make_full _ rfl _ _ 128 rfl wq.heap.size 23 i0 _ 1 Tryz.underlying128 hi0 hz0 hz1 _ _ _ _ (0) rfl rfl rfl rfl (by rw [hz2]; omega) (by unfold maxLen; omega) (Nat.le_refl _) ?_; intro w1 hown hg1; rw [made_lvs] at hown; have hb1 := (Below.refl wq.heap.size wq).grown hg1 (Nat.le_refl _) (by simp))
   have f0 := (cellStay (cellStay d0 hbq) hb1)
   have hbw := next hbq hb1
   go_loopw [9] (fun iv wr => iv = .int .i64 0 ∧ wr = w1) (fun _ _ => 0)
   case atStart => exact ⟨rfl, rfl⟩
   case round =>
    obtain ⟨rfl, rfl⟩ := hrel
    go_wp2_with fail
    with_reducible refine (bgSetRaw_any b wq.heap.size wq.heap.size 0 0 false (List.replicate 0 0) _ (hz.stay hbw) hown (ok_replicate 0)).mono ?_
    rintro e w2 ⟨rfl, k, hF, rfl⟩
    go_wp2
    go_ret
    rw [hx0.out]
    exact ⟨_, _, _, _, rfl, hbw, hF.mono (by rw [HSQ.out]; exact hb), fr_ne hF (by rw [HSQ.out]; exact hbl), rfl⟩
 · obtain ⟨g1, o1, rfl, hg1', hc1⟩ := s1.at_ (by omega)
   obtain ⟨g2, o2, rfl, hg2', hc2⟩ := s2.at_ (by omega)
   have hx1 : w.cell? ⟨g1, o1, none⟩ = some (.int .u32 (nth (limbs x) 0 : Int)) := hc1 0 (by omega)
   have hx2 : w.cell? ⟨g2, o2, none⟩ = some (.int .u32 4294967295) := by
    have := hc2 0 (by omega)
    rw [show nth (limbs 4294967295) 0 = 4294967295 by decide] at this
    exact this
   have hlt := nth_lt s1.ok 0
   have hv : nth (limbs x) 0 = x % 4294967296 := by
    obtain ⟨r, hr⟩ := val_nth0 (limbs x)
    rw [val_limbs'] at hr
    omega
   rw [hv] at hx1
   clear hv hlt
   have hd : x % 4294967296 < 4294967296 := Nat.mod_lt _ (by decide)
   generalize x % 4294967296 = d at *
   have hand : bits BinOp.and IntKind.u32 (d : Int) 4294967295 = (d : Int) := by
    have := u32_and_nat d 4294967295 hd (by decide)
    rw [show (4294967295 : Nat) = 2 ^ 32 - 1 by decide, Nat.and_two_pow_sub_one_eq_mod, Nat.mod_eq_of_lt hd] at this
    exact this
   have hvd : Hid (val [d] = d) := Lib.hid (by simp [val])
   have j0 : min (n1 : Int) 1 = 1 := by omega
   have j1 : (0 : Int) < (n1 : Int) := by omega
   have j2 : 0 < n1 := by omega
   clear hnil s1 s2 hc1 hc2
   go_enter Tryz.func186, Tryz.ntmps186
   go_wp2
   go_quiet (fail)
   rename_i nq
   generalize hwq : w.drewN nq = wq
   have hbq : Below w.heap.size w wq := hwq ▸ drewn (Below.refl _ _) nq
   have HSQ : Hid (wq.heap.size = w.heap.size) := Lib.hid (by rw [← hwq]; rfl)
   clear hwq
   go_wp2_with (at_make; refine wpList_make_full _ rfl _ _ 128 rfl wq.heap.size 23 i0 _ 1 Tryz.underlying128 hi0 hz0 hz1 _ _ _ _ (1) rfl rfl rfl rfl (by rw [hz2]; omega) (by unfold maxLen; omega) (Nat.le_refl _) ?_; intro w1 hown hg1; rw [made_lvs] at hown; have hb1 := (Below.refl wq.heap.size wq).grown hg1 (Nat.le_refl _) (by simp))
   have hbw := next hbq hb1
   have f1 := cellStay d1 hbw
   have f2 := cellStay e1 hbw
   have f3 := cellStay hx1 hbw
   have f4 := cellStay hx2 hbw
   have hst := own_cell hown (j := 0) (by decide)
   have hfz := hown.frozenAt 0
   go_loopw [9] (fun iv wr => iv = .int .i64 0 ∧ wr = w1 ∨ iv = .int .i64 1 ∧ wr.ownsRow wq.heap.size 23 1 (.slice (some ⟨wq.heap.size, 0, none⟩) 1 1) 1 (lvs [d]) ∧ Below w.heap.size w wr) (fun iv _ => 1 - (intOf iv).toNat)
   case atStart => exact .inl ⟨rfl, rfl⟩
   case round =>
    rcases hrel with ⟨rfl, rfl⟩ | ⟨rfl, ho, hbr⟩
    · obtain ⟨p1, r1⟩ := (own_keep hown (Below.refl _ _).drew).stored 0 (lv d)
      have hb3 := (hbw.drew).grown r1 (by simpa using hbw.size) (by simp [HSQ.out])
      go_wp2
      go_still_tail 18, (by kernel_rfl)
      change wpList _ _ _ _ _ wr.drew
      go_wp2
      exact ⟨.inr ⟨rfl, p1, hb3⟩, by simp [intOf]⟩
    · have hs0 := hbr.size
      have hbl' : b < wq.heap.size := by rw [HSQ.out]; exact hbl
      go_wp2_with fail
      with_reducible refine (bgSetRaw_any b wq.heap.size wq.heap.size 1 1 false [d] _ (hz.stay hbr) ho (ok_cons hd ok_nil)).mono ?_
      rintro e w2 ⟨rfl, k, hF, rfl⟩
      rw [hvd.out] at hF ⊢
      go_wp2
      go_ret
      exact ⟨_, _, _, _, rfl, hbr, hF.mono (by rw [HSQ.out]; exact hb), fr_ne hF hbl', rfl⟩
theorem bgOrLow_any (b base B1 B2 b1 b2 : Nat) (x y : Nat) (w : World) (hz : Zc w b) (hb : base ≤ w.heap.size) (h1 : Iz 23 w B1 b1 (x : Int)) (h2 : Iz 23 w B2 b2 (y : Int)) (hx : x % 4294967296 = 0) (hy : y < 4294967296) (l1 : ln x ≤ 1073741824) :
 Calls Tryz.prog 172 #[.pointer (some ⟨b, 0, none⟩), .pointer (some ⟨b1, 0, none⟩), .pointer (some ⟨b2, 0, none⟩)] w (StZ 23 b base ((x + y : Nat) : Int) w) := by
 obtain ⟨i0, hi0, hz0, hz1, hz2⟩ := info_parts u32_infoL
 have hsz : (Tryz.prog.info? 23).map (·.size) = some 1 := by kernel_rfl
 obtain ⟨a1, n1, c1, h1⟩ := iz_nat h1
 obtain ⟨a2, n2, c2, h2⟩ := iz_nat h2
 have hbl := hz.lt
 have hnn : (0 : Int) ≤ ((x + y : Nat) : Int) := Int.natCast_nonneg _
 unfold StZ
 rw [nonneg_dec hnn, Int.natAbs_natCast]
 clear hnn
 have s1 := h1.fr.sl
 have s2 := h2.fr.sl
 have hn1 : n1 ≤ 1073741824 := by rw [h1.len]; exact l1
 have hn2 : n2 ≤ 1 := by rw [h2.len]; exact ln_small hy
 have hnil := h2.nil
 have hlen := s1.len
 obtain ⟨d0, d1, _, _, _, _, _⟩ := h1
 obtain ⟨e0, e1, _, _, _, _, _⟩ := h2
 have hcap1 := s1.cap
 have hle1 := s1.le
 have hcap2 := s2.cap
 have hle2 := s2.le
 obtain ⟨n, hn⟩ : ∃ n, n = max n1 n2 := ⟨_, rfl⟩
 have j0 : max (n1 : Int) (n2 : Int) = (n : Int) := by omega
 have k1 : n1 ≤ n := by omega
 have k2 : n2 ≤ n := by omega
 have k3 : n ≤ 1073741824 := by omega
 clear hn
 obtain ⟨zs0, hzs0⟩ : ∃ zs0, zs0 = limbs x ++ List.replicate (n - n1) 0 := ⟨_, rfl⟩
 have hzl : zs0.length = n := by rw [hzs0]; simp [hlen]; omega
 have hzok : Ok zs0 := by rw [hzs0]; exact ok_append (ok_limbs _) (ok_replicate _)
 have hzv : val zs0 = x := by rw [hzs0, val_append, val_replicate, val_limbs']; omega
 have hsp : splice (lvs (List.replicate n 0)) 0 (lvs (limbs x)) = lvs zs0 := by
  rw [hzs0]
  simp [splice, lvs, hlen]
 have hz00 : nth zs0 0 = 0 := by
  obtain ⟨r, hr⟩ := val_nth0 zs0
  have := nth_lt hzok 0
  rw [hzv] at hr
  omega
 have HC1 : Hid ((lvs (limbs x)).length = Nat.min n1 n) := Lib.hid (by show _ = min n1 n; simp only [lvs, List.length_map]; rw [hlen]; omega)
 have HC2 : Hid (0 < (lvs (limbs x)).length → 0 < n1) := Lib.hid (by simp only [lvs, List.length_map]; rw [hlen]; exact id)
 have HC3 : Hid (0 + (lvs (limbs x)).length ≤ (lvs (List.replicate n 0)).length) := Lib.hid (by simp only [lvs, List.length_map, List.length_replicate]; rw [hlen]; omega)
 have Hsp := Lib.hid hsp
 have HLEN := Lib.hid hlen
 have HZL := Lib.hid hzl
 have HZV := Lib.hid hzv
 have HX := Lib.hid hx
 clear hsp hzs0 hlen hx l1 hzl hzv
 go_enter Tryz.func172, Tryz.ntmps172
 go_wp2
 go_still_tail 11, (by kernel_rfl)
 change wpList _ _ _ _ _ w.drew
 generalize hwq : w.drew = wq
 have hbq : Below w.heap.size w wq := hwq ▸ (Below.refl _ _).drew
 have HSQ : Hid (wq.heap.size = w.heap.size) := Lib.hid (by rw [← hwq]; rfl)
 clear hwq
 go_wp2_with (first
  | (at_make; refine wpList_make_full _ rfl _ _ 128 rfl wq.heap.size 23 i0 _ 1 Tryz.underlying128 hi0 hz0 hz1 _ _ _ _ (n) rfl rfl rfl rfl (by rw [hz2]; omega) (by unfold maxLen; omega) (Nat.le_refl _) ?_; intro w1 hown hg1; rw [made_lvs] at hown; have hb1 := (Below.refl wq.heap.size wq).grown hg1 (Nat.le_refl _) (by simp); have hbw := next hbq hb1; have f1 := cellStay d1 hbw; have f2 := cellStay e1 hbw)
  | (refine wpList_copy_splice rfl (.tmp 22) (.tmp 26) 128 128 rfl 23 Tryz.underlying128 hsz (some ⟨wq.heap.size, 0, none⟩) a1 n n n1 c1 rfl rfl wq.heap.size 0 (lvs (List.replicate n 0)) _ (block_own hown) (lvs (limbs x)) HC1.out (fun hp => ⟨rfl, lvs_cell (s1.below hbw) (HC2.out hp)⟩) HC3.out (lvs_oneCell (limbs x)) wq.heap.size wq hb1 (Nat.le_refl _) ?_; intro w2 hw2 hb2; have hbw2 := next hbq hb2; have f2 := cellStay e1 hbw2))
 have hw3 := hw2.out
 rw [Hsp.out] at hw3
 have ho2 := own_block (base := wq.heap.size) hw3 (Nat.le_refl _) HZL.out (by unfold maxLen; omega)
 clear hw2 hw3 hown hg1 hb1
 by_cases h20 : n2 = 0
 · have hy0 : y = 0 := hnil.2 h20
   subst h20
   have hv0 : Hid (val zs0 = x + y) := Lib.hid (by rw [HZV.out, hy0]; rfl)
   clear hy0 hnil
   go_loopw [33] (fun iv wr => iv = .int .i64 0 ∧ wr = w2) (fun _ _ => 0)
   case atStart => exact ⟨rfl, rfl⟩
   case round =>
    obtain ⟨rfl, rfl⟩ := hrel
    go_wp2_with fail
    with_reducible refine (bgTrim_own _ ho2 hzok).mono ?_
    rintro e w3 ⟨k, rfl, hF, rfl⟩
    rw [hv0.out] at hF
    go_wp2_with fail
    with_reducible refine (bgSet_any b false _ k n (x + y) _ _ (hz.stay hbw2) hF).mono ?_
    rintro e w3 ⟨rfl, rfl⟩
    go_wp2
    go_ret
    exact ⟨_, _, _, _, rfl, hbw2, hF.mono (by rw [HSQ.out]; exact hb), fr_ne hF (by rw [HSQ.out]; exact hbl), rfl⟩
 · obtain rfl : n2 = 1 := by omega
   obtain ⟨g2, o2, rfl, hg2', hc2⟩ := s2.at_ (by decide)
   have hx2 : w.cell? ⟨g2, o2, none⟩ = some (.int .u32 (y : Int)) := by
    have := hc2 0 (by omega)
    have hv := val_nth0 (limbs y)
    obtain ⟨r, hr⟩ := hv
    rw [val_limbs'] at hr
    have hlt := nth_lt (ok_limbs y) 0
    rw [show nth (limbs y) 0 = y by omega] at this
    exact this
   have f4 := cellStay hx2 hbw2
   have hst : w2.cell? ⟨wq.heap.size, 0, none⟩ = some (.int .u32 0) := by
    have := own_cell ho2 (j := 0) (by omega)
    rw [hz00] at this
    exact this
   have hfz := ho2.frozenAt 0
   have hor : bits BinOp.or IntKind.u32 0 (y : Int) = (y : Int) := by
    show IntKind.u32.wrap ((BitVec.ofInt 32 0 ||| BitVec.ofInt 32 (y : Int)).toNat : Int) = _
    rw [BitVec.toNat_or, show (BitVec.ofInt 32 (y : Int)).toNat = y by rw [BitVec.ofInt_natCast, BitVec.toNat_ofNat]; exact Nat.mod_eq_of_lt (by omega), show (BitVec.ofInt 32 0).toNat = 0 by decide, Nat.zero_or, show ∀ n : Int, IntKind.u32.wrap n = n % 4294967296 from fun n => by simp [IntKind.wrap, IntKind.signed, IntKind.bits]]
    omega
   have hv1 : Hid (val (zs0.set 0 y) = x + y) := Lib.hid (by
    have := val_set (zs := zs0) (p := 0) (by rw [HZL.out]; omega) y
    rw [hz00, HZV.out] at this
    omega)
   obtain ⟨p1, r1⟩ := ho2.stored 0 (lv y)
   rw [bgLvs_set] at p1
   have hb3 := hbw2.grown r1 hbw2.size (by simp [HSQ.out])
   have P1 := Lib.hid p1
   have B3 := Lib.hid hb3
   have j4 : 0 < n := by omega
   have j5 : (0 : Int) < (n : Int) := by omega
   clear hc2 hnil r1 p1 hb3
   go_loopw [33] (fun iv wr => iv = .int .i64 0 ∧ wr = w2 ∨ iv = .int .i64 1 ∧ wr = w2.setCell ⟨wq.heap.size, 0, none⟩ (lv y)) (fun iv _ => 1 - (intOf iv).toNat)
   case atStart => exact .inl ⟨rfl, rfl⟩
   case round =>
    rcases hrel with ⟨rfl, rfl⟩ | ⟨rfl, rfl⟩
    · go_wp2
      exact ⟨.inr ⟨rfl, rfl⟩, by simp [intOf]⟩
    · have hbr := B3.out
      have ho := P1.out
      generalize w2.setCell ⟨wq.heap.size, 0, none⟩ (lv y) = wr at *
      go_wp2_with fail
      with_reducible refine (bgTrim_own _ ho (ok_set hzok hy 0)).mono ?_
      rintro e w3 ⟨k, rfl, hF, rfl⟩
      rw [hv1.out] at hF
      go_wp2_with fail
      with_reducible refine (bgSet_any b false _ k n (x + y) _ _ (hz.stay hbr) hF).mono ?_
      rintro e w3 ⟨rfl, rfl⟩
      go_wp2
      go_ret
      exact ⟨_, _, _, _, rfl, hbr, hF.mono (by rw [HSQ.out]; exact hb), fr_ne hF (by rw [HSQ.out]; exact hbl), rfl⟩
end
end Go.Proofs.YtoiifhmepniniaaGreatDoor
