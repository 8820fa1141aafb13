/-
  Contracts of numeral/numeralbig: addWords, subWords, plain, addAt. (Printed by wip/gen/bigM.py.) Contracts of numeral/numeralbig: addAt, mulWords. (Printed by wip/gen/bigX.py.) Contracts of numeral/numeralbig: mulWords, of long words by three products of halves; of any. (Printed by wip/gen/bigX.py.)
-/
import Derived.Test.YtpmncmglmobjoaaGreatDoorQbTNbB
import Derived.Test.YtpmncmglmobjoaaGreatDoorQbTMT9
import Derived.Deep.RegionWith
set_option maxHeartbeats 4000000
set_option maxRecDepth 100000
namespace Go.Proofs.YtpmncmglmobjoaaGreatDoor
open Go.RowKit Go.Lb
theorem nbLvs_set (xs : List Nat) (i v : Nat) : (lvs xs).set i (lv v) = lvs (xs.set i v) := by simp [lvs]
theorem nbU64_limb {x : Nat} (hx : x < 4294967296) : IntKind.u64.wrap (x : Int) = (x : Int) := by
 rw [IntKind.wrap_u64]
 omega
theorem nbAdd_wraps {x y c : Nat} (hx : x < 4294967296) (hy : y < 4294967296) (hc : c ≤ 1) : IntKind.u64.wrap ((x : Int) + (c : Int)) = (x : Int) + (c : Int) ∧ IntKind.u64.wrap ((x : Int) + (c : Int) + (y : Int)) = (x : Int) + (c : Int) + (y : Int) := by
 constructor <;> (rw [IntKind.wrap_u64]; omega)
theorem nbSub_wraps {x y c : Nat} (hx : x < 4294967296) (hy : y < 4294967296) (hc : c ≤ 1) : IntKind.u64.wrap (IntKind.u64.wrap ((x : Int) - (c : Int)) - (y : Int)) % 4294967296 = (sbD x y c : Int) ∧ IntKind.u64.wrap (IntKind.u64.wrap ((x : Int) - (c : Int)) - (y : Int)) / 9223372036854775808 = (sbC x y c : Int) := by
 unfold sbD sbC
 rw [IntKind.wrap_u64, IntKind.wrap_u64]
 constructor
 · omega
 · split <;> omega
theorem nbSub_wraps0 {x c : Nat} (hx : x < 4294967296) (hc : c ≤ 1) : IntKind.u64.wrap ((x : Int) - (c : Int)) % 4294967296 = (sbD x 0 c : Int) ∧ IntKind.u64.wrap ((x : Int) - (c : Int)) / 9223372036854775808 = (sbC x 0 c : Int) := by
 unfold sbD sbC
 rw [IntKind.wrap_u64]
 constructor
 · omega
 · split <;> omega
theorem nbMul_wraps {x y z c : Nat} (hx : x < 4294967296) (hy : y < 4294967296) (hz : z < 4294967296) (hc : c < 4294967296) :
 IntKind.u64.wrap ((x : Int) * (y : Int)) = (x : Int) * (y : Int) ∧ IntKind.u64.wrap ((x : Int) * (y : Int) + (z : Int)) = (x : Int) * (y : Int) + (z : Int) ∧ IntKind.u64.wrap ((x : Int) * (y : Int) + (z : Int) + (c : Int)) = (x : Int) * (y : Int) + (z : Int) + (c : Int) := by
 have h : x * y + z + c < 18446744073709551616 := by
  have : x * y ≤ 4294967295 * 4294967295 := Nat.mul_le_mul (by omega) (by omega)
  omega
 have e : (x : Int) * (y : Int) = ((x * y : Nat) : Int) := (Int.natCast_mul x y).symm
 rw [e]
 generalize x * y = p at h
 refine ⟨?_, ?_, ?_⟩ <;> (rw [IntKind.wrap_u64]; omega)
theorem nbAddW_any (a1 a2 : Option Addr) (n1 n2 c1 c2 : Nat) (xs ys : List Nat) (w : World) (h1 : Sl w a1 n1 c1 xs) (h2 : Sl w a2 n2 c2 ys) (hn1 : n1 ≤ 1073741824) (hn2 : n2 ≤ 1073741824) :
 Calls Tryz.prog 154 #[.slice a1 n1 c1, .slice a2 n2 c2] w (Wd 40 (val xs + val ys) w) := by
 obtain ⟨i0, hi0, hz0, hz1, hz2⟩ := info_parts u32_infoL
 by_cases hlt : n1 < n2
 · have hl1 : (n1 : Int) < (n2 : Int) := by omega
   have hle1 := h2.le
   have hcap1 := h2.cap
   have hlen1 := h2.len
   have hlen2 := h1.len
   have hle2 := h1.le
   have hcap2 := h1.cap
   go_enter Tryz.func154, Tryz.ntmps154
   go_wp2_with (at_make; refine wpList_make_full _ rfl _ _ 25 rfl w.heap.size 40 i0 _ 1 Tryz.underlying25 hi0 hz0 hz1 _ _ _ _ (n2 + 1) rfl rfl rfl rfl (by rw [hz2]; omega) (by unfold maxLen; omega) (Nat.le_refl _) ?_; intro w1 hown hg1; rw [made_lvs] at hown; have hb1 := (Below.refl w.heap.size w).grown hg1 (Nat.le_refl _) (by simp))
   go_loopw [6, 7] (fun cv iv wr => ∃ (i c : Nat) (zs : List Nat), i ≤ n2 ∧ cv = .int .u64 c ∧ iv = .int .i64 i ∧ Hid (Ad ys xs i zs c) ∧ wr.ownsRow w.heap.size 40 1 (.slice (some ⟨w.heap.size, 0, none⟩) (n2 + 1) (n2 + 1)) (n2 + 1) (lvs (zs ++ List.replicate (n2 + 1 - i) 0)) ∧ Below w.heap.size w wr) (fun _ iv _ => n2 - (intOf iv).toNat)
   case atStart => exact ⟨0, 0, [], by omega, rfl, rfl, Lib.hid (ad_zero ys xs), by simpa using hown, hb1⟩
   case round =>
    obtain ⟨i, c, zs, hi, rfl, rfl, HB, hownr, hbr⟩ := hrel
    have hc1 := HB.out.one
    have hzl := HB.out.len
    by_cases hin : i < n2
    · obtain ⟨b, o, rfl, hb, hc⟩ := (h2.below hbr).at_ (by omega)
      have hcell := hc i hin
      have hx := nth_lt h2.ok i
      have hy := nth_lt h1.ok i
      have j1 : (i : Int) < (n2 : Int) := by omega
      have j3 : (i : Int) < (n2 : Int) + 1 := by omega
      have HN := Lib.hid (HB.out.next h2.ok h1.ok)
      have hfz := hownr.frozenAt i
      have hst := own_cell hownr (j := i) (by omega)
      obtain ⟨o1, r1⟩ := hownr.stored i (lv ((nth ys i + nth xs i + c) % 4294967296))
      rw [set_front hzl (by omega)] at o1
      have hb3 := hbr.grown r1 hbr.size (by simp)
      obtain ⟨z2, z3⟩ := nbAdd_wraps hx hy hc1
      have z1 := nbU64_limb hx
      by_cases hin2 : i < n1
      · obtain ⟨b', o', rfl, hb', hc'⟩ := (h1.below hbr).at_ (by omega)
        have hcell2 := hc' i hin2
        have j2 : (i : Int) < (n1 : Int) := by omega
        have z4 := nbU64_limb hy
        have e1 : Hid (Value.int IntKind.u32 (((nth ys i : Int) + (c : Int) + (nth xs i : Int)) % 4294967296) = lv ((nth ys i + nth xs i + c) % 4294967296)) := Lib.hid (by unfold lv; congr 1 <;> omega)
        have e2 : Hid (((nth ys i : Int) + (c : Int) + (nth xs i : Int)) / 4294967296 = (((nth ys i + nth xs i + c) / 4294967296 : Nat) : Int)) := Lib.hid (by omega)
        clear hc hc' r1 HB
        go_wp2
        rw [e1.out, e2.out]
        exact ⟨⟨i + 1, _, _, by omega, rfl, by go_num, HN, o1, hb3⟩, by simp [intOf]; omega⟩
      · have j2 : ¬ (i : Int) < (n1 : Int) := by omega
        have hz : nth xs i = 0 := nth_over (by omega)
        rw [hz] at o1 HN hb3
        have e1 : Hid (Value.int IntKind.u32 (((nth ys i : Int) + (c : Int)) % 4294967296) = lv ((nth ys i + 0 + c) % 4294967296)) := Lib.hid (by unfold lv; congr 1 <;> omega)
        have e2 : Hid (((nth ys i : Int) + (c : Int)) / 4294967296 = (((nth ys i + 0 + c) / 4294967296 : Nat) : Int)) := Lib.hid (by omega)
        clear hc r1 HB hz z3
        go_wp2
        rw [e1.out, e2.out]
        exact ⟨⟨i + 1, _, _, by omega, rfl, by go_num, HN, o1, hb3⟩, by simp [intOf]; omega⟩
    · obtain rfl : n2 = i := by omega
      obtain ⟨hsum, hok⟩ := HB.out.sum (by omega) (by omega)
      have hfz := hownr.frozenAt n2
      have hst := own_cell hownr (j := n2) (by omega)
      obtain ⟨o1, r1⟩ := hownr.stored n2 (lv c)
      rw [set_front hzl (by omega), show n2 + 1 - (n2 + 1) = 0 by omega, List.replicate_zero, List.append_nil] at o1
      have hb3 := hbr.grown r1 hbr.size (by simp)
      have z1 : (c : Int) % 4294967296 = (c : Int) := by omega
      have Hs := Lib.hid hsum
      clear hsum r1 HB
      go_wp2_with fail
      refine (nbTrim_own _ o1 hok).mono ?_
      rintro e w2 ⟨k2, rfl, hF, rfl⟩
      rw [Hs.out, Nat.add_comm (val ys) (val xs)] at hF
      go_wp2
      go_ret
      exact ⟨_, _, _, rfl, hF, hb3⟩
 · have hl1 : ¬ (n1 : Int) < (n2 : Int) := by omega
   have hle1 := h1.le
   have hcap1 := h1.cap
   have hlen1 := h1.len
   have hlen2 := h2.len
   have hle2 := h2.le
   have hcap2 := h2.cap
   go_enter Tryz.func154, Tryz.ntmps154
   go_wp2_with (at_make; refine wpList_make_full _ rfl _ _ 25 rfl w.heap.size 40 i0 _ 1 Tryz.underlying25 hi0 hz0 hz1 _ _ _ _ (n1 + 1) rfl rfl rfl rfl (by rw [hz2]; omega) (by unfold maxLen; omega) (Nat.le_refl _) ?_; intro w1 hown hg1; rw [made_lvs] at hown; have hb1 := (Below.refl w.heap.size w).grown hg1 (Nat.le_refl _) (by simp))
   go_loopw [6, 7] (fun cv iv wr => ∃ (i c : Nat) (zs : List Nat), i ≤ n1 ∧ cv = .int .u64 c ∧ iv = .int .i64 i ∧ Hid (Ad xs ys i zs c) ∧ wr.ownsRow w.heap.size 40 1 (.slice (some ⟨w.heap.size, 0, none⟩) (n1 + 1) (n1 + 1)) (n1 + 1) (lvs (zs ++ List.replicate (n1 + 1 - i) 0)) ∧ Below w.heap.size w wr) (fun _ iv _ => n1 - (intOf iv).toNat)
   case atStart => exact ⟨0, 0, [], by omega, rfl, rfl, Lib.hid (ad_zero xs ys), by simpa using hown, hb1⟩
   case round =>
    obtain ⟨i, c, zs, hi, rfl, rfl, HB, hownr, hbr⟩ := hrel
    have hc1 := HB.out.one
    have hzl := HB.out.len
    by_cases hin : i < n1
    · obtain ⟨b, o, rfl, hb, hc⟩ := (h1.below hbr).at_ (by omega)
      have hcell := hc i hin
      have hx := nth_lt h1.ok i
      have hy := nth_lt h2.ok i
      have j1 : (i : Int) < (n1 : Int) := by omega
      have j3 : (i : Int) < (n1 : Int) + 1 := by omega
      have HN := Lib.hid (HB.out.next h1.ok h2.ok)
      have hfz := hownr.frozenAt i
      have hst := own_cell hownr (j := i) (by omega)
      obtain ⟨o1, r1⟩ := hownr.stored i (lv ((nth xs i + nth ys i + c) % 4294967296))
      rw [set_front hzl (by omega)] at o1
      have hb3 := hbr.grown r1 hbr.size (by simp)
      obtain ⟨z2, z3⟩ := nbAdd_wraps hx hy hc1
      have z1 := nbU64_limb hx
      by_cases hin2 : i < n2
      · obtain ⟨b', o', rfl, hb', hc'⟩ := (h2.below hbr).at_ (by omega)
        have hcell2 := hc' i hin2
        have j2 : (i : Int) < (n2 : Int) := by omega
        have z4 := nbU64_limb hy
        have e1 : Hid (Value.int IntKind.u32 (((nth xs i : Int) + (c : Int) + (nth ys i : Int)) % 4294967296) = lv ((nth xs i + nth ys i + c) % 4294967296)) := Lib.hid (by unfold lv; congr 1 <;> omega)
        have e2 : Hid (((nth xs i : Int) + (c : Int) + (nth ys i : Int)) / 4294967296 = (((nth xs i + nth ys i + c) / 4294967296 : Nat) : Int)) := Lib.hid (by omega)
        clear hc hc' r1 HB
        go_wp2
        rw [e1.out, e2.out]
        exact ⟨⟨i + 1, _, _, by omega, rfl, by go_num, HN, o1, hb3⟩, by simp [intOf]; omega⟩
      · have j2 : ¬ (i : Int) < (n2 : Int) := by omega
        have hz : nth ys i = 0 := nth_over (by omega)
        rw [hz] at o1 HN hb3
        have e1 : Hid (Value.int IntKind.u32 (((nth xs i : Int) + (c : Int)) % 4294967296) = lv ((nth xs i + 0 + c) % 4294967296)) := Lib.hid (by unfold lv; congr 1 <;> omega)
        have e2 : Hid (((nth xs i : Int) + (c : Int)) / 4294967296 = (((nth xs i + 0 + c) / 4294967296 : Nat) : Int)) := Lib.hid (by omega)
        clear hc r1 HB hz z3
        go_wp2
        rw [e1.out, e2.out]
        exact ⟨⟨i + 1, _, _, by omega, rfl, by go_num, HN, o1, hb3⟩, by simp [intOf]; omega⟩
    · obtain rfl : n1 = i := by omega
      obtain ⟨hsum, hok⟩ := HB.out.sum (by omega) (by omega)
      have hfz := hownr.frozenAt n1
      have hst := own_cell hownr (j := n1) (by omega)
      obtain ⟨o1, r1⟩ := hownr.stored n1 (lv c)
      rw [set_front hzl (by omega), show n1 + 1 - (n1 + 1) = 0 by omega, List.replicate_zero, List.append_nil] at o1
      have hb3 := hbr.grown r1 hbr.size (by simp)
      have z1 : (c : Int) % 4294967296 = (c : Int) := by omega
      have Hs := Lib.hid hsum
      clear hsum r1 HB
      go_wp2_with fail
      refine (nbTrim_own _ o1 hok).mono ?_
      rintro e w2 ⟨k2, rfl, hF, rfl⟩
      rw [Hs.out] at hF
      go_wp2
      go_ret
      exact ⟨_, _, _, rfl, hF, hb3⟩
theorem nbSubW_any (a1 a2 : Option Addr) (n1 n2 c1 c2 : Nat) (xs ys : List Nat) (w : World) (h1 : Sl w a1 n1 c1 xs) (h2 : Sl w a2 n2 c2 ys) (hn1 : n1 ≤ 1073741824) (hnn : n2 ≤ n1) (hle : val ys ≤ val xs) :
 Calls Tryz.prog 155 #[.slice a1 n1 c1, .slice a2 n2 c2] w (Wd 40 (val xs - val ys) w) := by
 obtain ⟨i0, hi0, hz0, hz1, hz2⟩ := info_parts u32_infoL
 have hle1 := h1.le
 have hcap1 := h1.cap
 have hlen1 := h1.len
 have hlen2 := h2.len
 have hle2 := h2.le
 have hcap2 := h2.cap
 have HL := Lib.hid hle
 clear hle
 go_enter Tryz.func155, Tryz.ntmps155
 go_wp2_with (at_make; refine wpList_make_full _ rfl _ _ 25 rfl w.heap.size 40 i0 _ 1 Tryz.underlying25 hi0 hz0 hz1 _ _ _ _ (n1) rfl rfl rfl rfl (by rw [hz2]; omega) (by unfold maxLen; omega) (Nat.le_refl _) ?_; intro w1 hown hg1; rw [made_lvs] at hown; have hb1 := (Below.refl w.heap.size w).grown hg1 (Nat.le_refl _) (by simp))
 go_loopw [6, 7] (fun cv iv wr => ∃ (i c : Nat) (zs : List Nat), i ≤ n1 ∧ cv = .int .u64 c ∧ iv = .int .i64 i ∧ Hid (Sb xs ys i zs c) ∧ wr.ownsRow w.heap.size 40 1 (.slice (some ⟨w.heap.size, 0, none⟩) n1 n1) n1 (lvs (zs ++ List.replicate (n1 - i) 0)) ∧ Below w.heap.size w wr) (fun _ iv _ => n1 - (intOf iv).toNat)
 case atStart => exact ⟨0, 0, [], by omega, rfl, rfl, Lib.hid (sb_zero xs ys), by simpa using hown, hb1⟩
 case round =>
  obtain ⟨i, c, zs, hi, rfl, rfl, HB, hownr, hbr⟩ := hrel
  have hc1 := HB.out.one
  have hzl := HB.out.len
  by_cases hin : i < n1
  · obtain ⟨b, o, rfl, hb, hc⟩ := (h1.below hbr).at_ (by omega)
    have hcell := hc i hin
    have hx := nth_lt h1.ok i
    have hy := nth_lt h2.ok i
    have j1 : (i : Int) < (n1 : Int) := by omega
    have HN := Lib.hid (HB.out.next h1.ok h2.ok)
    have hfz := hownr.frozenAt i
    have hst := own_cell hownr (j := i) (by omega)
    obtain ⟨o1, r1⟩ := hownr.stored i (lv (sbD (nth xs i) (nth ys i) c))
    rw [set_front hzl (by omega)] at o1
    have hb3 := hbr.grown r1 hbr.size (by simp)
    have z1 := nbU64_limb hx
    by_cases hin2 : i < n2
    · obtain ⟨b', o', rfl, hb', hc'⟩ := (h2.below hbr).at_ (by omega)
      have hcell2 := hc' i hin2
      have j2 : (i : Int) < (n2 : Int) := by omega
      have z4 := nbU64_limb hy
      have E := Lib.hid (nbSub_wraps hx hy hc1)
      clear hc hc' r1 HB
      go_wp2
      rw [E.out.1, E.out.2]
      exact ⟨⟨i + 1, _, _, by omega, rfl, by go_num, HN, o1, hb3⟩, by simp [intOf]; omega⟩
    · have j2 : ¬ (i : Int) < (n2 : Int) := by omega
      have hz : nth ys i = 0 := nth_over (by omega)
      rw [hz] at o1 HN hb3
      have E := Lib.hid (nbSub_wraps0 hx hc1)
      clear hc r1 HB hz
      go_wp2
      rw [E.out.1, E.out.2]
      exact ⟨⟨i + 1, _, _, by omega, rfl, by go_num, HN, o1, hb3⟩, by simp [intOf]; omega⟩
  · obtain rfl : n1 = i := by omega
    have hdf := HB.out.diff (by omega) (by omega) HL.out
    have hok := HB.out.ok
    rw [Nat.sub_self, List.replicate_zero, List.append_nil] at hownr
    have Hs := Lib.hid hdf
    clear hdf HB
    go_wp2_with fail
    refine (nbTrim_own _ hownr hok).mono ?_
    rintro e w2 ⟨k2, rfl, hF, rfl⟩
    rw [Hs.out] at hF
    go_wp2
    go_ret
    exact ⟨_, _, _, rfl, hF, hbr⟩
theorem nbPlain_any (a1 a2 : Option Addr) (n1 n2 c1 c2 : Nat) (xs ys : List Nat) (w : World) (h1 : Sl w a1 n1 c1 xs) (h2 : Sl w a2 n2 c2 ys) (hn1 : n1 ≤ 1073741824) (hn2 : n2 ≤ 1073741824) :
 Calls Tryz.prog 152 #[.slice a1 n1 c1, .slice a2 n2 c2] w (Wd 40 (val xs * val ys) w) := by
 obtain ⟨i0, hi0, hz0, hz1, hz2⟩ := info_parts u32_infoL
 have e1 := h1.len
 have e2 := h2.len
 have hle1 := h1.le
 have hcap1 := h1.cap
 have hle2 := h2.le
 have hcap2 := h2.cap
 have hM := mu_zero xs ys
 rw [e1, e2] at hM
 have HM := Lib.hid hM
 have E1 := Lib.hid e1
 have E2 := Lib.hid e2
 clear hM e1 e2
 go_enter Tryz.func152, Tryz.ntmps152
 go_wp2_with (at_make; refine wpList_make_full _ rfl _ _ 25 rfl w.heap.size 40 i0 _ 1 Tryz.underlying25 hi0 hz0 hz1 _ _ _ _ (n1 + n2) rfl rfl rfl rfl (by rw [hz2]; omega) (by unfold maxLen; omega) (Nat.le_refl _) ?_; intro w1 hown hg1; rw [made_lvs] at hown; have hb1 := (Below.refl w.heap.size w).grown hg1 (Nat.le_refl _) (by simp))
 go_loopw [6] (fun i wr => ∃ (k : Nat) (zs : List Nat), k ≤ n1 ∧ i = .int .i64 k ∧ Hid (Mu xs ys k 0 zs 0) ∧ wr.ownsRow w.heap.size 40 1 (.slice (some ⟨w.heap.size, 0, none⟩) (n1 + n2) (n1 + n2)) (n1 + n2) (lvs zs) ∧ Below w.heap.size w wr) (fun i _ => n1 - (intOf i).toNat)
 case atStart => exact ⟨0, _, by omega, rfl, HM, hown, hb1⟩
 case round =>
  obtain ⟨k, zs, hk, rfl, hmu, hownk, hbk⟩ := hrel
  clear hown hb1
  by_cases hkn : k < n1
  · obtain ⟨b, o, rfl, hb, hc⟩ := (h1.below hbk).at_ (by omega)
    have hcell := hc k hkn
    have hx1 := nth_lt h1.ok k
    have hxw := nbU64_limb hx1
    have j1 : (k : Int) < (n1 : Int) := by omega
    clear hc
    go_wp2
    go_loopw [7, 9] (fun cv j wx => ∃ (q cc : Nat) (zs : List Nat), q ≤ n2 ∧ j = .int .i64 q ∧ cv = .int .u64 cc ∧ Hid (Mu xs ys k q zs cc) ∧ wx.ownsRow w.heap.size 40 1 (.slice (some ⟨w.heap.size, 0, none⟩) (n1 + n2) (n1 + n2)) (n1 + n2) (lvs zs) ∧ Below w.heap.size w wx) (fun _ j _ => n2 - (intOf j).toNat)
    case atStart => exact ⟨0, 0, zs, by omega, rfl, rfl, hmu, hownk, hbk⟩
    case round =>
     obtain ⟨q, cc, zs, hq, rfl, rfl, hmu, hownk, hbk⟩ := hrel
     have hcc := hmu.out.lt
     by_cases hqn : q < n2
     · obtain ⟨b2, p2, rfl, hb2, hc2⟩ := (h2.below hbk).at_ (by omega)
       have hcell2 := hc2 q hqn
       have hst := own_cell hownk (j := k + q) (by omega)
       have hfz := hownk.frozenAt (k + q)
       have hd := Lib.hid (hmu.out.next h1.ok h2.ok (by rw [E1.out]; exact hkn) (by rw [E2.out]; exact hqn))
       obtain ⟨o1, r1⟩ := hownk.stored (k + q) (lv (muT xs ys zs k q cc % 4294967296))
       rw [nbLvs_set] at o1
       have hb2 := hbk.grown r1 hbk.size (by simp)
       obtain ⟨m1, m2, m3⟩ := nbMul_wraps hx1 (nth_lt h2.ok q) (nth_lt hmu.out.ok (k + q)) hcc
       have m4 := nbU64_limb (nth_lt h2.ok q)
       have m5 := nbU64_limb (nth_lt hmu.out.ok (k + q))
       have m6 : (nth xs k : Int) * (nth ys q : Int) + (nth zs (k + q) : Int) + (cc : Int) = ((muT xs ys zs k q cc : Nat) : Int) := by unfold muT; simp; omega
       rw [m6] at m3
       have j2 : (q : Int) < (n2 : Int) := by omega
       clear hc2 o1 r1 hb2
       go_wp2
       go_quiet (fail)
       rename_i nq
       obtain ⟨o1, r1⟩ := (own_drewN hownk nq).stored (k + q) (lv (muT xs ys zs k q cc % 4294967296))
       rw [nbLvs_set] at o1
       have hb2 := (drewn hbk nq).grown r1 (by simpa using hbk.size) (by simp)
       go_wp2
       exact ⟨⟨q + 1, _, _, by omega, by go_num, rfl, hd, o1, hb2⟩, by simp [intOf]; omega⟩
     · obtain rfl : q = n2 := by omega
       have hd := Mu.row (E2.out ▸ hmu.out) (by rw [E1.out]; exact hkn)
       rw [E2.out] at hd
       have hD := Lib.hid hd
       have hst := own_cell hownk (j := k + q) (by omega)
       have hfz := hownk.frozenAt (k + q)
       obtain ⟨o1, r1⟩ := hownk.stored (k + q) (lv cc)
       rw [nbLvs_set] at o1
       have hb2 := hbk.grown r1 hbk.size (by simp)
       have z1 : (cc : Int) % 4294967296 = (cc : Int) := by omega
       clear hd
       go_wp2
       exact ⟨⟨k + 1, _, by omega, by go_num, hD, o1, hb2⟩, by simp [intOf]; omega⟩
  · obtain rfl : k = n1 := by omega
    have hs := Mu.prod (E1.out ▸ hmu.out) rfl
    have hok := hmu.out.ok
    have Hs := Lib.hid hs
    clear hs
    go_wp2_with fail
    refine (nbTrim_own _ hownk hok).mono ?_
    rintro e w2 ⟨k2, rfl, hF, rfl⟩
    rw [Hs.out] at hF
    go_wp2
    go_ret
    exact ⟨_, _, _, rfl, hF, hbk⟩
theorem nbAddAt_any (g n base p : Nat) (a2 : Option Addr) (n2 c2 : Nat) (zs ys : List Nat) (w : World) (hown : w.ownsRow base 40 1 (.slice (some ⟨g, 0, none⟩) n n) n (lvs zs)) (hz : Ok zs) (h2 : Sl w a2 n2 c2 ys) (hne : blkOf a2 ≠ some g) (hn : n ≤ 4294967296) (hp : p + n2 ≤ n) (hf : val zs + 4294967296 ^ p * val ys < 4294967296 ^ n) :
 Calls Tryz.prog 153 #[.slice (some ⟨g, 0, none⟩) n n, .slice a2 n2 c2, .int .i64 (p : Int)] w fun e w' => e = .returned (.tuple #[]) ∧ ∃ ws, Ok ws ∧ val ws = val zs + 4294967296 ^ p * val ys ∧ w'.ownsRow base 40 1 (.slice (some ⟨g, 0, none⟩) n n) n (lvs ws) ∧ w.grownBy w' (some g) := by
 have hlz : zs.length = n := by have := hown.1; simpa [lvs] using this
 have hle2 := h2.le
 have hcap2 := h2.cap
 have hl2 := h2.len
 have HF := Lib.hid (hlz ▸ hf : val zs + 4294967296 ^ p * val ys < 4294967296 ^ zs.length)
 have HLZ := Lib.hid hlz
 have HL2 := Lib.hid hl2
 clear hf hlz hl2
 have hne' : ∀ b o, a2 = some ⟨b, o, none⟩ → some b ≠ some g := fun b o e hh => hne (by rw [e]; exact hh)
 go_enter Tryz.func153, Tryz.ntmps153
 go_wp2
 go_loopw [6, 7] (fun cv iv wr => ∃ (i c : Nat) (ws : List Nat), i ≤ n + 1 ∧ cv = .int .u64 c ∧ iv = .int .i64 i ∧ Hid (At zs ys p i ws c) ∧ wr.ownsRow base 40 1 (.slice (some ⟨g, 0, none⟩) n n) n (lvs ws) ∧ w.grownBy wr (some g)) (fun _ iv _ => n + 1 - (intOf iv).toNat)
 case atStart => exact ⟨0, 0, zs, by omega, rfl, rfl, Lib.hid (at_zero hz ys p), hown, grown_refl _ _⟩
 case round =>
  obtain ⟨i, c, ws, hi, rfl, rfl, HB, ho, hg⟩ := hrel
  have hc1 := HB.out.one
  by_cases hin : i < n2
  · obtain ⟨b, o, rfl, hb, hc⟩ := (h2.grown hg hne').at_ (by omega)
    have hcell := hc i hin
    have hpi : p + i < n := by omega
    have hst := own_cell ho (j := p + i) hpi
    have hfz := ho.frozenAt (p + i)
    have hx := nth_lt HB.out.ok (p + i)
    have hy := nth_lt h2.ok i
    have j1 : (i : Int) < (n2 : Int) := by omega
    have j2 : (0 : Int) ≤ (p : Int) + (i : Int) := by omega
    have j3 : (p : Int) + (i : Int) < (n : Int) := by omega
    have HN := Lib.hid (HB.out.next h2.ok (by rw [HLZ.out]; exact hpi))
    obtain ⟨o1, r1⟩ := ho.stored (p + i) (lv ((nth ws (p + i) + c + nth ys i) % 4294967296))
    rw [nbLvs_set] at o1
    have hg1 := grown_trans hg r1
    obtain ⟨z2, z3⟩ := nbAdd_wraps hx hy hc1
    have z1 := nbU64_limb hx
    have z4 := nbU64_limb hy
    have e1 : Hid (Value.int IntKind.u32 (((nth ws (p + i) : Int) + (c : Int) + (nth ys i : Int)) % 4294967296) = lv ((nth ws (p + i) + c + nth ys i) % 4294967296)) := Lib.hid (by unfold lv; congr 1 <;> omega)
    have e2 : Hid (((nth ws (p + i) : Int) + (c : Int) + (nth ys i : Int)) / 4294967296 = (((nth ws (p + i) + c + nth ys i) / 4294967296 : Nat) : Int)) := Lib.hid (by omega)
    clear hc HB r1
    go_wp2
    rw [e1.out, e2.out]
    exact ⟨⟨i + 1, _, _, by omega, rfl, by go_num, HN, o1, hg1⟩, by simp [intOf]; omega⟩
  · have j1 : ¬ (i : Int) < (n2 : Int) := by omega
    have hz0 : nth ys i = 0 := nth_over (by rw [HL2.out]; omega)
    by_cases hc0 : c = 0
    · subst hc0
      have hd := HB.out.done (by rw [HL2.out]; omega)
      have hok := HB.out.ok
      have Hd := Lib.hid hd
      clear hd HB hz0
      go_wp2
      refine bodyPost_end (v := .tuple #[]) (by simp [results, Tryz.results153, go_sem]) rfl ⟨rfl, ws, hok, Hd.out, ho, hg⟩
    · obtain rfl : c = 1 := by omega
      have hpi : p + i < n := by
       have := HB.out.room HF.out (by decide) (by rw [HL2.out]; omega)
       rwa [HLZ.out] at this
      have hst := own_cell ho (j := p + i) hpi
      have hfz := ho.frozenAt (p + i)
      have hx := nth_lt HB.out.ok (p + i)
      have j2 : (0 : Int) ≤ (p : Int) + (i : Int) := by omega
      have j3 : (p : Int) + (i : Int) < (n : Int) := by omega
      have HN := HB.out.next h2.ok (by rw [HLZ.out]; exact hpi)
      rw [hz0] at HN
      have HN' := Lib.hid HN
      obtain ⟨o1, r1⟩ := ho.stored (p + i) (lv ((nth ws (p + i) + 1 + 0) % 4294967296))
      rw [nbLvs_set] at o1
      have hg1 := grown_trans hg r1
      have z1 := nbU64_limb hx
      have z2 : IntKind.u64.wrap ((nth ws (p + i) : Int) + 1) = (nth ws (p + i) : Int) + 1 := by rw [IntKind.wrap_u64]; omega
      have e1 : Hid (Value.int IntKind.u32 (((nth ws (p + i) : Int) + 1) % 4294967296) = lv ((nth ws (p + i) + 1 + 0) % 4294967296)) := Lib.hid (by unfold lv; congr 1 <;> omega)
      have e2 : Hid (((nth ws (p + i) : Int) + 1) / 4294967296 = (((nth ws (p + i) + 1 + 0) / 4294967296 : Nat) : Int)) := Lib.hid (by omega)
      clear HB HN r1 hz0
      go_wp2
      rw [e1.out, e2.out]
      exact ⟨⟨i + 1, _, _, by omega, rfl, by go_num, HN', o1, hg1⟩, by simp [intOf]; omega⟩
def NbMulH (M : Nat) : Prop := ∀ (W : World) (b1 b2 : Option Addr) (k1 k2 e1 e2 : Nat) (us vs : List Nat), k1 + k2 < M → Sl W b1 k1 e1 us → Sl W b2 k2 e2 vs → k1 ≤ 536870912 → k2 ≤ 536870912 → Calls Tryz.prog 99 #[.slice b1 k1 e1, .slice b2 k2 e2] W (Wd 40 (val us * val vs) W)
theorem nbMulP (a1 a2 : Option Addr) (n1 n2 c1 c2 : Nat) (xs ys : List Nat) (w : World) (h1 : Sl w a1 n1 c1 xs) (h2 : Sl w a2 n2 c2 ys) (hn1 : n1 ≤ 536870912) (hn2 : n2 ≤ 536870912) (hlt : ¬ n1 < n2) (hm : n2 < 40) :
 Calls Tryz.prog 99 #[.slice a1 n1 c1, .slice a2 n2 c2] w (Wd 40 (val xs * val ys) w) := by
 have hl1 : ¬ (n1 : Int) < (n2 : Int) := by omega
 have j1 : (n2 : Int) < 40 := by omega
 go_enter Tryz.func99, Tryz.ntmps99
 go_wp2_with fail
 refine (nbPlain_any a1 a2 n1 n2 c1 c2 xs ys _ h1 h2 (by omega) (by omega)).mono ?_
 rintro e w1 ⟨a, k, c, rfl, hF, hb⟩
 go_wp2
 go_ret
 exact ⟨a, k, c, rfl, by first | exact hF | (rw [Nat.mul_comm]; exact hF), hb⟩
theorem nbMulP_sw (a1 a2 : Option Addr) (n1 n2 c1 c2 : Nat) (xs ys : List Nat) (w : World) (h1 : Sl w a1 n1 c1 xs) (h2 : Sl w a2 n2 c2 ys) (hn1 : n1 ≤ 536870912) (hn2 : n2 ≤ 536870912) (hlt : n1 < n2) (hm : n1 < 40) :
 Calls Tryz.prog 99 #[.slice a1 n1 c1, .slice a2 n2 c2] w (Wd 40 (val xs * val ys) w) := by
 have hl1 : (n1 : Int) < (n2 : Int) := by omega
 have j1 : (n1 : Int) < 40 := by omega
 go_enter Tryz.func99, Tryz.ntmps99
 go_wp2_with fail
 refine (nbPlain_any a2 a1 n2 n1 c2 c1 ys xs _ h2 h1 (by omega) (by omega)).mono ?_
 rintro e w1 ⟨a, k, c, rfl, hF, hb⟩
 go_wp2
 go_ret
 exact ⟨a, k, c, rfl, by first | exact hF | (rw [Nat.mul_comm]; exact hF), hb⟩
theorem nbMulL (a1 a2 : Option Addr) (n1 n2 c1 c2 : Nat) (xs ys : List Nat) (w : World) (h1 : Sl w a1 n1 c1 xs) (h2 : Sl w a2 n2 c2 ys) (hn1 : n1 ≤ 536870912) (hn2 : n2 ≤ 536870912) (hlt : ¬ n1 < n2) (hm : ¬ n2 < 40) (hg : 2 * n2 ≤ n1) (hI : NbMulH (n1 + n2)) :
 Calls Tryz.prog 99 #[.slice a1 n1 c1, .slice a2 n2 c2] w (Wd 40 (val xs * val ys) w) := by
 have hl1 : ¬ (n1 : Int) < (n2 : Int) := by omega
 obtain ⟨i0, hi0, hz0, hz1, hz2⟩ := info_parts u32_infoL
 have j1 : ¬ (n2 : Int) < 40 := by omega
 have j2 : (n1 : Int) ≥ 2 * (n2 : Int) := by omega
 have hleL := h1.le
 have hcapL := h1.cap
 have hlenL := Lib.hid h1.len
 have hlenS := Lib.hid h2.len
 have HI := Lib.hid hI
 clear hI
 go_enter Tryz.func99, Tryz.ntmps99
 go_wp2_with (at_make; refine wpList_make_full _ rfl _ _ 25 rfl w.heap.size 40 i0 _ 1 Tryz.underlying25 hi0 hz0 hz1 _ _ _ _ (n1 + n2 + 1) rfl rfl rfl rfl (by rw [hz2]; omega) (by unfold maxLen; omega) (Nat.le_refl _) ?_; intro w1 hown hg1; rw [made_lvs] at hown; have hb1 := (Below.refl w.heap.size w).grown hg1 (Nat.le_refl _) (by simp))
 go_loopw [6] (fun at_ wr => ∃ (p : Nat) (zs : List Nat), p ≤ n1 + n2 ∧ at_ = .int .i64 p ∧ Hid (Ok zs ∧ val zs = val (xs.take p) * val ys) ∧ wr.ownsRow w.heap.size 40 1 (.slice (some ⟨w.heap.size, 0, none⟩) (n1 + n2 + 1) (n1 + n2 + 1)) (n1 + n2 + 1) (lvs zs) ∧ Below w.heap.size w wr) (fun at_ _ => n1 + n2 - (intOf at_).toNat)
 case atStart => exact ⟨0, _, by omega, rfl, Lib.hid ⟨ok_replicate _, by have hz := val_zeros_app (n1 + n2 + 1) []; rw [List.append_nil] at hz; rw [hz]; simp [val]⟩, hown, hb1⟩
 case round =>
  obtain ⟨p, zs, hp, rfl, HZ, ho, hbk⟩ := hrel
  clear hown hb1
  by_cases hpn : p < n1
  · obtain ⟨b, o, rfl, hb, _⟩ := (h1.below hbk).at_ (by omega)
    obtain ⟨e, he⟩ : ∃ e, e = min (p + n2) n1 := ⟨_, rfl⟩
    have e1 : p < e := by omega
    have e2 : e ≤ n1 := by omega
    have e3 : min ((p : Int) + (n2 : Int)) (n1 : Int) = (e : Int) := by omega
    have e4 : e - p ≤ n2 := by omega
    have e5 : xs.take (p + n2) = xs.take e := by
     by_cases hh : p + n2 ≤ n1
     · rw [he, Nat.min_eq_left hh]
     · rw [List.take_of_length_le (by rw [hlenL.out]; omega), List.take_of_length_le (by rw [hlenL.out]; omega)]
    have hP := sl_part (h1.below hbk) hpn e2
    have HE5 := Lib.hid e5
    have j3 : (p : Int) < (n1 : Int) := by omega
    have j4 : (p : Int) ≤ (e : Int) := by omega
    have j5 : (e : Int) ≤ (c1 : Int) := by omega
    clear he e5
    have hpl : ((xs.drop p).take (e - p)).length = e - p := by rw [List.length_take, List.length_drop, hlenL.out]; omega
    have hmp := mul_part xs p e (val ys) (by omega) (by rw [hlenL.out]; exact e2)
    have hpok : Ok ((xs.drop p).take (e - p)) := ok_take (ok_drop h1.ok p) _
    have hln := len_mul hpok h2.ok
    rw [hpl, hlenS.out] at hln
    have hbd := mul_lt (n := n1 + n2 + 1) (ok_take h1.ok e) h2.ok (by rw [List.length_take, hlenL.out, hlenS.out]; omega)
    generalize hpart : (xs.drop p).take (e - p) = part at hP hmp hpok hln hpl
    clear hpart
    have HS := Lib.hid (And.intro hmp (And.intro hln hbd))
    have HPL := Lib.hid hpl
    clear hmp hln hbd hpl
    go_wp2_with fail
    refine (nbTrim_any _ _ _ _ _ hP (by intro h; cases h)).mono ?_
    rintro en wt ⟨kt, hkt, rfl, htk, rfl⟩
    have hT := sl_take hP hkt
    rw [htk] at hT
    go_wp2_with fail
    refine (HI.out wr _ _ _ _ _ _ _ _ (by omega) hT (h2.below hbk) (by omega) (by omega)).mono ?_
    rintro en wm ⟨am, km, cm, rfl, hF, hbm⟩
    rw [val_limbs'] at hF
    have hkm := hF.sl.len
    obtain ⟨hmp, hln, hbd⟩ := HS.out
    have hwr := (ho.lt _ rfl).2
    have hA := nbAddAt_any w.heap.size (n1 + n2 + 1) w.heap.size p am km cm zs (limbs (val part * val ys)) wm (own_keep ho hbm) HZ.out.1 hF.sl (fr_ne hF hwr) (by omega) (by omega) (by rw [val_limbs', HZ.out.2, hmp]; exact hbd)
    rw [val_limbs', HZ.out.2, hmp] at hA
    clear hmp hln hbd hkm
    go_wp2_with fail
    refine hA.mono ?_
    rintro en wa ⟨rfl, ws, hok, hv, hoa, hga⟩
    have hba := (next hbk hbm).grown hga (by have := hbm.size; omega) (by intro k hk; cases hk; exact Nat.le_refl _)
    go_wp2
    exact ⟨⟨p + n2, ws, by omega, by go_num, Lib.hid ⟨hok, by rw [HE5.out]; exact hv⟩, hoa, hba⟩, by simp [intOf]; omega⟩
  · have hv := HZ.out.2
    rw [List.take_of_length_le (by rw [hlenL.out]; omega)] at hv
    have hok := HZ.out.1
    have j3 : ¬ (p : Int) < (n1 : Int) := by omega
    have Hv := Lib.hid hv
    clear hv
    go_wp2_with fail
    refine (nbTrim_own _ ho hok).mono ?_
    rintro en w2 ⟨k2, rfl, hF, rfl⟩
    rw [Hv.out] at hF
    go_wp2
    go_ret
    exact ⟨_, _, _, rfl, by first | exact hF | (rw [Nat.mul_comm]; exact hF), hbk⟩
theorem nbMulL_sw (a1 a2 : Option Addr) (n1 n2 c1 c2 : Nat) (xs ys : List Nat) (w : World) (h1 : Sl w a1 n1 c1 xs) (h2 : Sl w a2 n2 c2 ys) (hn1 : n1 ≤ 536870912) (hn2 : n2 ≤ 536870912) (hlt : n1 < n2) (hm : ¬ n1 < 40) (hg : 2 * n1 ≤ n2) (hI : NbMulH (n1 + n2)) :
 Calls Tryz.prog 99 #[.slice a1 n1 c1, .slice a2 n2 c2] w (Wd 40 (val xs * val ys) w) := by
 have hl1 : (n1 : Int) < (n2 : Int) := by omega
 obtain ⟨i0, hi0, hz0, hz1, hz2⟩ := info_parts u32_infoL
 have j1 : ¬ (n1 : Int) < 40 := by omega
 have j2 : (n2 : Int) ≥ 2 * (n1 : Int) := by omega
 have hleL := h2.le
 have hcapL := h2.cap
 have hlenL := Lib.hid h2.len
 have hlenS := Lib.hid h1.len
 have HI := Lib.hid hI
 clear hI
 go_enter Tryz.func99, Tryz.ntmps99
 go_wp2_with (at_make; refine wpList_make_full _ rfl _ _ 25 rfl w.heap.size 40 i0 _ 1 Tryz.underlying25 hi0 hz0 hz1 _ _ _ _ (n2 + n1 + 1) rfl rfl rfl rfl (by rw [hz2]; omega) (by unfold maxLen; omega) (Nat.le_refl _) ?_; intro w1 hown hg1; rw [made_lvs] at hown; have hb1 := (Below.refl w.heap.size w).grown hg1 (Nat.le_refl _) (by simp))
 go_loopw [6] (fun at_ wr => ∃ (p : Nat) (zs : List Nat), p ≤ n2 + n1 ∧ at_ = .int .i64 p ∧ Hid (Ok zs ∧ val zs = val (ys.take p) * val xs) ∧ wr.ownsRow w.heap.size 40 1 (.slice (some ⟨w.heap.size, 0, none⟩) (n2 + n1 + 1) (n2 + n1 + 1)) (n2 + n1 + 1) (lvs zs) ∧ Below w.heap.size w wr) (fun at_ _ => n2 + n1 - (intOf at_).toNat)
 case atStart => exact ⟨0, _, by omega, rfl, Lib.hid ⟨ok_replicate _, by have hz := val_zeros_app (n2 + n1 + 1) []; rw [List.append_nil] at hz; rw [hz]; simp [val]⟩, hown, hb1⟩
 case round =>
  obtain ⟨p, zs, hp, rfl, HZ, ho, hbk⟩ := hrel
  clear hown hb1
  by_cases hpn : p < n2
  · obtain ⟨b, o, rfl, hb, _⟩ := (h2.below hbk).at_ (by omega)
    obtain ⟨e, he⟩ : ∃ e, e = min (p + n1) n2 := ⟨_, rfl⟩
    have e1 : p < e := by omega
    have e2 : e ≤ n2 := by omega
    have e3 : min ((p : Int) + (n1 : Int)) (n2 : Int) = (e : Int) := by omega
    have e4 : e - p ≤ n1 := by omega
    have e5 : ys.take (p + n1) = ys.take e := by
     by_cases hh : p + n1 ≤ n2
     · rw [he, Nat.min_eq_left hh]
     · rw [List.take_of_length_le (by rw [hlenL.out]; omega), List.take_of_length_le (by rw [hlenL.out]; omega)]
    have hP := sl_part (h2.below hbk) hpn e2
    have HE5 := Lib.hid e5
    have j3 : (p : Int) < (n2 : Int) := by omega
    have j4 : (p : Int) ≤ (e : Int) := by omega
    have j5 : (e : Int) ≤ (c2 : Int) := by omega
    clear he e5
    have hpl : ((ys.drop p).take (e - p)).length = e - p := by rw [List.length_take, List.length_drop, hlenL.out]; omega
    have hmp := mul_part ys p e (val xs) (by omega) (by rw [hlenL.out]; exact e2)
    have hpok : Ok ((ys.drop p).take (e - p)) := ok_take (ok_drop h2.ok p) _
    have hln := len_mul hpok h1.ok
    rw [hpl, hlenS.out] at hln
    have hbd := mul_lt (n := n2 + n1 + 1) (ok_take h2.ok e) h1.ok (by rw [List.length_take, hlenL.out, hlenS.out]; omega)
    generalize hpart : (ys.drop p).take (e - p) = part at hP hmp hpok hln hpl
    clear hpart
    have HS := Lib.hid (And.intro hmp (And.intro hln hbd))
    have HPL := Lib.hid hpl
    clear hmp hln hbd hpl
    go_wp2_with fail
    refine (nbTrim_any _ _ _ _ _ hP (by intro h; cases h)).mono ?_
    rintro en wt ⟨kt, hkt, rfl, htk, rfl⟩
    have hT := sl_take hP hkt
    rw [htk] at hT
    go_wp2_with fail
    refine (HI.out wr _ _ _ _ _ _ _ _ (by omega) hT (h1.below hbk) (by omega) (by omega)).mono ?_
    rintro en wm ⟨am, km, cm, rfl, hF, hbm⟩
    rw [val_limbs'] at hF
    have hkm := hF.sl.len
    obtain ⟨hmp, hln, hbd⟩ := HS.out
    have hwr := (ho.lt _ rfl).2
    have hA := nbAddAt_any w.heap.size (n2 + n1 + 1) w.heap.size p am km cm zs (limbs (val part * val xs)) wm (own_keep ho hbm) HZ.out.1 hF.sl (fr_ne hF hwr) (by omega) (by omega) (by rw [val_limbs', HZ.out.2, hmp]; exact hbd)
    rw [val_limbs', HZ.out.2, hmp] at hA
    clear hmp hln hbd hkm
    go_wp2_with fail
    refine hA.mono ?_
    rintro en wa ⟨rfl, ws, hok, hv, hoa, hga⟩
    have hba := (next hbk hbm).grown hga (by have := hbm.size; omega) (by intro k hk; cases hk; exact Nat.le_refl _)
    go_wp2
    exact ⟨⟨p + n1, ws, by omega, by go_num, Lib.hid ⟨hok, by rw [HE5.out]; exact hv⟩, hoa, hba⟩, by simp [intOf]; omega⟩
  · have hv := HZ.out.2
    rw [List.take_of_length_le (by rw [hlenL.out]; omega)] at hv
    have hok := HZ.out.1
    have j3 : ¬ (p : Int) < (n2 : Int) := by omega
    have Hv := Lib.hid hv
    clear hv
    go_wp2_with fail
    refine (nbTrim_own _ ho hok).mono ?_
    rintro en w2 ⟨k2, rfl, hF, rfl⟩
    rw [Hv.out] at hF
    go_wp2
    go_ret
    exact ⟨_, _, _, rfl, by first | exact hF | (rw [Nat.mul_comm]; exact hF), hbk⟩
theorem nbMulK (a1 a2 : Option Addr) (n1 n2 c1 c2 : Nat) (xs ys : List Nat) (w : World) (h1 : Sl w a1 n1 c1 xs) (h2 : Sl w a2 n2 c2 ys) (hn1 : n1 ≤ 536870912) (hn2 : n2 ≤ 536870912) (hlt : ¬ n1 < n2) (hm : ¬ n2 < 40) (hg : ¬ 2 * n2 ≤ n1) (hI : NbMulH (n1 + n2)) :
 Calls Tryz.prog 99 #[.slice a1 n1 c1, .slice a2 n2 c2] w (Wd 40 (val xs * val ys) w) := by
 have hl1 : ¬ (n1 : Int) < (n2 : Int) := by omega
 obtain ⟨i0, hi0, hz0, hz1, hz2⟩ := info_parts u32_infoL
 have j1 : ¬ (n2 : Int) < 40 := by omega
 have j2 : ¬ (n1 : Int) ≥ 2 * (n2 : Int) := by omega
 have hleL := h1.le
 have hcapL := h1.cap
 have hleS := h2.le
 have hcapS := h2.cap
 have hlenL := Lib.hid h1.len
 have hlenS := Lib.hid h2.len
 have HI := Lib.hid hI
 clear hI
 obtain ⟨h, hh⟩ : ∃ h, h = (n1 + 1) / 2 := ⟨_, rfl⟩
 have k1 : ((n1 : Int) + 1) / 2 = (h : Int) := by omega
 have k2 : ((n1 : Int) + 1).tdiv 2 = (h : Int) := by rw [Int.tdiv_eq_ediv_of_nonneg (by omega)]; exact k1
 have k3 : h ≤ n2 := by omega
 have k4 : h < n1 := by omega
 have k5 : 2 * h ≤ n1 + 1 := by omega
 have k6 : n1 ≤ 2 * h := by omega
 have k7 : (h : Int) ≤ (c1 : Int) := by omega
 have k8 : (h : Int) ≤ (c2 : Int) := by omega
 have k9 : (h : Int) ≤ (n1 : Int) := by omega
 have k10 : (h : Int) ≤ (n2 : Int) := by omega
 obtain ⟨b, o, rfl, hb, _⟩ := h1.at_ (by omega)
 obtain ⟨b', o', rfl, hb', _⟩ := h2.at_ (by omega)
 clear hh
 obtain ⟨pL, hpL⟩ : ∃ pL, (if c1 = h then (some ⟨b, o, none⟩ : Option Addr) else some ⟨b, o + h, none⟩) = pL := ⟨_, rfl⟩
 obtain ⟨pS, hpS⟩ : ∃ pS, (if c2 = h then (some ⟨b', o', none⟩ : Option Addr) else some ⟨b', o' + h, none⟩) = pS := ⟨_, rfl⟩
 go_enter Tryz.func99, Tryz.ntmps99
 go_wp2_with (at_make; refine wpList_make_full _ rfl _ _ 25 rfl w.heap.size 40 i0 _ 1 Tryz.underlying25 hi0 hz0 hz1 _ _ _ _ (n1 + n2 + 1) rfl rfl rfl rfl (by rw [hz2]; omega) (by unfold maxLen; omega) (Nat.le_refl _) ?_; intro w1 hown hg1; rw [made_lvs] at hown; have hb1 := (Below.refl w.heap.size w).grown hg1 (Nat.le_refl _) (by simp))
 go_region_with (first
  | (go_at_call 103; (with_reducible refine (nbTrim_any (some ⟨b, o, none⟩) h c1 (xs.take h) _ (sl_take (h1.below (by first | exact hb1 | exact hb1.drew)) (by omega)) ?_).mono ?_); (intro hx; cases hx); rintro en wt ⟨kt, hkt, rfl, htk, rfl⟩; have hTL := sl_take (sl_take (h1.below (hb1.drew)) (show h ≤ n1 by omega)) hkt; rw [htk] at hTL)
  | (go_at_call 103; (with_reducible refine (nbTrim_any (some ⟨b', o', none⟩) h c2 (ys.take h) _ (sl_take (h2.below (by first | exact hb1 | exact hb1.drew)) (by omega)) ?_).mono ?_); (intro hx; cases hx); rintro en wu ⟨ku, hku, rfl, huk, rfl⟩; have hTS := sl_take (sl_take (h2.below (hb1.drew)) k3) hku; rw [huk] at hTS)
  | (go_at_call 99; refine (HI.out _ _ _ kt ku _ _ _ _ (by omega) hTL hTS (by omega) (by omega)).mono ?_; rintro en wl ⟨al, kl, cl, rfl, Fl, hbl⟩; rw [val_limbs', val_limbs'] at Fl))
 have hb2 := next hb1.drew hbl
 go_wp2
 have hTL2 := sl_tail (h1.below hb2.drew) (show h ≤ n1 by omega)
 have hTS2 := sl_tail (h2.below hb2.drew) k3
 rw [hpL] at hTL2
 rw [hpS] at hTS2
 go_region_with (go_at_call 99; refine (HI.out _ _ _ (n1 - h) (n2 - h) _ _ _ _ (by omega) hTL2 hTS2 (by omega) (by omega)).mono ?_; rintro en wh ⟨ah, kh, ch, rfl, Fh, hbh⟩)
 have hb3 := next hb2.drew hbh
 have vLl : val (xs.take h) < 4294967296 ^ h := by have := val_lt (ok_take h1.ok h); rwa [List.length_take, hlenL.out, Nat.min_eq_left (by omega)] at this
 have vSl : val (ys.take h) < 4294967296 ^ h := by have := val_lt (ok_take h2.ok h); rwa [List.length_take, hlenS.out, Nat.min_eq_left k3] at this
 have vLh : val (xs.drop h) < 4294967296 ^ h := Nat.lt_of_lt_of_le (val_lt (ok_drop h1.ok h)) (Nat.pow_le_pow_right (by decide) (by rw [List.length_drop, hlenL.out]; omega))
 have vSh : val (ys.drop h) < 4294967296 ^ h := Nat.lt_of_lt_of_le (val_lt (ok_drop h2.ok h)) (Nat.pow_le_pow_right (by decide) (by rw [List.length_drop, hlenS.out]; omega))
 have lL := len_add vLl vLh
 have lS := len_add vSl vSh
 have hTL4 := sl_tail (h1.below hb3.drew) (show h ≤ n1 by omega)
 rw [hpL] at hTL4
 go_wp2
 go_region_with (first
  | (go_at_call 103; (with_reducible refine (nbTrim_any (some ⟨b, o, none⟩) h c1 (xs.take h) _ (sl_take (h1.below hb3.drew) (by omega)) ?_).mono ?_); (intro hx; cases hx); rintro en wt ⟨kt3, hkt3, rfl, htk3, rfl⟩; have hTL3 := sl_take (sl_take (h1.below (hb3.drew)) (show h ≤ n1 by omega)) hkt3; rw [htk3] at hTL3)
  | (go_at_call 154; (with_reducible refine (nbAddW_any (some ⟨b, o, none⟩) pL kt3 (n1 - h) _ _ _ _ _ hTL3 hTL4 (by omega) (by omega)).mono ?_); rintro en w5 ⟨a5, k5, c5, rfl, F5, hb5⟩; rw [val_limbs'] at F5; have hb6 := next hb3.drew hb5; have hk5 := F5.sl.len)
  | (go_at_call 103; (with_reducible refine (nbTrim_any (some ⟨b', o', none⟩) h c2 (ys.take h) _ (sl_take (h2.below hb6) (by omega)) ?_).mono ?_); (intro hx; cases hx); rintro en wu ⟨ku3, hku3, rfl, huk3, rfl⟩; have hTS3 := sl_take (sl_take (h2.below hb6) k3) hku3; rw [huk3] at hTS3; have hTS4 := sl_tail (h2.below hb6) k3; rw [hpS] at hTS4)
  | (go_at_call 154; (with_reducible refine (nbAddW_any (some ⟨b', o', none⟩) pS ku3 (n2 - h) _ _ _ _ _ hTS3 hTS4 (by omega) (by omega)).mono ?_); rintro en w7 ⟨a7, k7', c7, rfl, F7, hb7⟩; rw [val_limbs'] at F7; have hk7 := F7.sl.len)
  | (go_at_call 99; refine (HI.out _ _ _ k5 k7' _ _ _ _ (by omega) (F5.sl.below hb7) F7.sl (by omega) (by omega)).mono ?_; rintro en wm ⟨am, km, cm, rfl, Fm, hbm⟩; rw [val_limbs', val_limbs'] at Fm))
 have hb8 := next (next hb6 hb7) hbm
 have BH := next (next (undrew hb5) hb7) hbm
 have BL := next (undrew hbh) BH
 have B1 := next (undrew hbl) BL
 have hwr := (hown.lt _ rfl).2
 have sz1 : w.heap.size < wl.heap.size := Nat.lt_of_lt_of_le hwr (undrew hbl).size
 have sz2 : w.heap.size < wm.heap.size := Nat.lt_of_lt_of_le hwr B1.size
 have FL := Fl.below BL
 have FH := Fh.below BH
 have hoM := own_keep hown B1
 have hcL := val_cut xs h (by rw [hlenL.out]; omega)
 have hcS := val_cut ys h (by rw [hlenS.out]; exact k3)
 have hbd := mul_lt (n := n1 + n2 + 1) h1.ok h2.ok (by rw [hlenL.out, hlenS.out]; omega)
 have HT := Lib.hid hbd
 have HV := Lib.hid (And.intro hcL.symm hcS.symm)
 rw [hcL, hcS] at hbd HT
 have hfit := kara_fit hbd (by omega)
 have hKL := kara_le (val (xs.take h)) (val (xs.drop h)) (val (ys.take h)) (val (ys.drop h))
 have hkm0 := len_mul (ok_limbs (val (xs.take h) + val (xs.drop h))) (ok_limbs (val (ys.take h) + val (ys.drop h)))
 rw [val_limbs', val_limbs'] at hkm0
 have hkm1 : km ≤ 2 * h + 2 := by rw [← Fm.sl.len]; omega
 clear hkm0 hTL hTS hTL2 hTS2 hTL4 hTS3 hTS4 hTL3 F5 F7 hcL hcS hbd vLl vSl vLh vSh lL lS hb1 hb2 hb3 hb5 hb6 hb7 hbm hbh hbl BH BL B1 Fl Fh hown hg1 hpL hpS
 generalize val (xs.take h) = A at *
 generalize val (xs.drop h) = B at *
 generalize val (ys.take h) = C at *
 generalize val (ys.drop h) = D at *
 have hkl := FL.sl.len
 have hkh := FH.sl.len
 have hkm := Fm.sl.len
 have hm1 := limbs_mono hKL.1
 rw [hkl, hkm] at hm1
 have hS1 := nbSubW_any am al km kl cm cl _ _ wm Fm.sl FL.sl (by omega) hm1 (by rw [val_limbs', val_limbs']; exact hKL.1)
 rw [val_limbs', val_limbs'] at hS1
 clear hm1
 go_wp2_with fail
 refine hS1.mono ?_
 rintro en ws1 ⟨as1, ks1, cs1, rfl, Fs1, hbs1⟩
 have hk1 := Fs1.sl.len
 have hm2 := limbs_mono hKL.2
 have hm3 := limbs_mono (Nat.sub_le ((A + B) * (C + D)) (A * C))
 rw [hkh, hk1] at hm2
 rw [hk1, hkm] at hm3
 have hS2 := nbSubW_any as1 ah ks1 kh cs1 ch _ _ ws1 Fs1.sl (FH.below hbs1).sl (by omega) hm2 (by rw [val_limbs', val_limbs']; exact hKL.2)
 rw [val_limbs', val_limbs'] at hS2
 clear hm2 hm3 hS1 hKL
 go_wp2_with fail
 refine hS2.mono ?_
 rintro en ws2 ⟨as2, ks2, cs2, rfl, Fs2, hbs2⟩
 have hbm2 := next hbs1 hbs2
 have sz3 : w.heap.size < ws1.heap.size := Nat.lt_of_lt_of_le sz2 hbs1.size
 have FL2 := FL.below hbm2
 have FH2 := FH.below hbm2
 have hk2 := Fs2.sl.len
 obtain ⟨f1, f2, f3, f4, f5, f6⟩ := hfit
 rw [hkl] at f1
 rw [hk2] at f2
 rw [hkh] at f3
 have hb9 := next hb8 hbm2
 have hA1 := nbAddAt_any w.heap.size (n1 + n2 + 1) w.heap.size 0 al kl cl (List.replicate (n1 + n2 + 1) 0) (limbs (A * C)) ws2 (own_keep hoM hbm2) (ok_replicate _) FL2.sl (fr_ne FL2 hwr) (by omega) (by omega) (by rw [val_limbs', val_replicate, Nat.pow_zero, Nat.one_mul, Nat.zero_add]; exact f4)
 rw [val_limbs', val_replicate, Nat.pow_zero, Nat.one_mul, Nat.zero_add] at hA1
 have F3 := Lib.hid (And.intro f2 (And.intro f3 (And.intro f5 f6)))
 clear f1 f2 f3 f4 f5 f6 hS2 hkl hkm hkh hk1 hk2
 go_wp2_with fail
 refine hA1.mono ?_
 rintro en wa1 ⟨rfl, zs1, ok1, hv1, ho1, hg1⟩
 have FH3 := fr_grown FH2 hg1 sz1
 have Fs3 := fr_grown Fs2 hg1 sz3
 have hA2 := nbAddAt_any w.heap.size (n1 + n2 + 1) w.heap.size h as2 ks2 cs2 zs1 _ wa1 ho1 ok1 Fs3.sl (fr_ne Fs3 sz3) (by omega) F3.out.1 (by rw [val_limbs', hv1]; exact F3.out.2.2.1)
 rw [val_limbs', hv1] at hA2
 have hb10 := hb9.grown hg1 hb9.size (by intro k hk; cases hk; exact Nat.le_refl _)
 clear hv1 hA1
 go_wp2_with fail
 refine hA2.mono ?_
 rintro en wa2 ⟨rfl, zs2, ok2, hv2, ho2, hg2⟩
 have FH4 := fr_grown FH3 hg2 sz1
 have hA3 := nbAddAt_any w.heap.size (n1 + n2 + 1) w.heap.size (2 * h) ah kh ch zs2 _ wa2 ho2 ok2 FH4.sl (fr_ne FH4 sz1) (by omega) F3.out.2.1 (by rw [val_limbs', hv2, F3.out.2.2.2]; exact HT.out)
 rw [val_limbs', hv2, F3.out.2.2.2, show ((2 * h : Nat) : Int) = 2 * (h : Int) by omega] at hA3
 have hb11 := hb10.grown hg2 hb10.size (by intro k hk; cases hk; exact Nat.le_refl _)
 clear hv2 hA2
 go_wp2_with fail
 refine hA3.mono ?_
 rintro en wa3 ⟨rfl, zs3, ok3, hv3, ho3, hg3⟩
 have hb12 := hb11.grown hg3 hb11.size (by intro k hk; cases hk; exact Nat.le_refl _)
 have Hv := Lib.hid hv3
 clear hv3 hA3
 go_wp2_with fail
 refine (nbTrim_own _ ho3 ok3).mono ?_
 rintro en w2 ⟨k2, rfl, hF, rfl⟩
 rw [Hv.out, HV.out.1, HV.out.2] at hF
 go_wp2
 go_ret
 exact ⟨_, _, _, rfl, by first | exact hF | (rw [Nat.mul_comm]; exact hF), hb12⟩
theorem nbMulK_sw (a1 a2 : Option Addr) (n1 n2 c1 c2 : Nat) (xs ys : List Nat) (w : World) (h1 : Sl w a1 n1 c1 xs) (h2 : Sl w a2 n2 c2 ys) (hn1 : n1 ≤ 536870912) (hn2 : n2 ≤ 536870912) (hlt : n1 < n2) (hm : ¬ n1 < 40) (hg : ¬ 2 * n1 ≤ n2) (hI : NbMulH (n1 + n2)) :
 Calls Tryz.prog 99 #[.slice a1 n1 c1, .slice a2 n2 c2] w (Wd 40 (val xs * val ys) w) := by
 have hl1 : (n1 : Int) < (n2 : Int) := by omega
 obtain ⟨i0, hi0, hz0, hz1, hz2⟩ := info_parts u32_infoL
 have j1 : ¬ (n1 : Int) < 40 := by omega
 have j2 : ¬ (n2 : Int) ≥ 2 * (n1 : Int) := by omega
 have hleL := h2.le
 have hcapL := h2.cap
 have hleS := h1.le
 have hcapS := h1.cap
 have hlenL := Lib.hid h2.len
 have hlenS := Lib.hid h1.len
 have HI := Lib.hid hI
 clear hI
 obtain ⟨h, hh⟩ : ∃ h, h = (n2 + 1) / 2 := ⟨_, rfl⟩
 have k1 : ((n2 : Int) + 1) / 2 = (h : Int) := by omega
 have k2 : ((n2 : Int) + 1).tdiv 2 = (h : Int) := by rw [Int.tdiv_eq_ediv_of_nonneg (by omega)]; exact k1
 have k3 : h ≤ n1 := by omega
 have k4 : h < n2 := by omega
 have k5 : 2 * h ≤ n2 + 1 := by omega
 have k6 : n2 ≤ 2 * h := by omega
 have k7 : (h : Int) ≤ (c2 : Int) := by omega
 have k8 : (h : Int) ≤ (c1 : Int) := by omega
 have k9 : (h : Int) ≤ (n2 : Int) := by omega
 have k10 : (h : Int) ≤ (n1 : Int) := by omega
 obtain ⟨b, o, rfl, hb, _⟩ := h2.at_ (by omega)
 obtain ⟨b', o', rfl, hb', _⟩ := h1.at_ (by omega)
 clear hh
 obtain ⟨pL, hpL⟩ : ∃ pL, (if c2 = h then (some ⟨b, o, none⟩ : Option Addr) else some ⟨b, o + h, none⟩) = pL := ⟨_, rfl⟩
 obtain ⟨pS, hpS⟩ : ∃ pS, (if c1 = h then (some ⟨b', o', none⟩ : Option Addr) else some ⟨b', o' + h, none⟩) = pS := ⟨_, rfl⟩
 go_enter Tryz.func99, Tryz.ntmps99
 go_wp2_with (at_make; refine wpList_make_full _ rfl _ _ 25 rfl w.heap.size 40 i0 _ 1 Tryz.underlying25 hi0 hz0 hz1 _ _ _ _ (n2 + n1 + 1) rfl rfl rfl rfl (by rw [hz2]; omega) (by unfold maxLen; omega) (Nat.le_refl _) ?_; intro w1 hown hg1; rw [made_lvs] at hown; have hb1 := (Below.refl w.heap.size w).grown hg1 (Nat.le_refl _) (by simp))
 go_region_with (first
  | (go_at_call 103; (with_reducible refine (nbTrim_any (some ⟨b, o, none⟩) h c2 (ys.take h) _ (sl_take (h2.below (by first | exact hb1 | exact hb1.drew)) (by omega)) ?_).mono ?_); (intro hx; cases hx); rintro en wt ⟨kt, hkt, rfl, htk, rfl⟩; have hTL := sl_take (sl_take (h2.below (hb1.drew)) (show h ≤ n2 by omega)) hkt; rw [htk] at hTL)
  | (go_at_call 103; (with_reducible refine (nbTrim_any (some ⟨b', o', none⟩) h c1 (xs.take h) _ (sl_take (h1.below (by first | exact hb1 | exact hb1.drew)) (by omega)) ?_).mono ?_); (intro hx; cases hx); rintro en wu ⟨ku, hku, rfl, huk, rfl⟩; have hTS := sl_take (sl_take (h1.below (hb1.drew)) k3) hku; rw [huk] at hTS)
  | (go_at_call 99; refine (HI.out _ _ _ kt ku _ _ _ _ (by omega) hTL hTS (by omega) (by omega)).mono ?_; rintro en wl ⟨al, kl, cl, rfl, Fl, hbl⟩; rw [val_limbs', val_limbs'] at Fl))
 have hb2 := next hb1.drew hbl
 go_wp2
 have hTL2 := sl_tail (h2.below hb2.drew) (show h ≤ n2 by omega)
 have hTS2 := sl_tail (h1.below hb2.drew) k3
 rw [hpL] at hTL2
 rw [hpS] at hTS2
 go_region_with (go_at_call 99; refine (HI.out _ _ _ (n2 - h) (n1 - h) _ _ _ _ (by omega) hTL2 hTS2 (by omega) (by omega)).mono ?_; rintro en wh ⟨ah, kh, ch, rfl, Fh, hbh⟩)
 have hb3 := next hb2.drew hbh
 have vLl : val (ys.take h) < 4294967296 ^ h := by have := val_lt (ok_take h2.ok h); rwa [List.length_take, hlenL.out, Nat.min_eq_left (by omega)] at this
 have vSl : val (xs.take h) < 4294967296 ^ h := by have := val_lt (ok_take h1.ok h); rwa [List.length_take, hlenS.out, Nat.min_eq_left k3] at this
 have vLh : val (ys.drop h) < 4294967296 ^ h := Nat.lt_of_lt_of_le (val_lt (ok_drop h2.ok h)) (Nat.pow_le_pow_right (by decide) (by rw [List.length_drop, hlenL.out]; omega))
 have vSh : val (xs.drop h) < 4294967296 ^ h := Nat.lt_of_lt_of_le (val_lt (ok_drop h1.ok h)) (Nat.pow_le_pow_right (by decide) (by rw [List.length_drop, hlenS.out]; omega))
 have lL := len_add vLl vLh
 have lS := len_add vSl vSh
 have hTL4 := sl_tail (h2.below hb3.drew) (show h ≤ n2 by omega)
 rw [hpL] at hTL4
 go_wp2
 go_region_with (first
  | (go_at_call 103; (with_reducible refine (nbTrim_any (some ⟨b, o, none⟩) h c2 (ys.take h) _ (sl_take (h2.below hb3.drew) (by omega)) ?_).mono ?_); (intro hx; cases hx); rintro en wt ⟨kt3, hkt3, rfl, htk3, rfl⟩; have hTL3 := sl_take (sl_take (h2.below (hb3.drew)) (show h ≤ n2 by omega)) hkt3; rw [htk3] at hTL3)
  | (go_at_call 154; (with_reducible refine (nbAddW_any (some ⟨b, o, none⟩) pL kt3 (n2 - h) _ _ _ _ _ hTL3 hTL4 (by omega) (by omega)).mono ?_); rintro en w5 ⟨a5, k5, c5, rfl, F5, hb5⟩; rw [val_limbs'] at F5; have hb6 := next hb3.drew hb5; have hk5 := F5.sl.len)
  | (go_at_call 103; (with_reducible refine (nbTrim_any (some ⟨b', o', none⟩) h c1 (xs.take h) _ (sl_take (h1.below hb6) (by omega)) ?_).mono ?_); (intro hx; cases hx); rintro en wu ⟨ku3, hku3, rfl, huk3, rfl⟩; have hTS3 := sl_take (sl_take (h1.below hb6) k3) hku3; rw [huk3] at hTS3; have hTS4 := sl_tail (h1.below hb6) k3; rw [hpS] at hTS4)
  | (go_at_call 154; (with_reducible refine (nbAddW_any (some ⟨b', o', none⟩) pS ku3 (n1 - h) _ _ _ _ _ hTS3 hTS4 (by omega) (by omega)).mono ?_); rintro en w7 ⟨a7, k7', c7, rfl, F7, hb7⟩; rw [val_limbs'] at F7; have hk7 := F7.sl.len)
  | (go_at_call 99; refine (HI.out _ _ _ k5 k7' _ _ _ _ (by omega) (F5.sl.below hb7) F7.sl (by omega) (by omega)).mono ?_; rintro en wm ⟨am, km, cm, rfl, Fm, hbm⟩; rw [val_limbs', val_limbs'] at Fm))
 have hb8 := next (next hb6 hb7) hbm
 have BH := next (next (undrew hb5) hb7) hbm
 have BL := next (undrew hbh) BH
 have B1 := next (undrew hbl) BL
 have hwr := (hown.lt _ rfl).2
 have sz1 : w.heap.size < wl.heap.size := Nat.lt_of_lt_of_le hwr (undrew hbl).size
 have sz2 : w.heap.size < wm.heap.size := Nat.lt_of_lt_of_le hwr B1.size
 have FL := Fl.below BL
 have FH := Fh.below BH
 have hoM := own_keep hown B1
 have hcL := val_cut ys h (by rw [hlenL.out]; omega)
 have hcS := val_cut xs h (by rw [hlenS.out]; exact k3)
 have hbd := mul_lt (n := n2 + n1 + 1) h2.ok h1.ok (by rw [hlenL.out, hlenS.out]; omega)
 have HT := Lib.hid hbd
 have HV := Lib.hid (And.intro hcL.symm hcS.symm)
 rw [hcL, hcS] at hbd HT
 have hfit := kara_fit hbd (by omega)
 have hKL := kara_le (val (ys.take h)) (val (ys.drop h)) (val (xs.take h)) (val (xs.drop h))
 have hkm0 := len_mul (ok_limbs (val (ys.take h) + val (ys.drop h))) (ok_limbs (val (xs.take h) + val (xs.drop h)))
 rw [val_limbs', val_limbs'] at hkm0
 have hkm1 : km ≤ 2 * h + 2 := by rw [← Fm.sl.len]; omega
 clear hkm0 hTL hTS hTL2 hTS2 hTL4 hTS3 hTS4 hTL3 F5 F7 hcL hcS hbd vLl vSl vLh vSh lL lS hb1 hb2 hb3 hb5 hb6 hb7 hbm hbh hbl BH BL B1 Fl Fh hown hg1 hpL hpS
 generalize val (ys.take h) = A at *
 generalize val (ys.drop h) = B at *
 generalize val (xs.take h) = C at *
 generalize val (xs.drop h) = D at *
 have hkl := FL.sl.len
 have hkh := FH.sl.len
 have hkm := Fm.sl.len
 have hm1 := limbs_mono hKL.1
 rw [hkl, hkm] at hm1
 have hS1 := nbSubW_any am al km kl cm cl _ _ wm Fm.sl FL.sl (by omega) hm1 (by rw [val_limbs', val_limbs']; exact hKL.1)
 rw [val_limbs', val_limbs'] at hS1
 clear hm1
 go_wp2_with fail
 refine hS1.mono ?_
 rintro en ws1 ⟨as1, ks1, cs1, rfl, Fs1, hbs1⟩
 have hk1 := Fs1.sl.len
 have hm2 := limbs_mono hKL.2
 have hm3 := limbs_mono (Nat.sub_le ((A + B) * (C + D)) (A * C))
 rw [hkh, hk1] at hm2
 rw [hk1, hkm] at hm3
 have hS2 := nbSubW_any as1 ah ks1 kh cs1 ch _ _ ws1 Fs1.sl (FH.below hbs1).sl (by omega) hm2 (by rw [val_limbs', val_limbs']; exact hKL.2)
 rw [val_limbs', val_limbs'] at hS2
 clear hm2 hm3 hS1 hKL
 go_wp2_with fail
 refine hS2.mono ?_
 rintro en ws2 ⟨as2, ks2, cs2, rfl, Fs2, hbs2⟩
 have hbm2 := next hbs1 hbs2
 have sz3 : w.heap.size < ws1.heap.size := Nat.lt_of_lt_of_le sz2 hbs1.size
 have FL2 := FL.below hbm2
 have FH2 := FH.below hbm2
 have hk2 := Fs2.sl.len
 obtain ⟨f1, f2, f3, f4, f5, f6⟩ := hfit
 rw [hkl] at f1
 rw [hk2] at f2
 rw [hkh] at f3
 have hb9 := next hb8 hbm2
 have hA1 := nbAddAt_any w.heap.size (n2 + n1 + 1) w.heap.size 0 al kl cl (List.replicate (n2 + n1 + 1) 0) (limbs (A * C)) ws2 (own_keep hoM hbm2) (ok_replicate _) FL2.sl (fr_ne FL2 hwr) (by omega) (by omega) (by rw [val_limbs', val_replicate, Nat.pow_zero, Nat.one_mul, Nat.zero_add]; exact f4)
 rw [val_limbs', val_replicate, Nat.pow_zero, Nat.one_mul, Nat.zero_add] at hA1
 have F3 := Lib.hid (And.intro f2 (And.intro f3 (And.intro f5 f6)))
 clear f1 f2 f3 f4 f5 f6 hS2 hkl hkm hkh hk1 hk2
 go_wp2_with fail
 refine hA1.mono ?_
 rintro en wa1 ⟨rfl, zs1, ok1, hv1, ho1, hg1⟩
 have FH3 := fr_grown FH2 hg1 sz1
 have Fs3 := fr_grown Fs2 hg1 sz3
 have hA2 := nbAddAt_any w.heap.size (n2 + n1 + 1) w.heap.size h as2 ks2 cs2 zs1 _ wa1 ho1 ok1 Fs3.sl (fr_ne Fs3 sz3) (by omega) F3.out.1 (by rw [val_limbs', hv1]; exact F3.out.2.2.1)
 rw [val_limbs', hv1] at hA2
 have hb10 := hb9.grown hg1 hb9.size (by intro k hk; cases hk; exact Nat.le_refl _)
 clear hv1 hA1
 go_wp2_with fail
 refine hA2.mono ?_
 rintro en wa2 ⟨rfl, zs2, ok2, hv2, ho2, hg2⟩
 have FH4 := fr_grown FH3 hg2 sz1
 have hA3 := nbAddAt_any w.heap.size (n2 + n1 + 1) w.heap.size (2 * h) ah kh ch zs2 _ wa2 ho2 ok2 FH4.sl (fr_ne FH4 sz1) (by omega) F3.out.2.1 (by rw [val_limbs', hv2, F3.out.2.2.2]; exact HT.out)
 rw [val_limbs', hv2, F3.out.2.2.2, show ((2 * h : Nat) : Int) = 2 * (h : Int) by omega] at hA3
 have hb11 := hb10.grown hg2 hb10.size (by intro k hk; cases hk; exact Nat.le_refl _)
 clear hv2 hA2
 go_wp2_with fail
 refine hA3.mono ?_
 rintro en wa3 ⟨rfl, zs3, ok3, hv3, ho3, hg3⟩
 have hb12 := hb11.grown hg3 hb11.size (by intro k hk; cases hk; exact Nat.le_refl _)
 have Hv := Lib.hid hv3
 clear hv3 hA3
 go_wp2_with fail
 refine (nbTrim_own _ ho3 ok3).mono ?_
 rintro en w2 ⟨k2, rfl, hF, rfl⟩
 rw [Hv.out, HV.out.1, HV.out.2] at hF
 go_wp2
 go_ret
 exact ⟨_, _, _, rfl, by first | exact hF | (rw [Nat.mul_comm]; exact hF), hb12⟩
theorem nbMul_of (M : Nat) : NbMulH M := by
 induction M with
 | zero => intro W b1 b2 k1 k2 e1 e2 us vs hk; exact absurd hk (by omega)
 | succ M ih =>
   intro W b1 b2 k1 k2 e1 e2 us vs hk s1 s2 h1 h2
   by_cases hM : k1 + k2 < M
   · exact ih W b1 b2 k1 k2 e1 e2 us vs hM s1 s2 h1 h2
   · obtain rfl : M = k1 + k2 := by omega
     by_cases hlt : k1 < k2
     · by_cases hm : k1 < 40
       · exact nbMulP_sw b1 b2 k1 k2 e1 e2 us vs W s1 s2 h1 h2 hlt hm
       · by_cases hg : 2 * k1 ≤ k2
         · exact nbMulL_sw b1 b2 k1 k2 e1 e2 us vs W s1 s2 h1 h2 hlt hm hg ih
         · exact nbMulK_sw b1 b2 k1 k2 e1 e2 us vs W s1 s2 h1 h2 hlt hm hg ih
     · by_cases hm : k2 < 40
       · exact nbMulP b1 b2 k1 k2 e1 e2 us vs W s1 s2 h1 h2 hlt hm
       · by_cases hg : 2 * k2 ≤ k1
         · exact nbMulL b1 b2 k1 k2 e1 e2 us vs W s1 s2 h1 h2 hlt hm hg ih
         · exact nbMulK b1 b2 k1 k2 e1 e2 us vs W s1 s2 h1 h2 hlt hm hg ih
theorem nbMulW_any (a1 a2 : Option Addr) (n1 n2 c1 c2 : Nat) (xs ys : List Nat) (w : World) (h1 : Sl w a1 n1 c1 xs) (h2 : Sl w a2 n2 c2 ys) (hn1 : n1 ≤ 536870912) (hn2 : n2 ≤ 536870912) :
 Calls Tryz.prog 99 #[.slice a1 n1 c1, .slice a2 n2 c2] w (Wd 40 (val xs * val ys) w) :=
 nbMul_of _ w a1 a2 n1 n2 c1 c2 xs ys (Nat.lt_succ_self _) h1 h2 hn1 hn2
end Go.Proofs.YtpmncmglmobjoaaGreatDoor
