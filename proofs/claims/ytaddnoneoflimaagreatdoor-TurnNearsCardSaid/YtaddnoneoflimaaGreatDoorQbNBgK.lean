/-
  Contracts of numeral/big: addWords, subWords, plain, addAt. (Printed by wip/gen/bigM.py.) Contracts of numeral/big: addAt, mulWords. (Printed by wip/gen/bigX.py.) Contracts of numeral/big: mulWords, of long words by three products of halves; of any. (Printed by wip/gen/bigX.py.)
-/
import Derived.Test.YtaddnoneoflimaaGreatDoorQbNBgB
import Derived.Test.YtaddnoneoflimaaGreatDoorQbNIntL
import Derived.Deep.RegionWith
namespace Go.Proofs.YtaddnoneoflimaaGreatDoor

open Go.RowKit Go.Lb

theorem bgLvs_set (xs : List Nat) (i v : Nat) : (lvs xs).set i (lv v) = lvs (xs.set i v) := by simp [lvs]

theorem bgU64_limb {x : Nat} (hx : x < 4294967296) : IntKind.u64.wrap (x : Int) = (x : Int) := by
  rw [IntKind.wrap_u64]
  omega

theorem bgAdd_wraps {x y c : Nat} (hx : x < 4294967296) (hy : y < 4294967296) (hc : c ≤ 1) : IntKind.u64.wrap ((x : Int) + (c : Int)) = (x : Int) + (c : Int) ∧ IntKind.u64.wrap ((x : Int) + (c : Int) + (y : Int)) = (x : Int) + (c : Int) + (y : Int) := by
  constructor <;> (rw [IntKind.wrap_u64]; omega)

theorem bgSub_wraps {x y c : Nat} (hx : x < 4294967296) (hy : y < 4294967296) (hc : c ≤ 1) : IntKind.u64.wrap (IntKind.u64.wrap ((x : Int) - (c : Int)) - (y : Int)) % 4294967296 = (sbD x y c : Int) ∧ IntKind.u64.wrap (IntKind.u64.wrap ((x : Int) - (c : Int)) - (y : Int)) / 9223372036854775808 = (sbC x y c : Int) := by
  unfold sbD sbC
  rw [IntKind.wrap_u64, IntKind.wrap_u64]
  constructor
  · omega
  · split <;> omega

theorem bgSub_wraps0 {x c : Nat} (hx : x < 4294967296) (hc : c ≤ 1) : IntKind.u64.wrap ((x : Int) - (c : Int)) % 4294967296 = (sbD x 0 c : Int) ∧ IntKind.u64.wrap ((x : Int) - (c : Int)) / 9223372036854775808 = (sbC x 0 c : Int) := by
  unfold sbD sbC
  rw [IntKind.wrap_u64]
  constructor
  · omega
  · split <;> omega

set_option maxRecDepth 100000 in
set_option maxHeartbeats 4000000 in
theorem bgAddW_any (a1 a2 : Option Addr) (n1 n2 c1 c2 : Nat) (xs ys : List Nat) (w : World) (h1 : Sl w a1 n1 c1 xs) (h2 : Sl w a2 n2 c2 ys) (hn1 : n1 ≤ 1073741824) (hn2 : n2 ≤ 1073741824) :
    Calls Tryz.prog 400 #[.slice a1 n1 c1, .slice a2 n2 c2] w (Wd 23 (val xs + val ys) w) := by
  obtain ⟨i0, hi0, hz0, hz1, hz2⟩ := info_parts u32_infoL
  by_cases hlt : n1 < n2
  · have hl1 : (n1 : Int) < (n2 : Int) := by omega
    have hle1 := h2.le
    have hcap1 := h2.cap
    have hlen1 := h2.len
    have hlen2 := h1.len
    have hle2 := h1.le
    have hcap2 := h1.cap
    go_enter Tryz.func400, Tryz.ntmps400
    go_wp2_with (at_make; refine wpList_make_full _ rfl _ _ 76 rfl w.heap.size 23 i0 _ 1 Tryz.underlying76 hi0 hz0 hz1 _ _ _ _ (n2 + 1) rfl rfl rfl rfl (by rw [hz2]; omega) (by unfold maxLen; omega) (Nat.le_refl _) ?_; intro w1 hown hg1; rw [made_lvs] at hown; have hb1 := (Below.refl w.heap.size w).grown hg1 (Nat.le_refl _) (by simp))
    go_loopw [6, 7] (fun cv iv wr => ∃ (i c : Nat) (zs : List Nat), i ≤ n2 ∧ cv = .int .u64 c ∧ iv = .int .i64 i ∧ Hid (Ad ys xs i zs c) ∧ wr.ownsRow w.heap.size 23 1 (.slice (some ⟨w.heap.size, 0, none⟩) (n2 + 1) (n2 + 1)) (n2 + 1) (lvs (zs ++ List.replicate (n2 + 1 - i) 0)) ∧ Below w.heap.size w wr) (fun _ iv _ => n2 - (intOf iv).toNat)
    case atStart => exact ⟨0, 0, [], by omega, rfl, rfl, Lib.hid (ad_zero ys xs), by simpa using hown, hb1⟩
    case round =>
      obtain ⟨i, c, zs, hi, rfl, rfl, HB, hownr, hbr⟩ := hrel
      have hc1 := HB.out.one
      have hzl := HB.out.len
      by_cases hin : i < n2
      · obtain ⟨b, o, rfl, hb, hc⟩ := (h2.below hbr).at_ (by omega)
        have hcell := hc i hin
        have hx := nth_lt h2.ok i
        have hy := nth_lt h1.ok i
        have j1 : (i : Int) < (n2 : Int) := by omega
        have j3 : (i : Int) < (n2 : Int) + 1 := by omega
        have HN := Lib.hid (HB.out.next h2.ok h1.ok)
        have hfz := hownr.frozenAt i
        have hst := own_cell hownr (j := i) (by omega)
        obtain ⟨o1, r1⟩ := hownr.stored i (lv ((nth ys i + nth xs i + c) % 4294967296))
        rw [set_front hzl (by omega)] at o1
        have hb3 := hbr.grown r1 hbr.size (by simp)
        obtain ⟨z2, z3⟩ := bgAdd_wraps hx hy hc1
        have z1 := bgU64_limb hx
        by_cases hin2 : i < n1
        · obtain ⟨b', o', rfl, hb', hc'⟩ := (h1.below hbr).at_ (by omega)
          have hcell2 := hc' i hin2
          have j2 : (i : Int) < (n1 : Int) := by omega
          have z4 := bgU64_limb hy
          have e1 : Hid (Value.int IntKind.u32 (((nth ys i : Int) + (c : Int) + (nth xs i : Int)) % 4294967296) = lv ((nth ys i + nth xs i + c) % 4294967296)) := Lib.hid (by unfold lv; congr 1 <;> omega)
          have e2 : Hid (((nth ys i : Int) + (c : Int) + (nth xs i : Int)) / 4294967296 = (((nth ys i + nth xs i + c) / 4294967296 : Nat) : Int)) := Lib.hid (by omega)
          clear hc hc' r1 HB
          go_wp2
          rw [e1.out, e2.out]
          exact ⟨⟨i + 1, _, _, by omega, rfl, by go_num, HN, o1, hb3⟩, by simp [intOf]; omega⟩
        · have j2 : ¬ (i : Int) < (n1 : Int) := by omega
          have hz : nth xs i = 0 := nth_over (by omega)
          rw [hz] at o1 HN hb3
          have e1 : Hid (Value.int IntKind.u32 (((nth ys i : Int) + (c : Int)) % 4294967296) = lv ((nth ys i + 0 + c) % 4294967296)) := Lib.hid (by unfold lv; congr 1 <;> omega)
          have e2 : Hid (((nth ys i : Int) + (c : Int)) / 4294967296 = (((nth ys i + 0 + c) / 4294967296 : Nat) : Int)) := Lib.hid (by omega)
          clear hc r1 HB hz z3
          go_wp2
          rw [e1.out, e2.out]
          exact ⟨⟨i + 1, _, _, by omega, rfl, by go_num, HN, o1, hb3⟩, by simp [intOf]; omega⟩
      · obtain rfl : n2 = i := by omega
        obtain ⟨hsum, hok⟩ := HB.out.sum (by omega) (by omega)
        have hfz := hownr.frozenAt n2
        have hst := own_cell hownr (j := n2) (by omega)
        obtain ⟨o1, r1⟩ := hownr.stored n2 (lv c)
        rw [set_front hzl (by omega), show n2 + 1 - (n2 + 1) = 0 by omega, List.replicate_zero, List.append_nil] at o1
        have hb3 := hbr.grown r1 hbr.size (by simp)
        have z1 : (c : Int) % 4294967296 = (c : Int) := by omega
        have Hs := Lib.hid hsum
        clear hsum r1 HB
        go_wp2_with fail
        refine (bgTrim_own _ o1 hok).mono ?_
        rintro e w2 ⟨k2, rfl, hF, rfl⟩
        rw [Hs.out, Nat.add_comm (val ys) (val xs)] at hF
        go_wp2
        go_ret
        exact ⟨_, _, _, rfl, hF, hb3⟩
  · have hl1 : ¬ (n1 : Int) < (n2 : Int) := by omega
    have hle1 := h1.le
    have hcap1 := h1.cap
    have hlen1 := h1.len
    have hlen2 := h2.len
    have hle2 := h2.le
    have hcap2 := h2.cap
    go_enter Tryz.func400, Tryz.ntmps400
    go_wp2_with (at_make; refine wpList_make_full _ rfl _ _ 76 rfl w.heap.size 23 i0 _ 1 Tryz.underlying76 hi0 hz0 hz1 _ _ _ _ (n1 + 1) rfl rfl rfl rfl (by rw [hz2]; omega) (by unfold maxLen; omega) (Nat.le_refl _) ?_; intro w1 hown hg1; rw [made_lvs] at hown; have hb1 := (Below.refl w.heap.size w).grown hg1 (Nat.le_refl _) (by simp))
    go_loopw [6, 7] (fun cv iv wr => ∃ (i c : Nat) (zs : List Nat), i ≤ n1 ∧ cv = .int .u64 c ∧ iv = .int .i64 i ∧ Hid (Ad xs ys i zs c) ∧ wr.ownsRow w.heap.size 23 1 (.slice (some ⟨w.heap.size, 0, none⟩) (n1 + 1) (n1 + 1)) (n1 + 1) (lvs (zs ++ List.replicate (n1 + 1 - i) 0)) ∧ Below w.heap.size w wr) (fun _ iv _ => n1 - (intOf iv).toNat)
    case atStart => exact ⟨0, 0, [], by omega, rfl, rfl, Lib.hid (ad_zero xs ys), by simpa using hown, hb1⟩
    case round =>
      obtain ⟨i, c, zs, hi, rfl, rfl, HB, hownr, hbr⟩ := hrel
      have hc1 := HB.out.one
      have hzl := HB.out.len
      by_cases hin : i < n1
      · obtain ⟨b, o, rfl, hb, hc⟩ := (h1.below hbr).at_ (by omega)
        have hcell := hc i hin
        have hx := nth_lt h1.ok i
        have hy := nth_lt h2.ok i
        have j1 : (i : Int) < (n1 : Int) := by omega
        have j3 : (i : Int) < (n1 : Int) + 1 := by omega
        have HN := Lib.hid (HB.out.next h1.ok h2.ok)
        have hfz := hownr.frozenAt i
        have hst := own_cell hownr (j := i) (by omega)
        obtain ⟨o1, r1⟩ := hownr.stored i (lv ((nth xs i + nth ys i + c) % 4294967296))
        rw [set_front hzl (by omega)] at o1
        have hb3 := hbr.grown r1 hbr.size (by simp)
        obtain ⟨z2, z3⟩ := bgAdd_wraps hx hy hc1
        have z1 := bgU64_limb hx
        by_cases hin2 : i < n2
        · obtain ⟨b', o', rfl, hb', hc'⟩ := (h2.below hbr).at_ (by omega)
          have hcell2 := hc' i hin2
          have j2 : (i : Int) < (n2 : Int) := by omega
          have z4 := bgU64_limb hy
          have e1 : Hid (Value.int IntKind.u32 (((nth xs i : Int) + (c : Int) + (nth ys i : Int)) % 4294967296) = lv ((nth xs i + nth ys i + c) % 4294967296)) := Lib.hid (by unfold lv; congr 1 <;> omega)
          have e2 : Hid (((nth xs i : Int) + (c : Int) + (nth ys i : Int)) / 4294967296 = (((nth xs i + nth ys i + c) / 4294967296 : Nat) : Int)) := Lib.hid (by omega)
          clear hc hc' r1 HB
          go_wp2
          rw [e1.out, e2.out]
          exact ⟨⟨i + 1, _, _, by omega, rfl, by go_num, HN, o1, hb3⟩, by simp [intOf]; omega⟩
        · have j2 : ¬ (i : Int) < (n2 : Int) := by omega
          have hz : nth ys i = 0 := nth_over (by omega)
          rw [hz] at o1 HN hb3
          have e1 : Hid (Value.int IntKind.u32 (((nth xs i : Int) + (c : Int)) % 4294967296) = lv ((nth xs i + 0 + c) % 4294967296)) := Lib.hid (by unfold lv; congr 1 <;> omega)
          have e2 : Hid (((nth xs i : Int) + (c : Int)) / 4294967296 = (((nth xs i + 0 + c) / 4294967296 : Nat) : Int)) := Lib.hid (by omega)
          clear hc r1 HB hz z3
          go_wp2
          rw [e1.out, e2.out]
          exact ⟨⟨i + 1, _, _, by omega, rfl, by go_num, HN, o1, hb3⟩, by simp [intOf]; omega⟩
      · obtain rfl : n1 = i := by omega
        obtain ⟨hsum, hok⟩ := HB.out.sum (by omega) (by omega)
        have hfz := hownr.frozenAt n1
        have hst := own_cell hownr (j := n1) (by omega)
        obtain ⟨o1, r1⟩ := hownr.stored n1 (lv c)
        rw [set_front hzl (by omega), show n1 + 1 - (n1 + 1) = 0 by omega, List.replicate_zero, List.append_nil] at o1
        have hb3 := hbr.grown r1 hbr.size (by simp)
        have z1 : (c : Int) % 4294967296 = (c : Int) := by omega
        have Hs := Lib.hid hsum
        clear hsum r1 HB
        go_wp2_with fail
        refine (bgTrim_own _ o1 hok).mono ?_
        rintro e w2 ⟨k2, rfl, hF, rfl⟩
        rw [Hs.out] at hF
        go_wp2
        go_ret
        exact ⟨_, _, _, rfl, hF, hb3⟩

set_option maxRecDepth 100000 in
set_option maxHeartbeats 4000000 in
theorem bgSubW_any (a1 a2 : Option Addr) (n1 n2 c1 c2 : Nat) (xs ys : List Nat) (w : World) (h1 : Sl w a1 n1 c1 xs) (h2 : Sl w a2 n2 c2 ys) (hn1 : n1 ≤ 1073741824) (hnn : n2 ≤ n1) (hle : val ys ≤ val xs) :
    Calls Tryz.prog 436 #[.slice a1 n1 c1, .slice a2 n2 c2] w (Wd 23 (val xs - val ys) w) := by
  obtain ⟨i0, hi0, hz0, hz1, hz2⟩ := info_parts u32_infoL
  have hle1 := h1.le
  have hcap1 := h1.cap
  have hlen1 := h1.len
  have hlen2 := h2.len
  have hle2 := h2.le
  have hcap2 := h2.cap
  have HL := Lib.hid hle
  clear hle
  go_enter Tryz.func436, Tryz.ntmps436
  go_wp2_with (at_make; refine wpList_make_full _ rfl _ _ 76 rfl w.heap.size 23 i0 _ 1 Tryz.underlying76 hi0 hz0 hz1 _ _ _ _ (n1) rfl rfl rfl rfl (by rw [hz2]; omega) (by unfold maxLen; omega) (Nat.le_refl _) ?_; intro w1 hown hg1; rw [made_lvs] at hown; have hb1 := (Below.refl w.heap.size w).grown hg1 (Nat.le_refl _) (by simp))
  go_loopw [6, 7] (fun cv iv wr => ∃ (i c : Nat) (zs : List Nat), i ≤ n1 ∧ cv = .int .u64 c ∧ iv = .int .i64 i ∧ Hid (Sb xs ys i zs c) ∧ wr.ownsRow w.heap.size 23 1 (.slice (some ⟨w.heap.size, 0, none⟩) n1 n1) n1 (lvs (zs ++ List.replicate (n1 - i) 0)) ∧ Below w.heap.size w wr) (fun _ iv _ => n1 - (intOf iv).toNat)
  case atStart => exact ⟨0, 0, [], by omega, rfl, rfl, Lib.hid (sb_zero xs ys), by simpa using hown, hb1⟩
  case round =>
    obtain ⟨i, c, zs, hi, rfl, rfl, HB, hownr, hbr⟩ := hrel
    have hc1 := HB.out.one
    have hzl := HB.out.len
    by_cases hin : i < n1
    · obtain ⟨b, o, rfl, hb, hc⟩ := (h1.below hbr).at_ (by omega)
      have hcell := hc i hin
      have hx := nth_lt h1.ok i
      have hy := nth_lt h2.ok i
      have j1 : (i : Int) < (n1 : Int) := by omega
      have HN := Lib.hid (HB.out.next h1.ok h2.ok)
      have hfz := hownr.frozenAt i
      have hst := own_cell hownr (j := i) (by omega)
      obtain ⟨o1, r1⟩ := hownr.stored i (lv (sbD (nth xs i) (nth ys i) c))
      rw [set_front hzl (by omega)] at o1
      have hb3 := hbr.grown r1 hbr.size (by simp)
      have z1 := bgU64_limb hx
      by_cases hin2 : i < n2
      · obtain ⟨b', o', rfl, hb', hc'⟩ := (h2.below hbr).at_ (by omega)
        have hcell2 := hc' i hin2
        have j2 : (i : Int) < (n2 : Int) := by omega
        have z4 := bgU64_limb hy
        have E := Lib.hid (bgSub_wraps hx hy hc1)
        clear hc hc' r1 HB
        go_wp2
        rw [E.out.1, E.out.2]
        exact ⟨⟨i + 1, _, _, by omega, rfl, by go_num, HN, o1, hb3⟩, by simp [intOf]; omega⟩
      · have j2 : ¬ (i : Int) < (n2 : Int) := by omega
        have hz : nth ys i = 0 := nth_over (by omega)
        rw [hz] at o1 HN hb3
        have E := Lib.hid (bgSub_wraps0 hx hc1)
        clear hc r1 HB hz
        go_wp2
        rw [E.out.1, E.out.2]
        exact ⟨⟨i + 1, _, _, by omega, rfl, by go_num, HN, o1, hb3⟩, by simp [intOf]; omega⟩
    · obtain rfl : n1 = i := by omega
      have hdf := HB.out.diff (by omega) (by omega) HL.out
      have hok := HB.out.ok
      rw [Nat.sub_self, List.replicate_zero, List.append_nil] at hownr
      have Hs := Lib.hid hdf
      clear hdf HB
      go_wp2_with fail
      refine (bgTrim_own _ hownr hok).mono ?_
      rintro e w2 ⟨k2, rfl, hF, rfl⟩
      rw [Hs.out] at hF
      go_wp2
      go_ret
      exact ⟨_, _, _, rfl, hF, hbr⟩

end Go.Proofs.YtaddnoneoflimaaGreatDoor

namespace Go.Proofs.YtaddnoneoflimaaGreatDoor

open Go.RowKit Go.Lb

end Go.Proofs.YtaddnoneoflimaaGreatDoor

namespace Go.Proofs.YtaddnoneoflimaaGreatDoor

open Go.RowKit Go.Lb

end Go.Proofs.YtaddnoneoflimaaGreatDoor

