/-
  Contracts of numeralbig: figure. (Printed by wip/gen/big.py.)
-/
import Derived.Test.YthemcdnlcgmimaaGreatDoorNbB
import Derived.Test.YthemcdnlcgmimaaGreatDoorBigL
import Derived.Deep.CutBlock
import Derived.Deep.Cut
namespace Go.Proofs.YthemcdnlcgmimaaGreatDoor
open Go.RowKit Go.Lb

set_option maxRecDepth 100000 in
set_option maxHeartbeats 8000000 in
theorem nbFigure_any {base g0 N cN : Nat} (o n cu cv : Nat) (av : Option Addr) (L vs : List Nat) (w : World) (hown : w.ownsRow base 46 1 (.slice (some ⟨g0, 0, none⟩) N cN) N (lvs L)) (hL : L.length = N) (hv : Sl w av n cv vs) (hne : ∀ b p, av = some ⟨b, p, none⟩ → b ≠ g0)
    (ho : o + n + 1 ≤ N) (hcu : n + 1 ≤ cu) (hcu2 : cu ≤ 9223372036854775807) (hF : Fu ((L.drop o).take (n + 1)) vs n) :
    Calls Tryz.prog 102 #[.slice (some ⟨g0, o, none⟩) (n + 1 : Nat) cu, .slice av n cv] w fun e w' => ∃ R, e = .returned (.int .u32 ((val ((L.drop o).take (n + 1)) / val vs : Nat) : Int)) ∧ R.length = n ∧ Ok R ∧ val R = val ((L.drop o).take (n + 1)) % val vs ∧ w'.ownsRow base 46 1 (.slice (some ⟨g0, 0, none⟩) N cN) N (lvs (L.take o ++ ((R ++ [0]) ++ L.drop (o + (n + 1))))) ∧ w.grownBy w' (some g0) := by
  have hn2 := hF.hn
  have hcv := hv.cap
  have hle := hv.le
  obtain ⟨bv, ov, rfl, hbv, hcellv⟩ := hv.at_ (by omega)
  have hbne : bv ≠ g0 := hne _ _ rfl
  obtain ⟨us, hus⟩ : ∃ us, us = (L.drop o).take (n + 1) := ⟨_, rfl⟩
  have hnu : ∀ i, i < n + 1 → nth us i = nth L (o + i) := fun i hi => by rw [hus]; exact nth_part hi
  rw [← hus] at hF ⊢
  have hcu0 : ∀ i, i < n + 1 → w.cell? ⟨g0, o + i, none⟩ = some (.int .u32 (nth us i : Int)) := fun i hi => by rw [hnu i hi]; exact own_cell hown (by omega)
  have hU := Lib.hid hcu0
  have hVc := Lib.hid hcellv
  obtain ⟨top, htop⟩ : ∃ t, t = nth vs (n - 1) := ⟨_, rfl⟩
  obtain ⟨v2, hv2⟩ : ∃ t, t = nth vs (n - 2) := ⟨_, rfl⟩
  obtain ⟨x0, hx0⟩ : ∃ t, t = nth us n := ⟨_, rfl⟩
  obtain ⟨x1, hx1⟩ : ∃ t, t = nth us (n - 1) := ⟨_, rfl⟩
  obtain ⟨x2, hx2⟩ : ∃ t, t = nth us (n - 2) := ⟨_, rfl⟩
  have l0 : x0 < 4294967296 := by rw [hx0]; exact nth_lt hF.ou n
  have l1 : x1 < 4294967296 := by rw [hx1]; exact nth_lt hF.ou _
  have l2 : x2 < 4294967296 := by rw [hx2]; exact nth_lt hF.ou _
  have lt' : top < 4294967296 := by rw [htop]; exact nth_lt hF.ov _
  have lv2 : v2 < 4294967296 := by rw [hv2]; exact nth_lt hF.ov _
  have ltop : 2147483648 ≤ top := by rw [htop]; exact hF.top
  have c0 := hcu0 n (by omega)
  have c1 := hcu0 (n - 1) (by omega)
  have cv1 := hcellv (n - 1) (by omega)
  rw [← hx0] at c0
  rw [← hx1] at c1
  rw [← htop] at cv1
  obtain ⟨num, hnum⟩ : ∃ t, t = x0 * 4294967296 + x1 := ⟨_, rfl⟩
  have hs := fg_start hF
  rw [← hx0, ← hx1, ← htop, ← hnum] at hs
  obtain ⟨gs, hgs⟩ : ∃ t, t = num / top := ⟨_, rfl⟩
  obtain ⟨rs, hrs⟩ : ∃ t, t = num % top := ⟨_, rfl⟩
  rw [← hgs, ← hrs] at hs
  have lnum : num < 18446744073709551616 := by omega
  have lrs : rs < top := by rw [hrs]; exact Nat.mod_lt _ (by omega)
  have lgs : gs ≤ 4294967297 := hs.le
  have q0 : IntKind.u64.wrap ((x0 : Int) * 4294967296) = (x0 : Int) * 4294967296 := by rw [IntKind.wrap_u64]; omega
  have q1 : bits .or .u64 ((x0 : Int) * 4294967296) (x1 : Int) = (num : Int) := by
    rw [show (x0 : Int) * 4294967296 = ((x0 * 2 ^ 32 : Nat) : Int) by omega, u64_or_nat _ _ (by omega) (by omega), or_disj (by omega), hnum]
  have q2 : (num : Int) / (top : Int) = (gs : Int) := by rw [← Int.natCast_ediv, ← hgs]
  have q3 : (num : Int).tdiv (top : Int) = (gs : Int) := by rw [Int.tdiv_eq_ediv_of_nonneg (by omega), q2]
  have q4 : (num : Int).tmod (top : Int) = (rs : Int) := by rw [hrs]; exact (Int.ofNat_tmod num top).symm
  have q5 : IntKind.u64.wrap (gs : Int) = (gs : Int) := IntWalk.u64_in _ (by omega)
  have q6 : ((top : Int) == 0) = false := by simp; omega
  have q7 : ¬ top = 0 := by omega
  have i1 : (n : Int) < (n : Int) + 1 := by omega
  have i2 : (n : Int) - 1 < (n : Int) + 1 := by omega
  have i3 : (0 : Int) ≤ (n : Int) - 1 := by omega
  have i4 : (n : Int) - 1 < (n : Int) := by omega
  have Hs := Lib.hid hs
  have HF := Lib.hid hF
  have Htop := Lib.hid htop
  have Hv2 := Lib.hid hv2
  have Hx0 := Lib.hid hx0
  have Hx2 := Lib.hid hx2
  have Hnu := Lib.hid hnu
  have Hus := Lib.hid hus
  clear hcu0 hcellv htop hv2 hx0 hx1 hx2 hnum hs hgs hrs hnu hF hus
  go_enter Tryz.func102, Tryz.ntmps102
  go_wp2
  go_quiet (fail)
  go_upto_block 0 with fail
  go_cut [8, 9] from 19 (fun gv rv wx => ∃ g r m : Nat, gv = .int .u64 (g : Int) ∧ rv = .int .u64 (r : Int) ∧ Hid (Fg us vs n g r ∧ g < 4294967296 ∧ g * nth vs (n - 2) ≤ r * 4294967296 + nth us (n - 2)) ∧ wx = w.drewN m)
  case first =>
    go_wp2
    go_loopw [8, 9] (fun gv rv wr => ∃ g r m : Nat, gv = .int .u64 (g : Int) ∧ rv = .int .u64 (r : Int) ∧ Hid (Fg us vs n g r) ∧ r < 4294967296 ∧ wr = w.drewN m) (fun gv _ _ => (intOf gv).toNat)
    case atStart => exact ⟨gs, rs, _, rfl, rfl, Hs, by omega, rfl⟩
    case round =>
      obtain ⟨g, r, m, rfl, rfl, HG, hr, rfl⟩ := hrel
      have cv2 := hVc.out (n - 2) (by omega)
      rw [← Hv2.out] at cv2
      have c2 := hU.out (n - 2) (by omega)
      rw [← Hx2.out] at c2
      have i5 : (0 : Int) ≤ (n : Int) - 2 := by omega
      have i6 : (n : Int) - 2 < (n : Int) := by omega
      have i7 : (n : Int) - 2 < (n : Int) + 1 := by omega
      by_cases hb : 4294967296 ≤ g
      · obtain ⟨s1, s2⟩ := fg_step HF.out HG.out (.inl hb)
        obtain ⟨g', rfl⟩ : ∃ g', g = g' + 1 := ⟨g - 1, by omega⟩
        rw [Nat.add_sub_cancel, ← Htop.out] at s2
        obtain ⟨r', hr'⟩ : ∃ r', r' = r + top := ⟨_, rfl⟩
        rw [← hr'] at s2
        have lg := s2.le
        have z1 : IntKind.u64.wrap (g' : Int) = (g' : Int) := IntWalk.u64_in _ (by omega)
        have z2 : IntKind.u64.wrap ((r : Int) + (top : Int)) = (r' : Int) := by rw [IntWalk.u64_in _ (by omega)]; omega
        have S2 := Lib.hid s2
        have z3 : (4294967296 : Int) ≤ (g' : Int) + 1 := by omega
        have z6 : decide ((4294967296 : Int) ≤ (g' : Int) + 1) = true := decide_eq_true z3
        clear hb
        by_cases hbr : 4294967296 ≤ r'
        · have z4 : (4294967296 : Int) ≤ (r' : Int) := by omega
          have z5 : decide ((4294967296 : Int) ≤ (r' : Int)) = true := decide_eq_true z4
          have hgl := fg_break HF.out s2 hbr
          have hend : g' * nth vs (n - 2) ≤ r' * 4294967296 + nth us (n - 2) := by
            rw [← Hv2.out]
            have := Nat.mul_le_mul (show g' ≤ 4294967295 by omega) (show v2 ≤ 4294967295 by omega)
            omega
          have HE := Lib.hid hend
          clear s1 s2 hr' hend hbr
          go_wp2
          go_quiet (fail)
          go_wp2
          go_meet
          exact ⟨g', r', _, rfl, rfl, Lib.hid ⟨S2.out, hgl, HE.out⟩, rfl⟩
        · have z4 : ¬ (4294967296 : Int) ≤ (r' : Int) := by omega
          have z5 : decide ((4294967296 : Int) ≤ (r' : Int)) = false := decide_eq_false z4
          have hrl : r' < 4294967296 := by omega
          clear s1 s2 hr' hbr
          go_wp2
          go_quiet (fail)
          go_wp2
          go_roundw
          case rel => exact ⟨g', r', _, rfl, rfl, S2, hrl, rfl⟩
          case measure => simp [intOf]
      · obtain ⟨p, hp⟩ : ∃ p, p = g * v2 := ⟨_, rfl⟩
        obtain ⟨z, hz⟩ : ∃ z, z = r * 4294967296 + x2 := ⟨_, rfl⟩
        have hpl := Nat.mul_le_mul (show g ≤ 4294967295 by omega) (show v2 ≤ 4294967295 by omega)
        have y1 : IntKind.u64.wrap ((g : Int) * (v2 : Int)) = (p : Int) := by
          rw [← Int.natCast_mul, ← hp]
          exact IntWalk.u64_in _ (by omega)
        have y2 : IntKind.u64.wrap ((r : Int) * 4294967296) = (r : Int) * 4294967296 := by rw [IntKind.wrap_u64]; omega
        have y3 : bits .or .u64 ((r : Int) * 4294967296) (x2 : Int) = (z : Int) := by
          rw [show (r : Int) * 4294967296 = ((r * 2 ^ 32 : Nat) : Int) by omega, u64_or_nat _ _ (by omega) (by omega), or_disj (by omega), hz]
        have y4 : ¬ (4294967296 : Int) ≤ (g : Int) := by omega
        have y5 : decide ((4294967296 : Int) ≤ (g : Int)) = false := decide_eq_false y4
        by_cases hc : z < p
        · obtain ⟨s1, s2⟩ := fg_step HF.out HG.out (.inr (by rw [← Hv2.out, ← Hx2.out, ← hp, ← hz]; exact hc))
          obtain ⟨g', rfl⟩ : ∃ g', g = g' + 1 := ⟨g - 1, by omega⟩
          rw [Nat.add_sub_cancel, ← Htop.out] at s2
          obtain ⟨r', hr'⟩ : ∃ r', r' = r + top := ⟨_, rfl⟩
          rw [← hr'] at s2
          have lg := s2.le
          have z1 : IntKind.u64.wrap (g' : Int) = (g' : Int) := IntWalk.u64_in _ (by omega)
          have z2 : IntKind.u64.wrap ((r : Int) + (top : Int)) = (r' : Int) := by rw [IntWalk.u64_in _ (by omega)]; omega
          have S2 := Lib.hid s2
          have y6 : decide ((z : Int) < (p : Int)) = true := decide_eq_true (by omega)
          have y8 : ¬ (4294967296 : Int) ≤ (g' : Int) + 1 := by omega
          have y9 : decide ((4294967296 : Int) ≤ (g' : Int) + 1) = false := decide_eq_false y8
          rw [show (((g' + 1 : Nat)) : Int) = (g' : Int) + 1 by omega] at y1
          clear hp hz hpl
          by_cases hbr : 4294967296 ≤ r'
          · have z4 : (4294967296 : Int) ≤ (r' : Int) := by omega
            have z5 : decide ((4294967296 : Int) ≤ (r' : Int)) = true := decide_eq_true z4
            have hgl := fg_break HF.out s2 hbr
            have hend : g' * nth vs (n - 2) ≤ r' * 4294967296 + nth us (n - 2) := by
              rw [← Hv2.out]
              have := Nat.mul_le_mul (show g' ≤ 4294967295 by omega) (show v2 ≤ 4294967295 by omega)
              omega
            have HE := Lib.hid hend
            clear s1 s2 hr' hend hbr
            go_wp2
            go_quiet (fail)
            go_wp2
            go_meet
            exact ⟨g', r', _, rfl, rfl, Lib.hid ⟨S2.out, hgl, HE.out⟩, rfl⟩
          · have z4 : ¬ (4294967296 : Int) ≤ (r' : Int) := by omega
            have z5 : decide ((4294967296 : Int) ≤ (r' : Int)) = false := decide_eq_false z4
            have hrl : r' < 4294967296 := by omega
            clear s1 s2 hr' hbr
            go_wp2
            go_quiet (fail)
            go_wp2
            go_roundw
            case rel => exact ⟨g', r', _, rfl, rfl, S2, hrl, rfl⟩
            case measure => simp [intOf]
        · have y6 : ¬ z < p := hc
          have y7 : decide ((z : Int) < (p : Int)) = false := decide_eq_false (by omega)
          have HE : Hid (g * nth vs (n - 2) ≤ r * 4294967296 + nth us (n - 2)) := Lib.hid (by rw [← Hv2.out, ← Hx2.out, ← hp, ← hz]; omega)
          have hgl : g < 4294967296 := by omega
          clear hp hz hpl
          go_wp2
          go_quiet (fail)
          go_wp2
          go_meet
          exact ⟨g, r, m + nq, rfl, rfl, Lib.hid ⟨HG.out, hgl, HE.out⟩, by first | rfl | exact World.drewN_drewN ..⟩
  case rest =>
    obtain ⟨g, r, m, rfl, rfl, HG, rfl⟩ := hcut
    obtain ⟨hG, hgl, hGe⟩ := HG.out
    have hq := Lib.hid (fg_end HF.out hG hgl hGe)
    have hgN : w.grownBy (w.drewN m) (some g0) := grown_drewN (grown_refl w _) m
    have hownN := own_drewN hown m
    have HoF := HF.out.ou
    have HvF := HF.out.ov
    clear hG hGe HG Hs q0 q1 q2 q3 q4 q5 q6 q7 c1 cv1 i2 i3 i4 lnum lrs lgs
    go_wp2
    go_loopw [10, 11, 12] (fun ca bo iv wr => ∃ (i c b : Nat) (zs : List Nat), i ≤ n ∧ ca = .int .u64 (c : Int) ∧ bo = .int .u64 (b : Int) ∧ iv = .int .i64 i ∧ Hid (Ms us vs g i zs c b) ∧ wr.ownsRow base 46 1 (.slice (some ⟨g0, 0, none⟩) N cN) N (lvs (L.take o ++ (zs ++ L.drop (o + i)))) ∧ w.grownBy wr (some g0)) (fun _ _ iv _ => n - (intOf iv).toNat)
    case atStart => exact ⟨0, 0, 0, [], by omega, rfl, rfl, rfl, Lib.hid (ms_zero us vs g), by rw [Nat.add_zero, List.nil_append, List.take_append_drop]; exact hownN, hgN⟩
    case round =>
      obtain ⟨i, c, b, zs, hi, rfl, rfl, rfl, HM, hownr, hgr⟩ := hrel
      have hzl := HM.out.len
      by_cases hin : i < n
      · have cy := hgr.cell (hVc.out i hin) (by simp; exact hbne)
        have cx := own_cell hownr (j := o + i) (by omega)
        rw [nth_mid hzl (by omega), ← Hnu.out i (by omega)] at cx
        have hfz := hownr.frozenAt (o + i)
        have hx := nth_lt HoF i
        have hy := nth_lt HvF i
        have hcl := HM.out.cl
        have hbl := HM.out.bl
        have hpl := msP_lt (i := i) HvF hgl hcl
        have HN := Lib.hid (HM.out.next HoF HvF hgl)
        obtain ⟨p, hp⟩ : ∃ p, p = msP vs g i c := ⟨_, rfl⟩
        obtain ⟨x, hxe⟩ : ∃ x, x = nth us i := ⟨_, rfl⟩
        obtain ⟨y, hye⟩ : ∃ y, y = nth vs i := ⟨_, rfl⟩
        obtain ⟨pl, hple⟩ : ∃ pl, pl = p % 4294967296 := ⟨_, rfl⟩
        obtain ⟨ph, hphe⟩ : ∃ ph, ph = p / 4294967296 := ⟨_, rfl⟩
        obtain ⟨t, ht⟩ : ∃ t, t = (x + 18446744073709551616 - pl - b) % 18446744073709551616 := ⟨_, rfl⟩
        obtain ⟨d, hd⟩ : ∃ d, d = t % 4294967296 := ⟨_, rfl⟩
        obtain ⟨b', hb'⟩ : ∃ b', b' = t / 9223372036854775808 := ⟨_, rfl⟩
        have hgy : g * y = p - c := by rw [hp, hye]; unfold msP; omega
        have hcp : c ≤ p := by rw [hp]; unfold msP; omega
        rw [← hp] at hpl
        rw [← hxe] at cx hx
        rw [← hye] at cy hy
        have hdd : d = msD us vs g i c b := by
          unfold msD
          rw [← hp, ← hxe, ← hple, hd, ht]
          omega
        have hbb : b' = msB us vs g i c b := by
          unfold msB
          rw [← hp, ← hxe, ← hple, hb', ht]
          split <;> omega
        have z1 : IntKind.u64.wrap ((g : Int) * (y : Int)) = (g : Int) * (y : Int) := by
          rw [← Int.natCast_mul]
          exact IntWalk.u64_in _ (by omega)
        have z2 : IntKind.u64.wrap ((g : Int) * (y : Int) + (c : Int)) = (p : Int) := by
          rw [← Int.natCast_mul, hgy]
          rw [IntWalk.u64_in _ (by omega)]
          omega
        have z3 : (p : Int) / 4294967296 = (ph : Int) := by omega
        have z4 : bits .and .u64 (p : Int) 4294967295 = (pl : Int) := by rw [u64_and_low p (by omega), ← hple]
        have z5 : IntKind.u64.wrap (IntKind.u64.wrap ((x : Int) - (pl : Int)) - (b : Int)) = (t : Int) := by
          rw [IntKind.wrap_u64, IntKind.wrap_u64]
          omega
        have z6 : (t : Int) % 4294967296 = (d : Int) := by omega
        have z7 : (t : Int) / 9223372036854775808 = (b' : Int) := by omega
        rw [← hdd, ← hbb, ← hp, ← hphe] at HN
        obtain ⟨o1, r1⟩ := hownr.stored (o + i) (lv d)
        rw [part_set hzl (by omega)] at o1
        have hg2 := hgr.trans r1
        have j1 : (i : Int) < (n : Int) := by omega
        have j2 : (i : Int) < (n : Int) + 1 := by omega
        clear hp hxe hye hple hphe ht hd hb' hgy hcp hdd hbb hpl r1 HM
        go_wp2
        exact ⟨⟨i + 1, ph, b', zs ++ [d], by omega, rfl, rfl, by go_num, HN, o1, hg2⟩, by simp [intOf]; omega⟩
      · obtain rfl : n = i := by omega
        have cx := own_cell hownr (j := o + n) (by omega)
        rw [nth_mid hzl (by omega), ← Hnu.out n (by omega), ← Hx0.out] at cx
        have hfz := hownr.frozenAt (o + n)
        have hcl := HM.out.cl
        have hbl := HM.out.bl
        have hzok := HM.out.ok
        by_cases hcb : c + b ≤ x0
        · obtain ⟨e1, e2, e3⟩ := ms_right HF.out HM.out hq.out (by rw [← Hx0.out]; exact hcb)
          rw [← Hx0.out] at e1
          have z1 : IntKind.u64.wrap (IntKind.u64.wrap ((x0 : Int) - (c : Int)) - (b : Int)) = 0 := by
            rw [IntKind.wrap_u64, IntKind.wrap_u64]
            omega
          have z2 : (g : Int) % 4294967296 = (g : Int) := by omega
          obtain ⟨o1, r1⟩ := hownr.stored (o + n) (lv 0)
          rw [part_set hzl (by omega)] at o1
          have hg2 := hgr.trans r1
          have E2 := Lib.hid e2
          have E3 := Lib.hid e3
          clear e1 e2 e3 hcb r1 HM
          go_wp2
          go_ret
          exact ⟨zs, by rw [← E2.out]; rfl, hzl, hzok, E3.out, o1, hg2⟩
        · obtain ⟨e1, e2, e3⟩ := ms_over HF.out HM.out hq.out (by rw [← Hx0.out]; omega)
          rw [← Hx0.out] at e1
          have z1 : IntKind.u64.wrap (IntKind.u64.wrap ((x0 : Int) - (c : Int)) - (b : Int)) = 18446744073709551615 := by
            rw [IntKind.wrap_u64, IntKind.wrap_u64]
            omega
          obtain ⟨q, hqe⟩ : ∃ q, q = val us / val vs := ⟨_, rfl⟩
          rw [← hqe] at e2
          have z2 : IntKind.u64.wrap ((g : Int) - 1) = (q : Int) := by rw [IntKind.wrap_u64]; omega
          have z3 : (q : Int) % 4294967296 = (q : Int) := by omega
          obtain ⟨o1, r1⟩ := hownr.stored (o + n) (lv 4294967295)
          rw [part_set hzl (by omega)] at o1
          have hg2 := hgr.trans r1
          obtain ⟨M, hM⟩ : ∃ M, M = L.take o ++ ((zs ++ [4294967295]) ++ L.drop (o + (n + 1))) := ⟨_, rfl⟩
          have lto : (L.take o).length = o := by rw [List.length_take]; omega
          have hMl : M.length = N := by rw [hM]; simp; omega
          have hMt : M.take o = L.take o := by rw [hM, List.take_append_of_le_length (by omega), List.take_of_length_le (by omega)]
          have hMd : M.drop (o + (n + 1)) = L.drop (o + (n + 1)) := by
            rw [hM, ← List.append_assoc]
            exact List.drop_left' (by simp; omega)
          have hMn : ∀ i, i < n → nth M (o + i) = nth zs i := fun i hi => by
            rw [hM]
            unfold nth
            rw [List.getD_eq_getElem?_getD, List.getD_eq_getElem?_getD, List.getElem?_append_right (by omega), lto, show o + i - o = i by omega, List.append_assoc, List.getElem?_append_left (by omega)]
          have hMz : nth M (o + n) = 4294967295 := by
            rw [hM]
            unfold nth
            rw [List.getD_eq_getElem?_getD, List.getElem?_append_right (by omega), lto, show o + n - o = n by omega, List.append_assoc, List.getElem?_append_right (by omega), hzl, Nat.sub_self]
            rfl
          have hcl2 : List.take o M ++ ([] ++ List.drop (o + 0) M) = M := by rw [Nat.add_zero, List.nil_append, List.take_append_drop]
          rw [← hM] at o1
          have E3 := Lib.hid e3
          have HMt := Lib.hid hMt
          have HMd := Lib.hid hMd
          have HMn := Lib.hid hMn
          have HMz := Lib.hid hMz
          have Hqe := Lib.hid hqe
          have Hcl2 := Lib.hid hcl2
          clear e1 e2 e3 hcb r1 HM hMt hMd hMn hMz hqe hM hcl2 lto
          go_wp2
          go_loopw [16, 17] (fun ca iv wr => ∃ (i c : Nat) (ws : List Nat), i ≤ n ∧ ca = .int .u64 (c : Int) ∧ iv = .int .i64 i ∧ Hid (Ad zs vs i ws c) ∧ wr.ownsRow base 46 1 (.slice (some ⟨g0, 0, none⟩) N cN) N (lvs (M.take o ++ (ws ++ M.drop (o + i)))) ∧ w.grownBy wr (some g0)) (fun _ iv _ => n - (intOf iv).toNat)
          case atStart => exact ⟨0, 0, [], by omega, rfl, rfl, Lib.hid (ad_zero zs vs), by rw [Hcl2.out]; exact o1, hg2⟩
          case round =>
            obtain ⟨i, c, ws, hi, rfl, rfl, HA, hownr, hgr⟩ := hrel
            have hwl := HA.out.len
            by_cases hin : i < n
            · have cy := hgr.cell (hVc.out i hin) (by simp; exact hbne)
              have cx := own_cell hownr (j := o + i) (by omega)
              rw [nth_mid hwl (by omega), HMn.out i hin] at cx
              have hfz := hownr.frozenAt (o + i)
              have hx := nth_lt hzok i
              have hy := nth_lt HvF i
              have hc1 := HA.out.one
              have HN := Lib.hid (HA.out.next hzok HvF)
              obtain ⟨x, hxe⟩ : ∃ x, x = nth zs i := ⟨_, rfl⟩
              obtain ⟨y, hye⟩ : ∃ y, y = nth vs i := ⟨_, rfl⟩
              obtain ⟨s, hse⟩ : ∃ s, s = x + y + c := ⟨_, rfl⟩
              obtain ⟨d, hd⟩ : ∃ d, d = s % 4294967296 := ⟨_, rfl⟩
              obtain ⟨c', hc'⟩ : ∃ c', c' = s / 4294967296 := ⟨_, rfl⟩
              rw [← hxe] at cx hx HN
              rw [← hye] at cy hy HN
              rw [← hse, ← hd, ← hc'] at HN
              have z1 : IntKind.u64.wrap ((x : Int) + (y : Int)) = (x : Int) + (y : Int) := IntWalk.u64_in _ (by omega)
              have z2 : IntKind.u64.wrap ((x : Int) + (y : Int) + (c : Int)) = (s : Int) := by rw [IntWalk.u64_in _ (by omega)]; omega
              have z3 : (s : Int) % 4294967296 = (d : Int) := by omega
              have z4 : (s : Int) / 4294967296 = (c' : Int) := by omega
              obtain ⟨o2, r2⟩ := hownr.stored (o + i) (lv d)
              rw [part_set hwl (by omega)] at o2
              have hg3 := hgr.trans r2
              have j1 : (i : Int) < (n : Int) := by omega
              have j2 : (i : Int) < (n : Int) + 1 := by omega
              clear hxe hye hse hd hc' r2 HA
              go_wp2
              go_quiet (fail)
              go_wp2
              exact ⟨⟨i + 1, c', ws ++ [d], by omega, rfl, by go_num, HN, o2, grown_drewN hg3 _⟩, by simp [intOf]; omega⟩
            · obtain rfl : n = i := by omega
              have cx := own_cell hownr (j := o + n) (by omega)
              rw [nth_mid hwl (by omega), HMz.out] at cx
              have hfz := hownr.frozenAt (o + n)
              have hA := HA.out.eq
              have hwk := HA.out.ok
              have hc1 := HA.out.one
              have hwv := val_lt hwk
              rw [hwl] at hwv
              rw [List.take_of_length_le (by omega), List.take_of_length_le (by have := HF.out.lv; omega), E3.out] at hA
              have hc0 : c = 1 := by
                have h1 : c ≠ 0 := fun h0 => by
                  rw [h0, Nat.mul_zero, Nat.add_zero] at hA
                  omega
                omega
              subst hc0
              have hwr : val ws = val us % val vs := by omega
              obtain ⟨o2, r2⟩ := hownr.stored (o + n) (lv 0)
              rw [part_set hwl (by omega), HMt.out, HMd.out] at o2
              have hg3 := hgr.trans r2
              have Hwr := Lib.hid hwr
              clear hA hwr hwv r2 HA
              go_wp2
              go_ret
              exact ⟨ws, by rw [← Hqe.out]; rfl, hwl, hwk, Hwr.out, o2, hg3⟩

end Go.Proofs.YthemcdnlcgmimaaGreatDoor
