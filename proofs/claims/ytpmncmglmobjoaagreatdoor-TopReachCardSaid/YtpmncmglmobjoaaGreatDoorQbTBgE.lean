/-
  Contracts of big: figure. (Printed by wip/gen/big.py.) Contracts of big: divWords. (Printed by wip/gen/big.py.) Contracts of big: divWords whole, topBits, blend, one, by. (Printed by wip/gen/big.py.)
-/
import Derived.Test.YtpmncmglmobjoaaGreatDoorQbTBgB
import Derived.Deep.CutBlock
import Derived.Deep.Cut
set_option maxHeartbeats 8000000
set_option maxRecDepth 100000
namespace Go.Proofs.YtpmncmglmobjoaaGreatDoor
open Go.RowKit Go.Lb
theorem bgFigure_any {base g0 N cN : Nat} (o n cu cv : Nat) (av : Option Addr) (L vs : List Nat) (w : World) (hown : w.ownsRow base 40 1 (.slice (some ⟨g0, 0, none⟩) N cN) N (lvs L)) (hL : L.length = N) (hv : Sl w av n cv vs) (hne : ∀ b p, av = some ⟨b, p, none⟩ → b ≠ g0)
 (ho : o + n + 1 ≤ N) (hcu : n + 1 ≤ cu) (hcu2 : cu ≤ 9223372036854775807) (hF : Fu ((L.drop o).take (n + 1)) vs n) :
 Calls Tryz.prog 176 #[.slice (some ⟨g0, o, none⟩) (n + 1 : Nat) cu, .slice av n cv] w fun e w' => ∃ R, e = .returned (.int .u32 ((val ((L.drop o).take (n + 1)) / val vs : Nat) : Int)) ∧ R.length = n ∧ Ok R ∧ val R = val ((L.drop o).take (n + 1)) % val vs ∧ w'.ownsRow base 40 1 (.slice (some ⟨g0, 0, none⟩) N cN) N (lvs (L.take o ++ ((R ++ [0]) ++ L.drop (o + (n + 1))))) ∧ w.grownBy w' (some g0) := by
 have hn2 := hF.hn
 have hcv := hv.cap
 have hle := hv.le
 obtain ⟨bv, ov, rfl, hbv, hcellv⟩ := hv.at_ (by omega)
 have hbne : bv ≠ g0 := hne _ _ rfl
 obtain ⟨us, hus⟩ : ∃ us, us = (L.drop o).take (n + 1) := ⟨_, rfl⟩
 have hnu : ∀ i, i < n + 1 → nth us i = nth L (o + i) := fun i hi => by rw [hus]; exact nth_part hi
 rw [← hus] at hF ⊢
 have hcu0 : ∀ i, i < n + 1 → w.cell? ⟨g0, o + i, none⟩ = some (.int .u32 (nth us i : Int)) := fun i hi => by rw [hnu i hi]; exact own_cell hown (by omega)
 have hU := Lib.hid hcu0
 have hVc := Lib.hid hcellv
 obtain ⟨top, htop⟩ : ∃ t, t = nth vs (n - 1) := ⟨_, rfl⟩
 obtain ⟨v2, hv2⟩ : ∃ t, t = nth vs (n - 2) := ⟨_, rfl⟩
 obtain ⟨x0, hx0⟩ : ∃ t, t = nth us n := ⟨_, rfl⟩
 obtain ⟨x1, hx1⟩ : ∃ t, t = nth us (n - 1) := ⟨_, rfl⟩
 obtain ⟨x2, hx2⟩ : ∃ t, t = nth us (n - 2) := ⟨_, rfl⟩
 have l0 : x0 < 4294967296 := by rw [hx0]; exact nth_lt hF.ou n
 have l1 : x1 < 4294967296 := by rw [hx1]; exact nth_lt hF.ou _
 have l2 : x2 < 4294967296 := by rw [hx2]; exact nth_lt hF.ou _
 have lt' : top < 4294967296 := by rw [htop]; exact nth_lt hF.ov _
 have lv2 : v2 < 4294967296 := by rw [hv2]; exact nth_lt hF.ov _
 have ltop : 2147483648 ≤ top := by rw [htop]; exact hF.top
 have c0 := hcu0 n (by omega)
 have c1 := hcu0 (n - 1) (by omega)
 have cv1 := hcellv (n - 1) (by omega)
 rw [← hx0] at c0
 rw [← hx1] at c1
 rw [← htop] at cv1
 obtain ⟨num, hnum⟩ : ∃ t, t = x0 * 4294967296 + x1 := ⟨_, rfl⟩
 have hs := fg_start hF
 rw [← hx0, ← hx1, ← htop, ← hnum] at hs
 obtain ⟨gs, hgs⟩ : ∃ t, t = num / top := ⟨_, rfl⟩
 obtain ⟨rs, hrs⟩ : ∃ t, t = num % top := ⟨_, rfl⟩
 rw [← hgs, ← hrs] at hs
 have lnum : num < 18446744073709551616 := by omega
 have lrs : rs < top := by rw [hrs]; exact Nat.mod_lt _ (by omega)
 have lgs : gs ≤ 4294967297 := hs.le
 have q0 : IntKind.u64.wrap ((x0 : Int) * 4294967296) = (x0 : Int) * 4294967296 := by rw [IntKind.wrap_u64]; omega
 have q1 : bits .or .u64 ((x0 : Int) * 4294967296) (x1 : Int) = (num : Int) := by
  rw [show (x0 : Int) * 4294967296 = ((x0 * 2 ^ 32 : Nat) : Int) by omega, u64_or_nat _ _ (by omega) (by omega), or_disj (by omega), hnum]
 have q2 : (num : Int) / (top : Int) = (gs : Int) := by rw [← Int.natCast_ediv, ← hgs]
 have q3 : (num : Int).tdiv (top : Int) = (gs : Int) := by rw [Int.tdiv_eq_ediv_of_nonneg (by omega), q2]
 have q4 : (num : Int).tmod (top : Int) = (rs : Int) := by rw [hrs]; exact (Int.ofNat_tmod num top).symm
 have q5 : IntKind.u64.wrap (gs : Int) = (gs : Int) := IntWalk.u64_in _ (by omega)
 have q6 : ((top : Int) == 0) = false := by simp; omega
 have q7 : ¬ top = 0 := by omega
 have i1 : (n : Int) < (n : Int) + 1 := by omega
 have i2 : (n : Int) - 1 < (n : Int) + 1 := by omega
 have i3 : (0 : Int) ≤ (n : Int) - 1 := by omega
 have i4 : (n : Int) - 1 < (n : Int) := by omega
 have Hs := Lib.hid hs
 have HF := Lib.hid hF
 have Htop := Lib.hid htop
 have Hv2 := Lib.hid hv2
 have Hx0 := Lib.hid hx0
 have Hx2 := Lib.hid hx2
 have Hnu := Lib.hid hnu
 have Hus := Lib.hid hus
 clear hcu0 hcellv htop hv2 hx0 hx1 hx2 hnum hs hgs hrs hnu hF hus
 go_enter Tryz.func176, Tryz.ntmps176
 go_wp2
 go_quiet (fail)
 go_upto_block 0 with fail
 go_cut [8, 9] from 19 (fun gv rv wx => ∃ g r m : Nat, gv = .int .u64 (g : Int) ∧ rv = .int .u64 (r : Int) ∧ Hid (Fg us vs n g r ∧ g < 4294967296 ∧ g * nth vs (n - 2) ≤ r * 4294967296 + nth us (n - 2)) ∧ wx = w.drewN m)
 case first =>
  go_wp2
  go_loopw [8, 9] (fun gv rv wr => ∃ g r m : Nat, gv = .int .u64 (g : Int) ∧ rv = .int .u64 (r : Int) ∧ Hid (Fg us vs n g r) ∧ r < 4294967296 ∧ wr = w.drewN m) (fun gv _ _ => (intOf gv).toNat)
  case atStart => exact ⟨gs, rs, _, rfl, rfl, Hs, by omega, rfl⟩
  case round =>
   obtain ⟨g, r, m, rfl, rfl, HG, hr, rfl⟩ := hrel
   have cv2 := hVc.out (n - 2) (by omega)
   rw [← Hv2.out] at cv2
   have c2 := hU.out (n - 2) (by omega)
   rw [← Hx2.out] at c2
   have i5 : (0 : Int) ≤ (n : Int) - 2 := by omega
   have i6 : (n : Int) - 2 < (n : Int) := by omega
   have i7 : (n : Int) - 2 < (n : Int) + 1 := by omega
   by_cases hb : 4294967296 ≤ g
   · obtain ⟨s1, s2⟩ := fg_step HF.out HG.out (.inl hb)
     obtain ⟨g', rfl⟩ : ∃ g', g = g' + 1 := ⟨g - 1, by omega⟩
     rw [Nat.add_sub_cancel, ← Htop.out] at s2
     obtain ⟨r', hr'⟩ : ∃ r', r' = r + top := ⟨_, rfl⟩
     rw [← hr'] at s2
     have lg := s2.le
     have z1 : IntKind.u64.wrap (g' : Int) = (g' : Int) := IntWalk.u64_in _ (by omega)
     have z2 : IntKind.u64.wrap ((r : Int) + (top : Int)) = (r' : Int) := by rw [IntWalk.u64_in _ (by omega)]; omega
     have S2 := Lib.hid s2
     have z3 : (4294967296 : Int) ≤ (g' : Int) + 1 := by omega
     have z6 : decide ((4294967296 : Int) ≤ (g' : Int) + 1) = true := decide_eq_true z3
     clear hb
     by_cases hbr : 4294967296 ≤ r'
     · have z4 : (4294967296 : Int) ≤ (r' : Int) := by omega
       have z5 : decide ((4294967296 : Int) ≤ (r' : Int)) = true := decide_eq_true z4
       have hgl := fg_break HF.out s2 hbr
       have hend : g' * nth vs (n - 2) ≤ r' * 4294967296 + nth us (n - 2) := by
        rw [← Hv2.out]
        have := Nat.mul_le_mul (show g' ≤ 4294967295 by omega) (show v2 ≤ 4294967295 by omega)
        omega
       have HE := Lib.hid hend
       clear s1 s2 hr' hend hbr
       go_wp2
       go_quiet (fail)
       go_wp2
       go_meet
       exact ⟨g', r', _, rfl, rfl, Lib.hid ⟨S2.out, hgl, HE.out⟩, rfl⟩
     · have z4 : ¬ (4294967296 : Int) ≤ (r' : Int) := by omega
       have z5 : decide ((4294967296 : Int) ≤ (r' : Int)) = false := decide_eq_false z4
       have hrl : r' < 4294967296 := by omega
       clear s1 s2 hr' hbr
       go_wp2
       go_quiet (fail)
       go_wp2
       go_roundw
       case rel => exact ⟨g', r', _, rfl, rfl, S2, hrl, rfl⟩
       case measure => simp [intOf]
   · obtain ⟨p, hp⟩ : ∃ p, p = g * v2 := ⟨_, rfl⟩
     obtain ⟨z, hz⟩ : ∃ z, z = r * 4294967296 + x2 := ⟨_, rfl⟩
     have hpl := Nat.mul_le_mul (show g ≤ 4294967295 by omega) (show v2 ≤ 4294967295 by omega)
     have y1 : IntKind.u64.wrap ((g : Int) * (v2 : Int)) = (p : Int) := by
      rw [← Int.natCast_mul, ← hp]
      exact IntWalk.u64_in _ (by omega)
     have y2 : IntKind.u64.wrap ((r : Int) * 4294967296) = (r : Int) * 4294967296 := by rw [IntKind.wrap_u64]; omega
     have y3 : bits .or .u64 ((r : Int) * 4294967296) (x2 : Int) = (z : Int) := by
      rw [show (r : Int) * 4294967296 = ((r * 2 ^ 32 : Nat) : Int) by omega, u64_or_nat _ _ (by omega) (by omega), or_disj (by omega), hz]
     have y4 : ¬ (4294967296 : Int) ≤ (g : Int) := by omega
     have y5 : decide ((4294967296 : Int) ≤ (g : Int)) = false := decide_eq_false y4
     by_cases hc : z < p
     · obtain ⟨s1, s2⟩ := fg_step HF.out HG.out (.inr (by rw [← Hv2.out, ← Hx2.out, ← hp, ← hz]; exact hc))
       obtain ⟨g', rfl⟩ : ∃ g', g = g' + 1 := ⟨g - 1, by omega⟩
       rw [Nat.add_sub_cancel, ← Htop.out] at s2
       obtain ⟨r', hr'⟩ : ∃ r', r' = r + top := ⟨_, rfl⟩
       rw [← hr'] at s2
       have lg := s2.le
       have z1 : IntKind.u64.wrap (g' : Int) = (g' : Int) := IntWalk.u64_in _ (by omega)
       have z2 : IntKind.u64.wrap ((r : Int) + (top : Int)) = (r' : Int) := by rw [IntWalk.u64_in _ (by omega)]; omega
       have S2 := Lib.hid s2
       have y6 : decide ((z : Int) < (p : Int)) = true := decide_eq_true (by omega)
       have y8 : ¬ (4294967296 : Int) ≤ (g' : Int) + 1 := by omega
       have y9 : decide ((4294967296 : Int) ≤ (g' : Int) + 1) = false := decide_eq_false y8
       rw [show (((g' + 1 : Nat)) : Int) = (g' : Int) + 1 by omega] at y1
       clear hp hz hpl
       by_cases hbr : 4294967296 ≤ r'
       · have z4 : (4294967296 : Int) ≤ (r' : Int) := by omega
         have z5 : decide ((4294967296 : Int) ≤ (r' : Int)) = true := decide_eq_true z4
         have hgl := fg_break HF.out s2 hbr
         have hend : g' * nth vs (n - 2) ≤ r' * 4294967296 + nth us (n - 2) := by
          rw [← Hv2.out]
          have := Nat.mul_le_mul (show g' ≤ 4294967295 by omega) (show v2 ≤ 4294967295 by omega)
          omega
         have HE := Lib.hid hend
         clear s1 s2 hr' hend hbr
         go_wp2
         go_quiet (fail)
         go_wp2
         go_meet
         exact ⟨g', r', _, rfl, rfl, Lib.hid ⟨S2.out, hgl, HE.out⟩, rfl⟩
       · have z4 : ¬ (4294967296 : Int) ≤ (r' : Int) := by omega
         have z5 : decide ((4294967296 : Int) ≤ (r' : Int)) = false := decide_eq_false z4
         have hrl : r' < 4294967296 := by omega
         clear s1 s2 hr' hbr
         go_wp2
         go_quiet (fail)
         go_wp2
         go_roundw
         case rel => exact ⟨g', r', _, rfl, rfl, S2, hrl, rfl⟩
         case measure => simp [intOf]
     · have y6 : ¬ z < p := hc
       have y7 : decide ((z : Int) < (p : Int)) = false := decide_eq_false (by omega)
       have HE : Hid (g * nth vs (n - 2) ≤ r * 4294967296 + nth us (n - 2)) := Lib.hid (by rw [← Hv2.out, ← Hx2.out, ← hp, ← hz]; omega)
       have hgl : g < 4294967296 := by omega
       clear hp hz hpl
       go_wp2
       go_quiet (fail)
       go_wp2
       go_meet
       exact ⟨g, r, m + nq, rfl, rfl, Lib.hid ⟨HG.out, hgl, HE.out⟩, by first | rfl | exact World.drewN_drewN ..⟩
 case rest =>
  obtain ⟨g, r, m, rfl, rfl, HG, rfl⟩ := hcut
  obtain ⟨hG, hgl, hGe⟩ := HG.out
  have hq := Lib.hid (fg_end HF.out hG hgl hGe)
  have hgN : w.grownBy (w.drewN m) (some g0) := grown_drewN (grown_refl w _) m
  have hownN := own_drewN hown m
  have HoF := HF.out.ou
  have HvF := HF.out.ov
  clear hG hGe HG Hs q0 q1 q2 q3 q4 q5 q6 q7 c1 cv1 i2 i3 i4 lnum lrs lgs
  go_wp2
  go_loopw [10, 11, 12] (fun ca bo iv wr => ∃ (i c b : Nat) (zs : List Nat), i ≤ n ∧ ca = .int .u64 (c : Int) ∧ bo = .int .u64 (b : Int) ∧ iv = .int .i64 i ∧ Hid (Ms us vs g i zs c b) ∧ wr.ownsRow base 40 1 (.slice (some ⟨g0, 0, none⟩) N cN) N (lvs (L.take o ++ (zs ++ L.drop (o + i)))) ∧ w.grownBy wr (some g0)) (fun _ _ iv _ => n - (intOf iv).toNat)
  case atStart => exact ⟨0, 0, 0, [], by omega, rfl, rfl, rfl, Lib.hid (ms_zero us vs g), by rw [Nat.add_zero, List.nil_append, List.take_append_drop]; exact hownN, hgN⟩
  case round =>
   obtain ⟨i, c, b, zs, hi, rfl, rfl, rfl, HM, hownr, hgr⟩ := hrel
   have hzl := HM.out.len
   by_cases hin : i < n
   · have cy := hgr.cell (hVc.out i hin) (by simp; exact hbne)
     have cx := own_cell hownr (j := o + i) (by omega)
     rw [nth_mid hzl (by omega), ← Hnu.out i (by omega)] at cx
     have hfz := hownr.frozenAt (o + i)
     have hx := nth_lt HoF i
     have hy := nth_lt HvF i
     have hcl := HM.out.cl
     have hbl := HM.out.bl
     have hpl := msP_lt (i := i) HvF hgl hcl
     have HN := Lib.hid (HM.out.next HoF HvF hgl)
     obtain ⟨p, hp⟩ : ∃ p, p = msP vs g i c := ⟨_, rfl⟩
     obtain ⟨x, hxe⟩ : ∃ x, x = nth us i := ⟨_, rfl⟩
     obtain ⟨y, hye⟩ : ∃ y, y = nth vs i := ⟨_, rfl⟩
     obtain ⟨pl, hple⟩ : ∃ pl, pl = p % 4294967296 := ⟨_, rfl⟩
     obtain ⟨ph, hphe⟩ : ∃ ph, ph = p / 4294967296 := ⟨_, rfl⟩
     obtain ⟨t, ht⟩ : ∃ t, t = (x + 18446744073709551616 - pl - b) % 18446744073709551616 := ⟨_, rfl⟩
     obtain ⟨d, hd⟩ : ∃ d, d = t % 4294967296 := ⟨_, rfl⟩
     obtain ⟨b', hb'⟩ : ∃ b', b' = t / 9223372036854775808 := ⟨_, rfl⟩
     have hgy : g * y = p - c := by rw [hp, hye]; unfold msP; omega
     have hcp : c ≤ p := by rw [hp]; unfold msP; omega
     rw [← hp] at hpl
     rw [← hxe] at cx hx
     rw [← hye] at cy hy
     have hdd : d = msD us vs g i c b := by
      unfold msD
      rw [← hp, ← hxe, ← hple, hd, ht]
      omega
     have hbb : b' = msB us vs g i c b := by
      unfold msB
      rw [← hp, ← hxe, ← hple, hb', ht]
      split <;> omega
     have z1 : IntKind.u64.wrap ((g : Int) * (y : Int)) = (g : Int) * (y : Int) := by
      rw [← Int.natCast_mul]
      exact IntWalk.u64_in _ (by omega)
     have z2 : IntKind.u64.wrap ((g : Int) * (y : Int) + (c : Int)) = (p : Int) := by
      rw [← Int.natCast_mul, hgy]
      rw [IntWalk.u64_in _ (by omega)]
      omega
     have z3 : (p : Int) / 4294967296 = (ph : Int) := by omega
     have z4 : bits .and .u64 (p : Int) 4294967295 = (pl : Int) := by rw [u64_and_low p (by omega), ← hple]
     have z5 : IntKind.u64.wrap (IntKind.u64.wrap ((x : Int) - (pl : Int)) - (b : Int)) = (t : Int) := by
      rw [IntKind.wrap_u64, IntKind.wrap_u64]
      omega
     have z6 : (t : Int) % 4294967296 = (d : Int) := by omega
     have z7 : (t : Int) / 9223372036854775808 = (b' : Int) := by omega
     rw [← hdd, ← hbb, ← hp, ← hphe] at HN
     obtain ⟨o1, r1⟩ := hownr.stored (o + i) (lv d)
     rw [part_set hzl (by omega)] at o1
     have hg2 := hgr.trans r1
     have j1 : (i : Int) < (n : Int) := by omega
     have j2 : (i : Int) < (n : Int) + 1 := by omega
     clear hp hxe hye hple hphe ht hd hb' hgy hcp hdd hbb hpl r1 HM
     go_wp2
     exact ⟨⟨i + 1, ph, b', zs ++ [d], by omega, rfl, rfl, by go_num, HN, o1, hg2⟩, by simp [intOf]; omega⟩
   · obtain rfl : n = i := by omega
     have cx := own_cell hownr (j := o + n) (by omega)
     rw [nth_mid hzl (by omega), ← Hnu.out n (by omega), ← Hx0.out] at cx
     have hfz := hownr.frozenAt (o + n)
     have hcl := HM.out.cl
     have hbl := HM.out.bl
     have hzok := HM.out.ok
     by_cases hcb : c + b ≤ x0
     · obtain ⟨e1, e2, e3⟩ := ms_right HF.out HM.out hq.out (by rw [← Hx0.out]; exact hcb)
       rw [← Hx0.out] at e1
       have z1 : IntKind.u64.wrap (IntKind.u64.wrap ((x0 : Int) - (c : Int)) - (b : Int)) = 0 := by
        rw [IntKind.wrap_u64, IntKind.wrap_u64]
        omega
       have z2 : (g : Int) % 4294967296 = (g : Int) := by omega
       obtain ⟨o1, r1⟩ := hownr.stored (o + n) (lv 0)
       rw [part_set hzl (by omega)] at o1
       have hg2 := hgr.trans r1
       have E2 := Lib.hid e2
       have E3 := Lib.hid e3
       clear e1 e2 e3 hcb r1 HM
       go_wp2
       go_ret
       exact ⟨zs, by rw [← E2.out]; rfl, hzl, hzok, E3.out, o1, hg2⟩
     · obtain ⟨e1, e2, e3⟩ := ms_over HF.out HM.out hq.out (by rw [← Hx0.out]; omega)
       rw [← Hx0.out] at e1
       have z1 : IntKind.u64.wrap (IntKind.u64.wrap ((x0 : Int) - (c : Int)) - (b : Int)) = 18446744073709551615 := by
        rw [IntKind.wrap_u64, IntKind.wrap_u64]
        omega
       obtain ⟨q, hqe⟩ : ∃ q, q = val us / val vs := ⟨_, rfl⟩
       rw [← hqe] at e2
       have z2 : IntKind.u64.wrap ((g : Int) - 1) = (q : Int) := by rw [IntKind.wrap_u64]; omega
       have z3 : (q : Int) % 4294967296 = (q : Int) := by omega
       obtain ⟨o1, r1⟩ := hownr.stored (o + n) (lv 4294967295)
       rw [part_set hzl (by omega)] at o1
       have hg2 := hgr.trans r1
       obtain ⟨M, hM⟩ : ∃ M, M = L.take o ++ ((zs ++ [4294967295]) ++ L.drop (o + (n + 1))) := ⟨_, rfl⟩
       have lto : (L.take o).length = o := by rw [List.length_take]; omega
       have hMl : M.length = N := by rw [hM]; simp; omega
       have hMt : M.take o = L.take o := by rw [hM, List.take_append_of_le_length (by omega), List.take_of_length_le (by omega)]
       have hMd : M.drop (o + (n + 1)) = L.drop (o + (n + 1)) := by
        rw [hM, ← List.append_assoc]
        exact List.drop_left' (by simp; omega)
       have hMn : ∀ i, i < n → nth M (o + i) = nth zs i := fun i hi => by
        rw [hM]
        unfold nth
        rw [List.getD_eq_getElem?_getD, List.getD_eq_getElem?_getD, List.getElem?_append_right (by omega), lto, show o + i - o = i by omega, List.append_assoc, List.getElem?_append_left (by omega)]
       have hMz : nth M (o + n) = 4294967295 := by
        rw [hM]
        unfold nth
        rw [List.getD_eq_getElem?_getD, List.getElem?_append_right (by omega), lto, show o + n - o = n by omega, List.append_assoc, List.getElem?_append_right (by omega), hzl, Nat.sub_self]
        rfl
       have hcl2 : List.take o M ++ ([] ++ List.drop (o + 0) M) = M := by rw [Nat.add_zero, List.nil_append, List.take_append_drop]
       rw [← hM] at o1
       have E3 := Lib.hid e3
       have HMt := Lib.hid hMt
       have HMd := Lib.hid hMd
       have HMn := Lib.hid hMn
       have HMz := Lib.hid hMz
       have Hqe := Lib.hid hqe
       have Hcl2 := Lib.hid hcl2
       clear e1 e2 e3 hcb r1 HM hMt hMd hMn hMz hqe hM hcl2 lto
       go_wp2
       go_loopw [16, 17] (fun ca iv wr => ∃ (i c : Nat) (ws : List Nat), i ≤ n ∧ ca = .int .u64 (c : Int) ∧ iv = .int .i64 i ∧ Hid (Ad zs vs i ws c) ∧ wr.ownsRow base 40 1 (.slice (some ⟨g0, 0, none⟩) N cN) N (lvs (M.take o ++ (ws ++ M.drop (o + i)))) ∧ w.grownBy wr (some g0)) (fun _ iv _ => n - (intOf iv).toNat)
       case atStart => exact ⟨0, 0, [], by omega, rfl, rfl, Lib.hid (ad_zero zs vs), by rw [Hcl2.out]; exact o1, hg2⟩
       case round =>
        obtain ⟨i, c, ws, hi, rfl, rfl, HA, hownr, hgr⟩ := hrel
        have hwl := HA.out.len
        by_cases hin : i < n
        · have cy := hgr.cell (hVc.out i hin) (by simp; exact hbne)
          have cx := own_cell hownr (j := o + i) (by omega)
          rw [nth_mid hwl (by omega), HMn.out i hin] at cx
          have hfz := hownr.frozenAt (o + i)
          have hx := nth_lt hzok i
          have hy := nth_lt HvF i
          have hc1 := HA.out.one
          have HN := Lib.hid (HA.out.next hzok HvF)
          obtain ⟨x, hxe⟩ : ∃ x, x = nth zs i := ⟨_, rfl⟩
          obtain ⟨y, hye⟩ : ∃ y, y = nth vs i := ⟨_, rfl⟩
          obtain ⟨s, hse⟩ : ∃ s, s = x + y + c := ⟨_, rfl⟩
          obtain ⟨d, hd⟩ : ∃ d, d = s % 4294967296 := ⟨_, rfl⟩
          obtain ⟨c', hc'⟩ : ∃ c', c' = s / 4294967296 := ⟨_, rfl⟩
          rw [← hxe] at cx hx HN
          rw [← hye] at cy hy HN
          rw [← hse, ← hd, ← hc'] at HN
          have z1 : IntKind.u64.wrap ((x : Int) + (y : Int)) = (x : Int) + (y : Int) := IntWalk.u64_in _ (by omega)
          have z2 : IntKind.u64.wrap ((x : Int) + (y : Int) + (c : Int)) = (s : Int) := by rw [IntWalk.u64_in _ (by omega)]; omega
          have z3 : (s : Int) % 4294967296 = (d : Int) := by omega
          have z4 : (s : Int) / 4294967296 = (c' : Int) := by omega
          obtain ⟨o2, r2⟩ := hownr.stored (o + i) (lv d)
          rw [part_set hwl (by omega)] at o2
          have hg3 := hgr.trans r2
          have j1 : (i : Int) < (n : Int) := by omega
          have j2 : (i : Int) < (n : Int) + 1 := by omega
          clear hxe hye hse hd hc' r2 HA
          go_wp2
          go_quiet (fail)
          go_wp2
          exact ⟨⟨i + 1, c', ws ++ [d], by omega, rfl, by go_num, HN, o2, grown_drewN hg3 _⟩, by simp [intOf]; omega⟩
        · obtain rfl : n = i := by omega
          have cx := own_cell hownr (j := o + n) (by omega)
          rw [nth_mid hwl (by omega), HMz.out] at cx
          have hfz := hownr.frozenAt (o + n)
          have hA := HA.out.eq
          have hwk := HA.out.ok
          have hc1 := HA.out.one
          have hwv := val_lt hwk
          rw [hwl] at hwv
          rw [List.take_of_length_le (by omega), List.take_of_length_le (by have := HF.out.lv; omega), E3.out] at hA
          have hc0 : c = 1 := by
           have h1 : c ≠ 0 := fun h0 => by
            rw [h0, Nat.mul_zero, Nat.add_zero] at hA
            omega
           omega
          subst hc0
          have hwr : val ws = val us % val vs := by omega
          obtain ⟨o2, r2⟩ := hownr.stored (o + n) (lv 0)
          rw [part_set hwl (by omega), HMt.out, HMd.out] at o2
          have hg3 := hgr.trans r2
          have Hwr := Lib.hid hwr
          clear hA hwr hwv r2 HA
          go_wp2
          go_ret
          exact ⟨ws, by rw [← Hqe.out]; rfl, hwl, hwk, Hwr.out, o2, hg3⟩
def BgQr (A V : Nat) (w : World) (e : Ending) (w' : World) : Prop :=
 ∃ aq kq cq ar kr cr, e = .returned (.tuple #[.slice aq kq cq, .slice ar kr cr]) ∧ Fr 40 w' w.heap.size aq kq cq (limbs (A / V)) ∧ Fr 40 w' w.heap.size ar kr cr (limbs (A % V)) ∧ Below w.heap.size w w'
theorem bgOwn_one (w : World) (r : Nat) : (w.alloc (.cells #[.int .u32 (r : Int)] 40)).ownsRow w.heap.size 40 1 (.slice (some ⟨w.heap.size, 0, none⟩) 1 1) 1 (lvs [r]) :=
 World.ownsRow_lit w #[.int .u32 (r : Int)] 1 (Nat.le_refl _) (by decide) rfl
theorem bgDiv_less (a1 a2 : Option Addr) (n1 n2 c1 c2 : Nat) (xs ys : List Nat) (w : World) (h1 : Sl w a1 n1 c1 xs) (h2 : Sl w a2 n2 c2 ys) (f1 : Fine xs) (f2 : Fine ys) (hn : n1 ≤ 1073741824) (hl : val xs < val ys) :
 Calls Tryz.prog 164 #[.slice a1 n1 c1, .slice a2 n2 c2] w (BgQr (val xs) (val ys) w) := by
 have hc := Lib.hid (cmpN_lt hl)
 have e1 := Lib.hid (Nat.div_eq_of_lt hl)
 have e2 := Lib.hid (Nat.mod_eq_of_lt hl)
 have e3 := Lib.hid (limbs_val f1)
 have hlen := h1.len
 clear hl
 go_enter Tryz.func164, Tryz.ntmps164
 go_wp2_with fail
 refine (bgCmp_any a1 a2 n1 n2 c1 c2 xs ys _ h1 h2 f1 f2).mono ?_
 rintro e w1 ⟨rfl, hb1⟩
 rw [hc.out]
 go_wp2_with fail
 refine (bgCopied_any a1 n1 c1 xs _ (h1.below hb1) (by omega)).mono ?_
 rintro e w2 ⟨g, rfl, ho, hb2⟩
 have hF := fr_own ho h1.ok (Nat.le_refl n1) (Nat.le_refl n1) (Nat.le_refl n1)
 rw [List.take_of_length_le (by omega), ← e3.out, ← e2.out] at hF
 go_wp2
 go_ret2
 exact ⟨none, 0, 0, _, _, _, rfl, by rw [e1.out]; exact fr_nil _ _ _, hF.mono hb1.size, next hb1 hb2⟩
theorem bgDiv_one (a1 a2 : Option Addr) (n1 c1 c2 : Nat) (xs ys : List Nat) (w : World) (h1 : Sl w a1 n1 c1 xs) (h2 : Sl w a2 1 c2 ys) (f1 : Fine xs) (f2 : Fine ys) (hn : n1 ≤ 1073741824) (hl : ¬ val xs < val ys) :
 Calls Tryz.prog 164 #[.slice a1 n1 c1, .slice a2 (1 : Nat) c2] w (BgQr (val xs) (val ys) w) := by
 have hcn : cmpN (val xs) (val ys) = 0 ∨ cmpN (val xs) (val ys) = 1 := by
  unfold cmpN
  rw [if_neg hl]
  split
  · exact .inr rfl
  · exact .inl rfl
 obtain ⟨d, rfl⟩ : ∃ d, ys = [d] := List.length_eq_one_iff.1 h2.len
 have hd : val [d] = d := by simp [val]
 have hd0 : d ≠ 0 := by
  have := fine_top f2 (by simp)
  simpa [nth] using this
 have hdl : d < 4294967296 := h2.ok d (by simp)
 obtain ⟨b2, o2, rfl, hb2, hc2⟩ := h2.at_ (by decide)
 have hcell : w.cell? ⟨b2, o2, none⟩ = some (.int .u32 (d : Int)) := hc2 0 (by decide)
 have hcap2 := h2.cap
 have hle2 := h2.le
 obtain ⟨cv, hcv⟩ : ∃ cv, cv = cmpN (val xs) (val [d]) := ⟨_, rfl⟩
 rw [← hcv] at hcn
 have Hcv := Lib.hid hcv
 have Hd := Lib.hid hd
 have g1 : ¬ cv < 0 := by omega
 have g2 : decide (cv < 0) = false := decide_eq_false g1
 clear hcv hcn hd hc2 hl
 go_enter Tryz.func164, Tryz.ntmps164
 go_wp2_with fail
 refine (bgCmp_any a1 _ n1 1 c1 c2 xs [d] _ h1 h2 f1 f2).mono ?_
 rintro e w1 ⟨rfl, hb1⟩
 rw [← Hcv.out]
 have hcell1 := cellStay hcell hb1
 go_wp2_with fail
 refine (bgDivSmall_any a1 n1 c1 d xs _ (h1.below hb1) (by omega) hd0 hdl).mono ?_
 rintro e w2 ⟨aq, kq, cq, rfl, hFq, hb2⟩
 go_wp2_with fail
 have ho := bgOwn_one w2 (val xs % d)
 refine (bgTrim_own _ ho (ok_cons (by have := Nat.mod_lt (val xs) (show 0 < d by omega); omega) ok_nil)).mono ?_
 rintro e w3 ⟨k3, rfl, hF3, rfl⟩
 have hv3 : val [val xs % d] = val xs % d := by simp [val]
 rw [hv3] at hF3
 have HF3 := hF3
 clear hv3
 go_wp2
 go_ret2
 exact ⟨_, _, _, _, _, _, rfl, by rw [Hd.out]; exact (hFq.alloc _).mono hb1.size, by rw [Hd.out]; exact HF3.mono (Nat.le_trans hb1.size hb2.size), more (next hb1 hb2) _⟩
theorem bgTrim_len (ao : Option Addr) (n c k : Nat) (ys : List Nat) (w : World) (h : Sl w ao n c ys) (hk : Hid (k = (limbs (val ys)).length)) (hnil : ao = none → c = 0) :
 Calls Tryz.prog 138 #[.slice ao n c] w fun e w' => e = .returned (.slice ao k c) ∧ w = w' := by
 refine (bgTrim_any ao n c ys w h hnil).mono ?_
 rintro e w' ⟨k', h1, rfl, h2, rfl⟩
 have := congrArg List.length h2
 have hl := h.len
 rw [List.length_take, ← hk.out, Nat.min_eq_left (by omega)] at this
 exact ⟨by rw [this], rfl⟩
theorem bgDiv_long (a1 a2 : Option Addr) (n1 n2 c1 c2 : Nat) (xs ys : List Nat) (w : World) (h1 : Sl w a1 n1 c1 xs) (h2 : Sl w a2 n2 c2 ys) (f1 : Fine xs) (f2 : Fine ys) (hn : n1 ≤ 1073741824) (hn2 : 2 ≤ n2) (hl : ¬ val xs < val ys) :
 Calls Tryz.prog 164 #[.slice a1 n1 c1, .slice a2 n2 c2] w (BgQr (val xs) (val ys) w) := by
 obtain ⟨i0, hi0, hz0, hz1, hz2⟩ := info_parts u32_infoL
 have hsz : (Tryz.prog.info? 40).map (·.size) = some 1 := by kernel_rfl
 have hcn : cmpN (val xs) (val ys) = 0 ∨ cmpN (val xs) (val ys) = 1 := by
  unfold cmpN
  rw [if_neg hl]
  split
  · exact .inr rfl
  · exact .inl rfl
 have hlen1 := h1.len
 have hlen2 := h2.len
 have hle2 := h2.le
 have hcap2 := h2.cap
 have hle1 := h1.le
 have hcap1 := h1.cap
 have hn12 : n2 ≤ n1 := by
  refine Classical.byContradiction fun hh => ?_
  exact hl (cmp_len h1.ok f2 (by omega))
 obtain ⟨s, hs⟩ : ∃ s, s = 32 - Lib.bitLen (nth ys (n2 - 1)) := ⟨_, rfl⟩
 obtain ⟨t1, t2, t3, t4⟩ := norm_top f2 hlen2 (by omega) hs
 have hb32 := Lib.bitLen_le (nth ys (n2 - 1)) 32 (by decide) (nth_lt h2.ok _)
 have hsI : (32 : Int) - (Lib.bitLen (nth ys (n2 - 1)) : Int) = (s : Int) := by omega
 have hlz := nth_lt h2.ok (n2 - 1)
 obtain ⟨b2, o2, ha2, hb2, hc2⟩ := h2.at_ (by omega)
 subst ha2
 have hcell := hc2 (n2 - 1) (by omega)
 obtain ⟨V, hV⟩ : ∃ V, V = val ys * 2 ^ s := ⟨_, rfl⟩
 obtain ⟨A, hA⟩ : ∃ A, A = val xs * 2 ^ s := ⟨_, rfl⟩
 rw [← hV] at t2 t3 t4
 have hVl : (limbs V).length = n2 := limbs_len (Nat.le_trans (Nat.le_mul_of_pos_right _ (by decide)) t2) t3
 have hVt := top_big t2 hVl (by omega)
 have hxl := val_lt h1.ok
 rw [hlen1] at hxl
 have hAl : A < 4294967296 ^ n1 * 2 ^ s := by rw [hA]; exact Nat.mul_lt_mul_of_pos_right hxl (Nat.two_pow_pos s)
 obtain ⟨m, hm⟩ : ∃ m, n1 = m + n2 := ⟨n1 - n2, by omega⟩
 have hAs : A < V * 4294967296 ^ (m + 1) := by
  refine Nat.lt_of_lt_of_le hAl ?_
  have h3 := Nat.mul_le_mul_right (4294967296 ^ (m + 1)) t4
  refine Nat.le_trans (Nat.le_of_eq ?_) h3
  rw [Nat.mul_right_comm, ← Nat.pow_add]
  congr 2
  omega
 have hAlen : (limbs A).length ≤ n1 + 1 := by
  refine limbs_length_le (Nat.lt_of_lt_of_le hAl ?_)
  rw [Nat.pow_succ]
  exact Nat.mul_le_mul_left _ (by rw [show (4294967296 : Nat) = 2 ^ 32 from rfl]; exact Nat.pow_le_pow_right (by decide) (by omega))
 have hVp : 0 < V := by
  have := Nat.pow_pos (n := n2 - 1) (show 0 < 4294967296 by decide)
  omega
 have hqq : A / V = val xs / val ys := by rw [hA, hV]; exact Nat.mul_div_mul_right _ _ (Nat.two_pow_pos s)
 have hrr : A % V = val xs % val ys * 2 ^ s := by rw [hA, hV]; exact Nat.mul_mod_mul_right _ _ _
 have hrd : A % V / 2 ^ s = val xs % val ys := by rw [hrr]; exact Nat.mul_div_cancel _ (Nat.two_pow_pos s)
 obtain ⟨cv, hcv⟩ : ∃ cv, cv = cmpN (val xs) (val ys) := ⟨_, rfl⟩
 rw [← hcv] at hcn
 have Hcv := Lib.hid hcv
 have HV := Lib.hid hV
 have HA := Lib.hid hA
 have HsI := Lib.hid hsI
 have HVl := Lib.hid hVl
 have HVt := Lib.hid hVt
 have HAlen := Lib.hid hAlen
 have HVp := Lib.hid hVp
 have HT3 := Lib.hid t3
 have Hm := Lib.hid hm
 have Hqq := Lib.hid hqq
 have Hrd := Lib.hid hrd
 have HAs := Lib.hid hAs
 have g1 : ¬ cv < 0 := by omega
 have g2 : decide (cv < 0) = false := decide_eq_false g1
 have g3 : ((n2 : Int) == 1) = false := by simp; omega
 have g4 : (0 : Int) ≤ (n2 : Int) - 1 := by omega
 have g5 : (n2 : Int) - 1 < (n2 : Int) := by omega
 have g6 : IntKind.i64.wrap ((n1 : Int) - (n2 : Int)) = (m : Int) := by rw [IntWalk.i64_in _ (by omega)]; omega
 have g7 : (n1 : Int) - (n2 : Int) = (m : Int) := by omega
 have Hlz := Lib.hid hlz
 clear hcv hcn hV hA hqq hrr hrd hAs hs hc2 hl hxl hAl t2 t3 t4 hb32 hsI hVl hVt hAlen hVp hm hlz hlen1 hlen2
 go_enter Tryz.func164, Tryz.ntmps164
 go_wp2_with fail
 refine (bgCmp_any a1 _ n1 n2 c1 c2 xs ys _ h1 h2 f1 f2).mono ?_
 rintro e w1 ⟨rfl, hb1⟩
 rw [← Hcv.out]
 have hcell1 := cellStay hcell hb1
 have hs1 := h1.below hb1
 have hs2 := h2.below hb1
 go_wp2_with fail
 refine (lz32_any (nth ys (n2 - 1) : Int) _ (by omega) (by have := Hlz.out; omega)).mono ?_
 rintro e w1' ⟨rfl, rfl⟩
 rw [Int.toNat_natCast, HsI.out]
 go_wp2_with fail
 refine (bgUp_any _ n2 c2 s _ rfl ys _ hs2 (by omega) (by omega)).mono ?_
 rintro e w2 ⟨av, kv, cV, rfl, hFv, hb2'⟩
 rw [← HV.out] at hFv
 obtain rfl : n2 = kv := by rw [← hFv.sl.len, HVl.out]
 have hW2 := next hb1 hb2'
 have hs1' := hs1.below hb2'
 have hspl : (lvs (limbs A)).length ≤ n1 + 1 := by simpa [lvs] using HAlen.out
 go_wp2_with (first
  | (at_make; refine wpList_make_full _ rfl _ _ 25 rfl w2.heap.size 40 i0 _ 1 Tryz.underlying25 hi0 hz0 hz1 _ _ _ _ (n1 + 1) rfl rfl rfl rfl (by rw [hz2]; omega) (by unfold maxLen; omega) (Nat.le_refl _) ?_; intro wu hownU hgU; rw [made_lvs] at hownU; have hbU := (Below.refl w2.heap.size w2).grown hgU (Nat.le_refl _) (by simp))
  | (go_at_call 137; refine (bgUp_any a1 n1 c1 s _ rfl xs _ (hs1'.below hbU) (by omega) (by omega)).mono ?_; rintro e w3 ⟨au, ku, cu, rfl, hFu, hb3⟩; rw [← HA.out] at hFu; have hkl := hFu.sl.len; have hB3 := next hbU hb3; have hku : ku ≤ n1 + 1 := (by have := HAlen.out; omega); have hown3 := own_keep hownU hb3; simp only [])
  | (refine wpList_copy_splice rfl (.tmp 49) (.tmp 52) 25 25 rfl 40 Tryz.underlying25 hsz (some ⟨w2.heap.size, 0, none⟩) au (n1 + 1) (n1 + 1) ku cu rfl rfl w2.heap.size 0 (lvs (List.replicate (n1 + 1) 0)) _ (block_own hown3) (lvs (limbs A)) ?_ (fun hp => ⟨rfl, lvs_cell hFu.sl ?_⟩) ?_ ?_ w2.heap.size w3 (Below.refl _ _) (Nat.le_refl _) ?_; (focus (show _ = min ku (n1 + 1); rw [Nat.min_eq_left hku]; simp [lvs, hkl])); (focus (simp [lvs, hkl] at hp; omega)); (focus (simp [lvs, hkl]; omega)); (focus (exact lvs_oneCell _)); intro w4 hw4 hb4; have hB4 := hB3.trans hb4)
  | (at_make; refine wpList_make_full _ rfl _ _ 25 rfl w4.heap.size 40 i0 _ 1 Tryz.underlying25 hi0 hz0 hz1 _ _ _ _ (m + 1) rfl rfl rfl rfl (by rw [hz2]; have := Hm.out; omega) (by unfold maxLen; have := Hm.out; omega) (Nat.le_refl _) ?_; intro w5 hownQ hgQ; rw [made_lvs] at hownQ; have hbQ := (Below.refl w4.heap.size w4).grown hgQ (Nat.le_refl _) (by simp)))
 have hsp : splice (lvs (List.replicate (n1 + 1) 0)) 0 (lvs (limbs A)) = lvs (limbs A ++ List.replicate (n1 + 1 - ku) 0) := by
  simp [splice, lvs, hkl]
 have hw4' := hw4.out
 rw [hsp] at hw4'
 have hownU4 := own_keep (own_block (base := w2.heap.size) (n := n1 + 1) hw4' (Nat.le_refl _) (by simp [hkl]; omega) (by unfold maxLen; omega)) hbQ
 have hB5 := next hB4 hbQ
 have hgu4 : w2.heap.size < w4.heap.size := by have h1 := hb4.size; have h2 := hb3.size; have h3 := hgU.size; have h4 := (hownU.lt w2.heap.size rfl).2; omega
 have hvz : val (limbs A ++ List.replicate (n1 + 1 - ku) 0) = A := by rw [val_append, val_replicate, val_limbs']; omega
 have hst := Lib.hid (dv_start (ok_append (ok_limbs A) (ok_replicate _)) hvz HAs.out)
 have hUl0 : (limbs A ++ List.replicate (n1 + 1 - ku) 0).length = n1 + 1 := by simp [hkl]; omega
 have hvV : val (limbs V) = V := val_limbs' V
 clear hsp hw4 hw4' hvz hown3 hFu hownU hgU hbU hb3 hb4 hgQ hspl
 go_loopw [13] (fun iv wr => ∃ (k : Nat) (U Q : List Nat), k ≤ m + 1 ∧ iv = .int .i64 ((k : Int) - 1) ∧ Hid (Dv A V (m + 1) k U Q) ∧ U.length = n1 + 1 ∧ wr.ownsRow w2.heap.size 40 1 (.slice (some ⟨w2.heap.size, 0, none⟩) (n1 + 1) (n1 + 1)) (n1 + 1) (lvs U) ∧ wr.ownsRow w4.heap.size 40 1 (.slice (some ⟨w4.heap.size, 0, none⟩) (m + 1) (m + 1)) (m + 1) (lvs (List.replicate k 0 ++ Q)) ∧ Below w2.heap.size w2 wr) (fun iv _ => (intOf iv + 1).toNat)
 case atStart => exact ⟨m + 1, _, [], Nat.le_refl _, by simp, hst, hUl0, hownU4, by simpa using hownQ, hB5⟩
 case round =>
  obtain ⟨k, U, Q, hk, rfl, HD, hUl, hoU, hoQ, hBr⟩ := hrel
  by_cases h0 : k = 0
  · subst h0
    obtain ⟨dq, dr⟩ := HD.out.done
    rw [Hqq.out] at dq
    have hokU := HD.out.okU
    have hokQ := HD.out.okQ
    have hQl : Q.length = m + 1 := HD.out.lenQ
    have hVn : V ≤ 4294967296 ^ n2 := Nat.le_of_lt HT3.out
    have hz0 : val (U.drop n2) = 0 := drop_nought (by have := HD.out.lt; rwa [List.drop_zero] at this) hVn
    have hvs := val_split U n2 (by omega)
    rw [hz0, Nat.mul_zero, Nat.add_zero, dr] at hvs
    rw [List.replicate_zero, List.nil_append] at hoQ
    have hSU := (fr_own hoU hokU (k := n2) (c := n1 + 1) (by omega) (by omega) (Nat.le_refl _)).sl
    have hSQ := own_sl hoQ hokQ
    obtain ⟨kr, hkr⟩ : ∃ kr, kr = (limbs (val (U.take n2))).length := ⟨_, rfl⟩
    have htk := take_limbs (ok_take hokU n2)
    have hkrn : kr ≤ n2 := by
     have := congrArg List.length htk
     rw [List.length_take, List.length_take, ← hkr] at this
     omega
    have hSR : Sl wr (some ⟨w2.heap.size, 0, none⟩) kr (n1 + 1) (limbs (val (U.take n2))) := by
     have h2 := (fr_own hoU hokU (k := kr) (c := n1 + 1) (by omega) (by omega) (Nat.le_refl _)).sl
     rw [← hkr, List.take_take, Nat.min_eq_left hkrn] at htk
     rwa [htk] at h2
    have hFr := fr_own hoQ hokQ (k := (limbs (val Q)).length) (c := m + 1) (by have := congrArg List.length (take_limbs hokQ); rw [List.length_take] at this; omega) (by have := congrArg List.length (take_limbs hokQ); rw [List.length_take] at this; omega) (Nat.le_refl _)
    rw [take_limbs hokQ] at hFr
    obtain ⟨kq, hkq⟩ : ∃ kq, kq = (limbs (val Q)).length := ⟨_, rfl⟩
    rw [← hkq, dq] at hFr
    obtain ⟨R0, hR0⟩ : ∃ R0, R0 = limbs (val (U.take n2)) := ⟨_, rfl⟩
    rw [← hR0] at hSR hkr
    have hrr : val R0 / 2 ^ s = val xs % val ys := by rw [hR0, val_limbs', ← hvs]; exact Hrd.out
    obtain ⟨Ut, hUt⟩ : ∃ Ut, Ut = U.take n2 := ⟨_, rfl⟩
    rw [← hUt] at hSU hR0
    have HkR : Hid (kr = (limbs (val Ut)).length) := Lib.hid (by rw [← hR0]; exact hkr)
    have HkQ := Lib.hid hkq
    have Hrr := Lib.hid hrr
    have i1 : (n2 : Int) ≤ (n1 : Int) + 1 := by omega
    have i2 : n2 ≤ n1 + 1 := by omega
    have hsz42 : w.heap.size ≤ w4.heap.size := by have := hW2.size; omega
    clear hkq hkr hrr hR0 hUt htk hvs hz0 dq dr hVn HD hokU hokQ hUl hQl hoU
    go_wp2_with fail
    go_region_held3 (fun w' => Sl w' (some ⟨w2.heap.size, 0, none⟩) n2 (n1 + 1) Ut ∧ Sl w' (some ⟨w4.heap.size, 0, none⟩) (m + 1) (m + 1) Q ∧ Sl w' (some ⟨w2.heap.size, 0, none⟩) kr (n1 + 1) R0 ∧ Fr 40 w' w4.heap.size (some ⟨w4.heap.size, 0, none⟩) kq (m + 1) (limbs (val xs / val ys)) ∧ Below w2.heap.size w2 w')
     ((go_split_ands; refine ⟨?_, ?_, ?_, ?_, ?_⟩ <;> (first | assumption | exact Below.drew (by assumption) | exact Sl.drew (by assumption) | exact Fr.drew (by assumption) | exact next (by assumption) hbB | exact Sl.below (by assumption) hbB | exact Fr.below (by assumption) hbB | (go_keep; done))))
     (first | (go_at_call 138; (with_reducible refine (bgTrim_len (some ⟨w4.heap.size, 0, none⟩) (m + 1) (m + 1) kq Q _ ?_ HkQ (fun hh => by cases hh)).mono ?_); (go_split_ands; assumption); rintro en wB ⟨rfl, rfl⟩) | (go_at_call 138; (with_reducible refine (bgTrim_len (some ⟨w2.heap.size, 0, none⟩) n2 (n1 + 1) kr Ut _ ?_ HkR (fun hh => by cases hh)).mono ?_); (go_split_ands; assumption); rintro en wB ⟨rfl, rfl⟩) | (go_at_call 177; (with_reducible refine (bgDown_any (some ⟨w2.heap.size, 0, none⟩) kr (n1 + 1) s _ rfl R0 _ ?_ (by omega) (by omega)).mono ?_); (go_split_ands; assumption); rintro en wB ⟨ar, kr2, cr, rfl, hFrr, hbB⟩))
    go_split_ands
    have hFrr := hFrr
    rw [Hrr.out] at hFrr
    go_wp2
    go_ret2
    exact ⟨_, _, _, _, _, _, rfl, Fr.mono (by assumption) (by omega), hFrr.mono (Nat.le_trans hW2.size hBr.size), next hW2 (by assumption)⟩
  · obtain ⟨j, rfl⟩ : ∃ j, k = j + 1 := ⟨k - 1, by omega⟩
    have hjl : j + n2 + 1 ≤ U.length := by rw [hUl]; have := Hm.out; omega
    obtain ⟨hFu, hwv, hwz⟩ := Dv.window (vs := limbs V) (by rw [hvV]; exact HD.out) hn2 hjl HVl.out (ok_limbs V) HVt.out
    have hSv := hFv.sl.below hBr
    have hne : ∀ b p, av = some ⟨b, p, none⟩ → b ≠ w2.heap.size := fun b p hp hh => by
     obtain ⟨b', o', hb', hlt', _⟩ := hFv.sl.at_ (by omega)
     rw [hp] at hb'
     cases hb'
     omega
    go_wp2_with fail
    rw [show j + n2 + 1 - j = n2 + 1 by omega]
    refine (bgFigure_any j n2 (n1 + 1 - j) cV av U (limbs V) _ hoU hUl hSv hne (by omega) (by omega) (by omega) hFu).mono ?_
    rintro e w6 ⟨R, rfl, hRl, hRo, hRv, hoU6, hg6⟩
    rw [hwv, hvV] at hRv
    rw [hwv, hvV]
    have hlt := hFu.lt
    rw [hwv, hvV] at hlt
    have hq : val (U.drop j) / V < 4294967296 := Nat.div_lt_of_lt_mul hlt
    have HN := Lib.hid (HD.out.next (n := n2) hjl hwz HVp.out hRv hRl hRo hq)
    obtain ⟨q, hqe⟩ : ∃ q, q = val (U.drop j) / V := ⟨_, rfl⟩
    rw [← hqe] at hq HN
    rw [← hqe]
    have hoQ6 := hoQ.kept hg6 (.inr (by simp [Value.ownBlock]; omega))
    have hfz := hoQ6.frozenAt j
    have hst := own_cell hoQ6 (j := j) (by omega)
    obtain ⟨o1, r1⟩ := hoQ6.stored j (lv q)
    rw [rep_set] at o1
    have hoU7 := hoU6.kept r1 (.inr (by simp [Value.ownBlock]; omega))
    have hB6 := (hBr.grown hg6 hBr.size (by simp))
    have hB7 := hB6.grown r1 hB6.size (by simp; omega)
    have hUl2 : (U.take j ++ ((R ++ [0]) ++ U.drop (j + (n2 + 1)))).length = n1 + 1 := by simp; omega
    have hjm : j ≤ m := by omega
    clear hqe hlt hRv hwv hwz hFu HD hRo hRl r1 hg6 hBr hoU hoQ
    simp only []
    go_wp2
    exact ⟨⟨j, _, _, by omega, by go_num, HN, hUl2, hoU7, o1, hB7⟩, by simp [intOf]⟩
theorem bgDiv_any (a1 a2 : Option Addr) (n1 n2 c1 c2 : Nat) (xs ys : List Nat) (w : World) (h1 : Sl w a1 n1 c1 xs) (h2 : Sl w a2 n2 c2 ys) (f1 : Fine xs) (f2 : Fine ys) (hn : n1 ≤ 1073741824) (h0 : val ys ≠ 0) :
 Calls Tryz.prog 164 #[.slice a1 n1 c1, .slice a2 n2 c2] w (BgQr (val xs) (val ys) w) := by
 by_cases hl : val xs < val ys
 · exact bgDiv_less a1 a2 n1 n2 c1 c2 xs ys w h1 h2 f1 f2 hn hl
 · have hn0 : n2 ≠ 0 := by
    intro hh
    have : ys = [] := List.length_eq_zero_iff.1 (by rw [h2.len]; exact hh)
    rw [this] at h0
    exact h0 rfl
   by_cases h : n2 = 1
   · subst h
     exact bgDiv_one a1 a2 n1 c1 c2 xs ys w h1 h2 f1 f2 hn hl
   · exact bgDiv_long a1 a2 n1 n2 c1 c2 xs ys w h1 h2 f1 f2 hn (by omega) hl
theorem bgOne_any (ao : Option Addr) (n c : Nat) (xs : List Nat) (w : World) (h : Sl w ao n c xs) :
 Calls Tryz.prog 167 #[.slice ao n c] w fun e w' => e = .returned (.bool (decide (val xs = 1 ∧ n = 1))) ∧ w = w' := by
 have hlen := h.len
 by_cases h1 : n = 1
 · subst h1
   obtain ⟨d, rfl⟩ : ∃ d, xs = [d] := List.length_eq_one_iff.1 hlen
   obtain ⟨b, o, rfl, hb, hc⟩ := h.at_ (by decide)
   have hcell : w.cell? ⟨b, o, none⟩ = some (.int .u32 (d : Int)) := hc 0 (by decide)
   have hle := h.le
   have hv : val [d] = d := by simp [val]
   rw [hv]
   by_cases hd : d = 1
   · subst hd
     go_enter Tryz.func167, Tryz.ntmps167
     go_wp2
     go_ret
     simp
   · have hd2 : ((d : Int) == 1) = false := by simp; omega
     go_enter Tryz.func167, Tryz.ntmps167
     go_wp2
     go_ret
     simp [hd]
 · have h2 : ((n : Int) == 1) = false := by simp; omega
   go_enter Tryz.func167, Tryz.ntmps167
   go_wp2
   go_ret
   simp [h1]
theorem bgTopBits_any (ao : Option Addr) (n c k : Nat) (x : Int) (hx : x = (k : Int)) (ys : List Nat) (w : World) (h : Sl w ao n c ys) (hn : n ≤ 4294967296) (hk : k ≤ 1099511627776) :
 Calls Tryz.prog 163 #[.slice ao n c, .int .i64 x] w fun e w' => e = .returned (.int .u64 ((val ys / 2 ^ k % 18446744073709551616 : Nat) : Int)) ∧ w = w' := by
 subst hx
 have hle := h.le
 have hcap := h.cap
 have hlen := h.len
 obtain ⟨q, hq⟩ : ∃ q, q = k / 32 := ⟨_, rfl⟩
 obtain ⟨s, hs⟩ : ∃ s, s = k % 32 := ⟨_, rfl⟩
 have hq1 : (k : Int) / 32 = (q : Int) := by omega
 have hq2 : (k : Int).tdiv 32 = (q : Int) := by rw [Int.tdiv_eq_ediv_of_nonneg (by omega)]; omega
 have hs1 : (k : Int) % 32 = (s : Int) := by omega
 have hs2 : (k : Int).tmod 32 = (s : Int) := by rw [Int.tmod_eq_emod_of_nonneg (by omega)]; omega
 have hs3 : s < 32 := by omega
 have hws : IntKind.u64.wrap (s : Int) = (s : Int) := IntWalk.u64_in _ (by omega)
 have hw1 : IntKind.u64.wrap (64 - (s : Int)) = ((64 - s : Nat) : Int) := by rw [IntWalk.u64_in _ (by omega)]; omega
 have hw2 : IntKind.u64.wrap (32 - (s : Int)) = ((32 - s : Nat) : Int) := by rw [IntWalk.u64_in _ (by omega)]; omega
 have Hfacts := Lib.hid (topAt_facts h.ok q hs3)
 have Hval := Lib.hid (topN_eq ys h.ok k q s hq hs)
 clear hq hs
 go_enter Tryz.func163, Tryz.ntmps163
 go_wp2
 go_loopw [7, 8] (fun xv iv wr => ∃ j : Nat, j ≤ 3 ∧ iv = .int .i64 ((j : Int) - 1) ∧ xv = .int .u64 ((topAt ys q s j : Nat) : Int) ∧ wr = w) (fun _ iv _ => (intOf iv + 1).toNat)
 case atStart => exact ⟨3, by omega, rfl, rfl, rfl⟩
 case round =>
  obtain ⟨j, hj, rfl, rfl, rfl⟩ := hrel
  have hs0 : ((0 : Int) < (s : Int)) ∨ s = 0 := by omega
  obtain ⟨t1, t2, t3, t4, t5, t6, t7⟩ := Hfacts.out
  have n0 := nth_lt h.ok q
  have n1 := nth_lt h.ok (q + 1)
  have n2 := nth_lt h.ok (q + 2)
  have z0 : IntKind.u64.wrap (nth ys q : Int) = (nth ys q : Int) := IntWalk.u64_in _ (by omega)
  have z1 : IntKind.u64.wrap (nth ys (q + 1) : Int) = (nth ys (q + 1) : Int) := IntWalk.u64_in _ (by omega)
  have z2 : IntKind.u64.wrap (nth ys (q + 2) : Int) = (nth ys (q + 2) : Int) := IntWalk.u64_in _ (by omega)
  have E0 : Hid (bits BinOp.or IntKind.u64 (topAt ys q s 1 : Int) (IntKind.u64.wrap (nth ys q : Int) / 2 ^ s) = (topAt ys q s 0 : Int)) := Lib.hid (by
   rw [z0, show (nth ys q : Int) / 2 ^ s = ((nth ys q / 2 ^ s : Nat) : Int) by rw [Int.natCast_ediv, Int.natCast_pow]; rfl, u64_or_nat _ _ t2 t5, t3])
  have E1 : Hid (bits BinOp.or IntKind.u64 (topAt ys q s 2 : Int) (IntKind.u64.wrap (IntKind.u64.wrap (nth ys (q + 1) : Int) * 2 ^ (32 - s))) = (topAt ys q s 1 : Int)) := Lib.hid (by
   rw [z1, show (nth ys (q + 1) : Int) * 2 ^ (32 - s) = ((nth ys (q + 1) * 2 ^ (32 - s) : Nat) : Int) by rw [Int.natCast_mul, Int.natCast_pow]; rfl, IntWalk.u64_in _ (by omega), u64_or_nat _ _ t1 t6, t4])
  have E2 : Hid (IntKind.u64.wrap (IntKind.u64.wrap (nth ys (q + 2) : Int) * 2 ^ (64 - s)) = (topAt ys q s 2 : Int)) := Lib.hid (by
   rw [z2, show (nth ys (q + 2) : Int) * 2 ^ (64 - s) = ((nth ys (q + 2) * 2 ^ (64 - s) : Nat) : Int) by rw [Int.natCast_mul, Int.natCast_pow]; rfl, IntKind.wrap_u64, ← t7]
   omega)
  have F0 : Hid (n ≤ q → bits BinOp.or IntKind.u64 (topAt ys q s 1 : Int) 0 = (topAt ys q s 0 : Int)) := Lib.hid (fun hh => by
   have := u64_or_nat _ _ t2 (show 0 < 18446744073709551616 by decide)
   rw [show nth ys q = 0 from nth_over (by omega), Nat.zero_div] at t3
   rw [t3] at this
   exact this)
  have F1 : Hid (n ≤ q + 1 → bits BinOp.or IntKind.u64 (topAt ys q s 2 : Int) 0 = (topAt ys q s 1 : Int)) := Lib.hid (fun hh => by
   have := u64_or_nat _ _ t1 (show 0 < 18446744073709551616 by decide)
   rw [show nth ys (q + 1) = 0 from nth_over (by omega), Nat.zero_mul] at t4
   rw [t4] at this
   exact this)
  have F2 : Hid (n ≤ q + 2 → topAt ys q s 2 = 0) := Lib.hid (fun hh => by
   rw [← t7, show nth ys (q + 2) = 0 from nth_over (by omega), Nat.zero_mul])
  have F3 : Hid (s = 0 → topAt ys q s 2 = 0) := Lib.hid (fun hh => by
   show nth ys (q + 2) % 2 ^ s * _ = 0
   rw [hh, Nat.pow_zero, Nat.mod_one, Nat.zero_mul])
  clear t1 t2 t3 t4 t5 t6 t7 z0 z1 z2 n0 n1 n2
  obtain rfl | rfl | rfl | rfl : j = 0 ∨ j = 1 ∨ j = 2 ∨ j = 3 := by omega
  · go_wp2
    go_ret
    rw [← Hval.out]
    exact ⟨rfl, rfl⟩
  · by_cases hin : q < n
    · obtain ⟨b, o, rfl, hb, hc⟩ := h.at_ (by omega)
      have hcell := hc q hin
      have i1 : (q : Int) < (n : Int) := by omega
      clear hc
      go_wp2
      exact ⟨⟨0, by omega, rfl, by rw [E0.out], trivial⟩, by simp [intOf]⟩
    · have i1 : ¬ (q : Int) < (n : Int) := by omega
      go_wp2
      exact ⟨⟨0, by omega, rfl, by rw [F0.out (by omega)], trivial⟩, by simp [intOf]⟩
  · by_cases hin : q + 1 < n
    · obtain ⟨b, o, rfl, hb, hc⟩ := h.at_ (by omega)
      have hcell := hc (q + 1) hin
      have i1 : (q : Int) + 1 < (n : Int) := by omega
      have i2 : (0 : Int) ≤ (q : Int) + 1 := by omega
      clear hc
      go_wp2
      exact ⟨⟨1, by omega, rfl, by rw [E1.out], trivial⟩, by simp [intOf]⟩
    · have i1 : ¬ (q : Int) + 1 < (n : Int) := by omega
      go_wp2
      exact ⟨⟨1, by omega, rfl, by rw [F1.out (by omega)], trivial⟩, by simp [intOf]⟩
  · by_cases hin : q + 2 < n
    · obtain ⟨b, o, rfl, hb, hc⟩ := h.at_ (by omega)
      have hcell := hc (q + 2) hin
      have i1 : (q : Int) + 2 < (n : Int) := by omega
      have i2 : (0 : Int) ≤ (q : Int) + 2 := by omega
      clear hc
      rcases hs0 with hs0 | rfl
      · go_wp2
        exact ⟨⟨2, by omega, rfl, by rw [E2.out], trivial⟩, by simp [intOf]⟩
      · go_wp2
        exact ⟨⟨2, by omega, rfl, by rw [F3.out rfl]; rfl, trivial⟩, by simp [intOf]⟩
    · have i1 : ¬ (q : Int) + 2 < (n : Int) := by omega
      rcases hs0 with hs0 | rfl
      · go_wp2
        exact ⟨⟨2, by omega, rfl, by rw [F2.out (by omega)]; rfl, trivial⟩, by simp [intOf]⟩
      · go_wp2
        exact ⟨⟨2, by omega, rfl, by rw [F3.out rfl]; rfl, trivial⟩, by simp [intOf]⟩
theorem bgBlend_any (a1 a2 : Option Addr) (n1 n2 c1 c2 : Nat) (xs ys : List Nat) (p q : Int) (w : World) (h1 : Sl w a1 n1 c1 xs) (h2 : Sl w a2 n2 c2 ys) (hn : n1 ≤ 1073741824) (hnn : n2 ≤ n1) (hpq : BlPQ p q) {R : Nat} (hR : p * (val xs : Int) + q * (val ys : Int) = (R : Int)) :
 Calls Tryz.prog 165 #[.slice a1 n1 c1, .slice a2 n2 c2, .int .i64 p, .int .i64 q] w (Wd 40 R w) := by
 obtain ⟨i0, hi0, hz0, hz1, hz2⟩ := info_parts u32_infoL
 have hle1 := h1.le
 have hcap1 := h1.cap
 have hlen1 := h1.len
 have hle2 := h2.le
 have hcap2 := h2.cap
 have hlen2 := h2.len
 have HR := Lib.hid hR
 have HPQ := Lib.hid hpq
 clear hR hpq
 go_enter Tryz.func165, Tryz.ntmps165
 go_wp2_with (at_make; refine wpList_make_full _ rfl _ _ 25 rfl w.heap.size 40 i0 _ 1 Tryz.underlying25 hi0 hz0 hz1 _ _ _ _ (n1 + 1) rfl rfl rfl rfl (by rw [hz2]; omega) (by unfold maxLen; omega) (Nat.le_refl _) ?_; intro w1 hown hg1; rw [made_lvs] at hown; have hb1 := (Below.refl w.heap.size w).grown hg1 (Nat.le_refl _) (by simp))
 go_loopw [10, 11] (fun cv iv wr => ∃ (i : Nat) (c : Int) (zs : List Nat), i ≤ n1 ∧ cv = .int .i64 c ∧ iv = .int .i64 i ∧ Hid (Bl p q xs ys i zs c) ∧ wr.ownsRow w.heap.size 40 1 (.slice (some ⟨w.heap.size, 0, none⟩) (n1 + 1) (n1 + 1)) (n1 + 1) (lvs (zs ++ List.replicate (n1 + 1 - i) 0)) ∧ Below w.heap.size w wr) (fun _ iv _ => n1 - (intOf iv).toNat)
 case atStart => exact ⟨0, 0, [], by omega, rfl, rfl, Lib.hid (bl_zero p q xs ys), by simpa using hown, hb1⟩
 case round =>
  obtain ⟨i, c, zs, hi, rfl, rfl, HB, hownr, hbr⟩ := hrel
  have clo := HB.out.lo
  have chi := HB.out.hi
  have hzl := HB.out.len
  by_cases hin : i < n1
  · obtain ⟨b, o, rfl, hb, hc⟩ := (h1.below hbr).at_ (by omega)
    have hcell := hc i hin
    have hx := nth_lt h1.ok i
    have hy := nth_lt h2.ok i
    have j1 : (i : Int) < (n1 : Int) := by omega
    have j3 : (i : Int) < (n1 : Int) + 1 := by omega
    obtain ⟨t, ht⟩ : ∃ t, t = p * (nth xs i : Int) + c + q * (nth ys i : Int) := ⟨_, rfl⟩
    obtain ⟨bd1, bd2, bd3⟩ := Bl.bounds HPQ.out hx hy clo chi
    rw [← ht] at bd3
    obtain ⟨d, hd⟩ : ∃ d : Nat, (d : Int) = t % 4294967296 := ⟨(t % 4294967296).toNat, by omega⟩
    have HN := Lib.hid (HB.out.next HPQ.out h1.ok h2.ok ht hd)
    have hfz := hownr.frozenAt i
    have hst := own_cell hownr (j := i) (by omega)
    obtain ⟨o1, r1⟩ := hownr.stored i (lv d)
    rw [set_front hzl (by omega)] at o1
    have hb3 := hbr.grown r1 hbr.size (by simp)
    have z0 : IntKind.i64.wrap (nth xs i : Int) = (nth xs i : Int) := IntWalk.i64_in _ (by omega)
    have z1 : IntKind.i64.wrap (p * (nth xs i : Int)) = p * (nth xs i : Int) := IntWalk.i64_in _ (by omega)
    have z2 : IntKind.i64.wrap (p * (nth xs i : Int) + c) = p * (nth xs i : Int) + c := IntWalk.i64_in _ (by omega)
    by_cases hin2 : i < n2
    · obtain ⟨b', o', rfl, hb', hc'⟩ := (h2.below hbr).at_ (by omega)
      have hcell2 := hc' i hin2
      have j2 : (i : Int) < (n2 : Int) := by omega
      have z3 : IntKind.i64.wrap (nth ys i : Int) = (nth ys i : Int) := IntWalk.i64_in _ (by omega)
      have z4 : IntKind.i64.wrap (q * (nth ys i : Int)) = q * (nth ys i : Int) := IntWalk.i64_in _ (by omega)
      have z5 : wrap64 t = t := IntWalk.wrap64_in _ (by omega)
      have z6 : p * (nth xs i : Int) + c + q * (nth ys i : Int) = t := ht.symm
      have hd' := hd.symm
      clear hc hc' ht hd bd1 bd2 bd3 r1 HB
      go_wp2
      exact ⟨⟨i + 1, _, zs ++ [d], by omega, rfl, by go_num, HN, o1, hb3⟩, by simp [intOf]; omega⟩
    · have j2 : ¬ (i : Int) < (n2 : Int) := by omega
      have hz : nth ys i = 0 := nth_over (by omega)
      have z6 : p * (nth xs i : Int) + c = t := by rw [ht, hz]; simp
      have z5 : wrap64 t = t := IntWalk.wrap64_in _ (by omega)
      have hd' := hd.symm
      clear hc ht hd bd1 bd2 bd3 r1 HB hz
      go_wp2
      exact ⟨⟨i + 1, _, zs ++ [d], by omega, rfl, by go_num, HN, o1, hb3⟩, by simp [intOf]; omega⟩
  · obtain rfl : n1 = i := by omega
    obtain ⟨k0, k1, k2⟩ := HB.out.done hlen1 (by omega) HR.out
    obtain ⟨d, rfl⟩ : ∃ d : Nat, c = (d : Int) := ⟨c.toNat, by omega⟩
    rw [Int.toNat_natCast] at k2
    have hfz := hownr.frozenAt n1
    have hst := own_cell hownr (j := n1) (by omega)
    obtain ⟨o1, r1⟩ := hownr.stored n1 (lv d)
    rw [set_front hzl (by omega), Nat.sub_self, List.replicate_zero, List.append_nil] at o1
    have hb3 := hbr.grown r1 hbr.size (by simp)
    have hok : Ok (zs ++ [d]) := ok_append HB.out.ok (ok_cons (by omega) ok_nil)
    have z1 : (d : Int) % 4294967296 = (d : Int) := by omega
    have z2 : d % 4294967296 = d := by omega
    have Hk2 := Lib.hid k2
    clear k0 k1 k2 clo chi r1 HB
    go_wp2_with fail
    refine (bgTrim_own _ o1 hok).mono ?_
    rintro e w2 ⟨k2, rfl, hF, rfl⟩
    rw [Hk2.out] at hF
    go_wp2
    go_ret
    exact ⟨_, _, _, rfl, hF, hb3⟩
end Go.Proofs.YtpmncmglmobjoaaGreatDoor
