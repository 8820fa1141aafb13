/-
  The law numerallaw06.NearSteps answers true, whatever it is asked, in whatever memory; what it is asked reads behind the call as it read before. One condition: the table math/bits.deBruijn32tab reads as it was laid.
-/
import Derived.Test.YtfjgmpfpadfknaaGreatDoorQNbBase
import Derived.Test.YtfjgmpfpadfknaaGreatDoorQSNearV
namespace Go.Proofs.YtfjgmpfpadfknaaGreatDoor

open Go.RowKit Go.Lb

attribute [local go_sem] Go.World.cell?_alloc_some

/-- How two stand to each other. -/
theorem steps_tri {E F a b : Nat} (h : stE (E : Int) (F : Int) a b = 0) : ∃ n : Nat, stN (E : Int) (F : Int) a b = (n : Int) ∧ stN (E : Int) (F : Int) b a = (n : Int) ∧ stE (E : Int) (F : Int) b a = 0 ∧ twoE (E : Int) (F : Int) a b = 0 ∧
    ((stB (E : Int) (F : Int) a b = false ∧ stB (E : Int) (F : Int) b a = true ∧ cmV (E : Int) (F : Int) a b = -1 ∧ orV (E : Int) (F : Int) a b = -1 ∧ 0 < n ∧ (n : Int) = IntKind.u64.wrap (plI E F b - plI E F a)) ∨
     (stB (E : Int) (F : Int) a b = false ∧ stB (E : Int) (F : Int) b a = false ∧ cmV (E : Int) (F : Int) a b = 0 ∧ n = 0 ∧ plI E F b - plI E F a = 0) ∨
     (stB (E : Int) (F : Int) a b = true ∧ stB (E : Int) (F : Int) b a = false ∧ cmV (E : Int) (F : Int) a b = 1 ∧ orV (E : Int) (F : Int) a b = 1 ∧ 0 < n ∧ IntKind.u64.wrap (-(n : Int)) = IntKind.u64.wrap (plI E F b - plI E F a))) := by
  obtain ⟨hf, l1, l2, n1, n2⟩ := st_ok.1 h
  have h' := (st_comm _ _ _ _).1 h
  obtain ⟨_, _, _, _, _, _, _, h0⟩ := st_forms h
  obtain ⟨d1, s1⟩ := st_plain hf l1 l2
  obtain ⟨d2, s2⟩ := st_plain hf l2 l1
  obtain ⟨o1, o2⟩ := st_off hf l1 l2
  have e1 : stB (E : Int) (F : Int) a b = stD E F a b := if_pos h
  have e2 : stB (E : Int) (F : Int) b a = stD E F b a := if_pos h'
  have e3 : stN (E : Int) (F : Int) a b = stI E F a b := if_pos h
  have e4 : stN (E : Int) (F : Int) b a = stI E F b a := if_pos h'
  have e5 : cmV (E : Int) (F : Int) a b = if plI E F a < plI E F b then -1 else if plI E F b < plI E F a then 1 else 0 := by
    have : cmV (E : Int) (F : Int) a b = if IntKind.i64.wrap (plN E F a : Int) < IntKind.i64.wrap (plN E F b : Int) then -1 else if IntKind.i64.wrap (plN E F b : Int) < IntKind.i64.wrap (plN E F a : Int) then 1 else 0 := if_pos h
    rw [this, pl_i64 hf l1, pl_i64 hf l2]
  have e6 : orV (E : Int) (F : Int) a b = if a = b then 0 else if rwA E F a < rwA E F b ∨ rwA E F a = rwA E F b ∧ rwN E F a < rwN E F b then -1 else 1 := if_neg (by simp [h0])
  obtain ⟨r1, r2⟩ := row_less l1 l2
  rw [e1, e2, e3, e4, e5, e6, d2, s2]
  rw [d1] at o1 o2
  rw [s1] at o1 o2
  refine ⟨(plI E F a - plI E F b).natAbs, s1, by omega, h', h0, ?_⟩
  rw [d1]
  rcases Int.lt_trichotomy (plI E F a) (plI E F b) with hl | hl | hl
  · left
    obtain ⟨q1, q2⟩ := r1 hl
    refine ⟨decide_eq_false (by omega), decide_eq_true hl, if_pos hl, by rw [if_neg q2, if_pos q1], by omega, o2 (decide_eq_false (by omega))⟩
  · right; left
    refine ⟨decide_eq_false (by omega), decide_eq_false (by omega), by rw [if_neg (by omega), if_neg (by omega)], by omega, by omega⟩
  · right; right
    obtain ⟨q1, q2⟩ := r2 hl
    refine ⟨decide_eq_true hl, decide_eq_false (by omega), by rw [if_neg (by omega), if_pos hl], by rw [if_neg q2, if_neg q1], by omega, o1 (decide_eq_true hl)⟩

/-- One place up, and down again. -/
theorem steps_up {E F a b : Nat} (h : stE (E : Int) (F : Int) a b = 0) (hU : hiE (E : Int) (F : Int) a = 0) : ∃ u d : Nat, hiB (E : Int) (F : Int) a = u ∧ loE (E : Int) (F : Int) u = 0 ∧ loB (E : Int) (F : Int) u = d ∧ u < 18446744073709551616 ∧ d < 18446744073709551616 ∧
    stB (E : Int) (F : Int) a u = false ∧ stN (E : Int) (F : Int) a u = 1 ∧ stE (E : Int) (F : Int) a u = 0 ∧ stN (E : Int) (F : Int) a d = 0 ∧ stE (E : Int) (F : Int) a d = 0 := by
  obtain ⟨hf, l1, l2, n1, n2⟩ := st_ok.1 h
  obtain ⟨u, d, k1, k2, k3, k4, k5, k6, k7, k8, k9⟩ := hi_lo hf l1 hU
  have hu := st_ok.2 ⟨hf, l1, k4, n1, k6⟩
  have hd := st_ok.2 ⟨hf, l1, k5, n1, k7⟩
  obtain ⟨d1, s1⟩ := st_plain hf l1 k4
  obtain ⟨d2, s2⟩ := st_plain hf l1 k5
  have hP := (top63 hf).2
  have hpp : pw (1 + E + F) = 2 * pw (E + F) := pw_one_more E F
  refine ⟨u, d, k1, k2, k3, by omega, by omega, ?_, ?_, hu, ?_, hd⟩
  · rw [show stB (E : Int) (F : Int) a u = stD E F a u from if_pos hu, d1]; exact decide_eq_false (by omega)
  · rw [show stN (E : Int) (F : Int) a u = stI E F a u from if_pos hu, s1]; omega
  · rw [show stN (E : Int) (F : Int) a d = stI E F a d from if_pos hd, s2]; omega

/-- What is stepped to a third, told by 64 bits that wrap round. -/
theorem steps_on {E F a b : Nat} (h : stE (E : Int) (F : Int) a b = 0) : (stB (E : Int) (F : Int) a b = true → IntKind.u64.wrap (-(stN (E : Int) (F : Int) a b)) = IntKind.u64.wrap (plI E F b - plI E F a)) ∧ (stB (E : Int) (F : Int) a b = false → stN (E : Int) (F : Int) a b = IntKind.u64.wrap (plI E F b - plI E F a)) := by
  obtain ⟨hf, l1, l2, n1, n2⟩ := st_ok.1 h
  rw [show stB (E : Int) (F : Int) a b = stD E F a b from if_pos h, show stN (E : Int) (F : Int) a b = stI E F a b from if_pos h]
  exact st_off hf l1 l2

set_option maxRecDepth 100000 in
set_option maxHeartbeats 8000000 in
theorem stepsLaw_any (e f : Int) (a b c : Nat) (w : World) (ha : a < 18446744073709551616) (hb : b < 18446744073709551616) (hc : c < 18446744073709551616) (hT : Tab w) :
    Calls Tryz.prog 6 #[.agg #[.int .i64 e, .int .i64 f], .int .u64 (a : Int), .int .u64 (b : Int), .int .u64 (c : Int)] w fun en w' => en = .returned (.bool true) ∧ Below w.heap.size w w' := by
  obtain ⟨W1, hW1⟩ : ∃ W1 : World, W1 = w.alloc (.cells #[.int .i64 e, .int .i64 f] 23) := ⟨_, rfl⟩
  have V : Below w.heap.size w W1 := hW1 ▸ more (Below.refl _ _) _
  have F0 : Box2 W1 w.heap.size (.int .i64 e) (.int .i64 f) := hW1 ▸ box2_new w _ _ _
  have hT1 := hT.below V
  have cA := awake6_any W1 hT1
  have cS := fun W => nearSteps_any e f a b W ha hb
  have cR := fun W => nearSteps_any e f b a W hb ha
  by_cases hs : stE e f a b = 0
  · obtain ⟨E, F, rfl, rfl, hf, l1, l2, _⟩ := st_forms hs
    obtain ⟨n, t1, t2, t3, t4, tri⟩ := steps_tri hs
    rw [t1, hs] at cS
    rw [t2, t3] at cR
    have cM := fun W => nearCmp_any (E : Int) (F : Int) a b W ha hb
    have cO := fun W => nearOrder_any (E : Int) (F : Int) a b W ha hb
    rw [hs, t4] at cM
    rw [t4] at cO
    have cU := fun W => nearUp_any (E : Int) (F : Int) a W ha
    have hup := fun hU => steps_up (a := a) (b := b) hs hU
    have cD := fun u W (hu : u < 18446744073709551616) => nearDown_any (E : Int) (F : Int) u W hu
    have cT := fun u W (hu : u < 18446744073709551616) => nearSteps_any (E : Int) (F : Int) a u W ha hu
    have cX := fun W => nearSteps_any (E : Int) (F : Int) b c W hb hc
    have cY := fun W => nearSteps_any (E : Int) (F : Int) a c W ha hc
    have hbad := fun h => st_bad (c := c) hs h
    have hgood : stE (E : Int) (F : Int) b c = 0 → stE (E : Int) (F : Int) a c = 0 → ∃ Y Z : Int, (stB (E : Int) (F : Int) b c = true → IntKind.u64.wrap (-(stN (E : Int) (F : Int) b c)) = Y) ∧ (stB (E : Int) (F : Int) b c = false → stN (E : Int) (F : Int) b c = Y) ∧ (stB (E : Int) (F : Int) a c = true → IntKind.u64.wrap (-(stN (E : Int) (F : Int) a c)) = Z) ∧ (stB (E : Int) (F : Int) a c = false → stN (E : Int) (F : Int) a c = Z) ∧ IntKind.u64.wrap (IntKind.u64.wrap (plI E F b - plI E F a) + Y) = Z := fun h1 h2 => by
      obtain ⟨y1, y2⟩ := steps_on h1
      obtain ⟨z1, z2⟩ := steps_on h2
      refine ⟨_, _, y1, y2, z1, z2, ?_⟩
      rw [wrap_sum]
      congr 1
      omega
    have HG := Lib.hid hgood
    have HB := Lib.hid hbad
    have HU := Lib.hid hup
    have TR := Lib.hid tri
    clear hgood hbad hup tri t1 t2 t3 t4 hs hf l1 l2
    generalize hdx : IntKind.u64.wrap (plI E F b - plI E F a) = X at *
    generalize hdd : plI E F b - plI E F a = XX at *
    generalize stB (E : Int) (F : Int) a b = D1 at *
    generalize stB (E : Int) (F : Int) b a = D2 at *
    generalize cmV (E : Int) (F : Int) a b = cm at *
    generalize orV (E : Int) (F : Int) a b = od at *
    generalize stE (E : Int) (F : Int) b c = E3 at *
    generalize stE (E : Int) (F : Int) a c = E4 at *
    generalize stB (E : Int) (F : Int) b c = D3 at *
    generalize stB (E : Int) (F : Int) a c = D4 at *
    generalize stN (E : Int) (F : Int) b c = N3 at *
    generalize stN (E : Int) (F : Int) a c = N4 at *
    have tri := TR.out
    clear TR
    go_enter Tryz.func6, Tryz.ntmps6
    go_upto_region 1 with fail
    rw [← hW1]
    clear hW1
    go_wp2_with fail
    refine cA.mono ?_
    rintro en w2 ⟨rfl, hb2⟩
    replace V := next V hb2
    replace F0 := F0.stay hb2
    clear cA hb2 hT1
    have ⟨f0, f1⟩ := F0
    go_wp2_with fail
    refine (cS w2).mono ?_
    rintro en w3 ⟨rfl, hb3⟩
    replace V := next V hb3
    replace F0 := F0.stay hb3
    clear hb3 f0 f1 cS
    have ⟨f0, f1⟩ := F0
    go_wp2_with fail
    refine (cR w3).mono ?_
    rintro en w4 ⟨rfl, hb4⟩
    replace V := next V hb4
    replace F0 := F0.stay hb4
    clear hb4 f0 f1 cR
    have ⟨f0, f1⟩ := F0
    rcases tri with ⟨rfl, rfl, rfl, rfl, hn, hx⟩ | ⟨rfl, rfl, rfl, rfl, hx⟩ | ⟨rfl, rfl, rfl, rfl, hn, hx⟩
    all_goals
      (try have i1 : (0 : Int) < (n : Int) := by omega)
      (try have i2 : ¬ ((n : Int) = 0) := by omega)
      have HX := Lib.hid hx
      (try have HN := Lib.hid hn)
      clear hx
      (try clear hn)
      go_wp2_with fail
      refine (cU w4).mono ?_
      rintro en w5 ⟨rfl, hb5⟩
      have V5 := next V hb5
      have F5 := F0.stay hb5
      have ⟨g0, g1⟩ := F5
      go_upto_if 91 with fail
      go_cut [12, 16, 17, 18, 19, 20, 21, 22, 23, 24] from 84 to 134 (fun _ _ _ _ _ _ _ _ _ _ wx => Below w.heap.size w wx ∧ Box2 wx w.heap.size (.int .i64 (E : Int)) (.int .i64 (F : Int)))
      case first => as_aux_lemma =>
        by_cases hU : hiE (E : Int) (F : Int) a = 0
        · obtain ⟨u, d, k1, k2, k3, k4, k5, k6, k7, k8, k9, k10⟩ := HU.out hU
          have cd := fun W => cD u W k4
          have cu := fun W => cT u W k4
          have ce := fun W => cT d W k5
          rw [k3, k2] at cd
          rw [k6, k7, k8] at cu
          rw [k9, k10] at ce
          rw [k1, hU]
          clear k1 k2 k3 k4 k5 k6 k7 k8 k9 k10 hU
          generalize stB (E : Int) (F : Int) a d = Dd at *
          go_wp2_with fail
          refine (cd w5).mono ?_
          rintro en w6 ⟨rfl, hb6⟩
          have F6 := F5.stay hb6
          have h0 := F6.c0
          have h1 := F6.c1
          go_wp2_with fail
          refine (cu w6).mono ?_
          rintro en w7 ⟨rfl, hb7⟩
          have F7 := F6.stay hb7
          have j0 := F7.c0
          have j1 := F7.c1
          go_wp2_with fail
          refine (ce w7).mono ?_
          rintro en w8 ⟨rfl, hb8⟩
          go_wp2
          go_meet
          exact ⟨next (next (next V5 hb6) hb7) hb8, F7.stay hb8⟩
        · generalize hiE (E : Int) (F : Int) a = HE at *
          go_wp2
          go_meet
          exact ⟨V5, F5⟩
      case rest => as_aux_lemma =>
        obtain ⟨VC, FC⟩ := hcut
        clear V5 F5 g0 g1 hb5 V F0 f0 f1 cU cD cT HU
        have ⟨f0, f1⟩ := FC
        go_wp2_with fail
        refine (cM wc).mono ?_
        rintro en wd ⟨rfl, hbd⟩
        have VD := next VC hbd
        have FD := FC.stay hbd
        clear VC FC hbd cM f0 f1
        have ⟨f0, f1⟩ := FD
        go_wp2_with fail
        refine (cO wd).mono ?_
        rintro en we ⟨rfl, hbe⟩
        have VE := next VD hbe
        have FE := FD.stay hbe
        clear VD FD hbe cO f0 f1
        have ⟨f0, f1⟩ := FE
        go_wp2_with fail
        refine (cX we).mono ?_
        rintro en wf ⟨rfl, hbf⟩
        have VF := next VE hbf
        have FF := FE.stay hbf
        clear VE FE hbf cX f0 f1
        have ⟨f0, f1⟩ := FF
        go_wp2_with fail
        refine (cY wf).mono ?_
        rintro en wg ⟨rfl, hbg⟩
        have VG := next VF hbg
        clear VF FF hbg cY f0 f1
        by_cases h3 : E3 = 0
        · by_cases h4 : E4 = 0
          · obtain ⟨Y, Z, y1, y0, z1, z0, hsum⟩ := HG.out h3 h4
            subst h3 h4
            have hx := HX.out
            (first | rw [← hdx, hx, show IntKind.u64.wrap 0 = 0 by decide, Int.zero_add] at hsum | rw [← hx] at hsum)
            have HS := Lib.hid hsum
            have HY1 := Lib.hid y1
            have HY0 := Lib.hid y0
            have HZ1 := Lib.hid z1
            have HZ0 := Lib.hid z0
            clear HG HB HX hx y1 y0 z1 z0 hsum
            go_upto_if 221 with fail
            go_cut [33] from 221 to 223 (fun v33 wx => v33 = .int .u64 Y ∧ wg = wx)
            case first => as_aux_lemma =>
              cases D3
              · have := HY0.out rfl
                subst this
                clear HS HY1 HY0 HZ1 HZ0
                go_wp2
                go_meet
                exact ⟨rfl, rfl⟩
              · have hy := HY1.out rfl
                clear HS HY1 HY0 HZ1 HZ0
                go_wp2
                go_meet
                exact ⟨by simp, rfl⟩
            case rest => as_aux_lemma =>
              obtain ⟨rfl, rfl⟩ := hcut
              go_upto_if 225 with fail
              go_cut [34] from 225 to 227 (fun v34 wx => v34 = .int .u64 Z ∧ wg = wx)
              case first => as_aux_lemma =>
                cases D4
                · have := HZ0.out rfl
                  subst this
                  clear HS HY1 HY0 HZ1 HZ0
                  go_wp2
                  go_meet
                  exact ⟨rfl, rfl⟩
                · have hz := HZ1.out rfl
                  clear HS HY1 HY0 HZ1 HZ0
                  go_wp2
                  go_meet
                  exact ⟨by simp, rfl⟩
              case rest => as_aux_lemma =>
                obtain ⟨rfl, rfl⟩ := hcut
                have hsum := HS.out
                clear HS HY1 HY0 HZ1 HZ0
                go_wp2
                go_ret
                exact ⟨by simp, VG⟩
          · have h3' := HB.out (.inr h4)
            rw [h3] at h3'
            exact absurd h3' (by decide)
        · have hbd := HB.out (.inl h3)
          clear HB HG HX
          rcases hbd with rfl | rfl
          · go_wp2
            go_ret
            exact ⟨by simp, VG⟩
          · go_wp2
            go_ret
            exact ⟨by simp, VG⟩
  · have hs' : ¬ stE e f b a = 0 := fun h => hs ((st_comm _ _ _ _).2 h)
    generalize stE e f a b = E1 at *
    generalize stE e f b a = E2 at *
    have b1 : (E1 == 0) = false := by simpa using hs
    have b2 : (E2 == 0) = false := by simpa using hs'
    go_enter Tryz.func6, Tryz.ntmps6
    go_upto_region 1 with fail
    rw [← hW1]
    clear hW1
    go_wp2_with fail
    refine cA.mono ?_
    rintro en w2 ⟨rfl, hb2⟩
    replace V := next V hb2
    replace F0 := F0.stay hb2
    have ⟨f0, f1⟩ := F0
    clear cA hb2 hT1
    go_wp2_with fail
    refine (cS w2).mono ?_
    rintro en w3 ⟨rfl, hb3⟩
    replace V := next V hb3
    replace F0 := F0.stay hb3
    have ⟨f0, f1⟩ := F0
    go_wp2_with fail
    refine (cR w3).mono ?_
    rintro en w4 ⟨rfl, hb4⟩
    replace V := next V hb4
    go_wp2
    go_ret
    exact ⟨by simp, V⟩

end Go.Proofs.YtfjgmpfpadfknaaGreatDoor

