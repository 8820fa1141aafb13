/-
  The walks of the reference's plus, less, fits, two, Add, Sub, Cmp. The walks of nat.Mul and of the reference's times and Mul: a product in a block of its own.
-/
import Derived.Test.YtnokabglkmiidaaDoorNatSub
import Derived.Test.YtnokabglkmiidaaDoorRefDown
namespace Go.Proofs.YtnokabglkmiidaaDoor
open Go.RowKit Go.Lb

set_option maxRecDepth 100000 in
set_option maxHeartbeats 1600000 in
theorem refPlus_any (a1 a2 : Option Addr) (n1 n2 c1 c2 : Nat) (xs ys : List Nat) (w : World) (h1 : Sl w a1 n1 c1 xs) (h2 : Sl w a2 n2 c2 ys) (l1 : n1 ≤ 16384) (l2 : n2 ≤ 16384) :
    Calls Tryd.prog 118 #[.slice a1 n1 c1, .slice a2 n2 c2] w fun e w' => ∃ ao n c zs, e = .returned (.slice ao n c) ∧ Fr 55 w' w.heap.size ao n c zs ∧ val zs = val xs + val ys ∧ Below w.heap.size w w' := by
  obtain ⟨i0, hi0, hz0, hz1, hz2⟩ := info_parts u32_infoL
  have e1 := h1.len
  have e2 := h2.len
  go_enter Tryd.func118, Tryd.ntmps118
  go_wp2
  go_loopw [5, 6, 7] (fun v cv i wr => ∃ (j cc : Nat) (zs : List Nat), j ≤ max n1 n2 + 1 ∧ (cc = 0 ∨ j ≤ max n1 n2) ∧ i = .int .i64 j ∧ cv = .int .u64 cc ∧ Ad xs ys j zs cc ∧ wr.ownsRow w.heap.size 55 1 v j (lvs zs) ∧ Below w.heap.size w wr) (fun _ _ i _ => max n1 n2 + 1 - (intOf i).toNat)
  case atStart => exact ⟨0, 0, [], by omega, .inl rfl, rfl, rfl, ad_zero xs ys, World.ownsRow_nil _ _ _ _, Below.refl _ _⟩
  case round =>
    obtain ⟨j, cc, zs, hj, hcj, rfl, rfl, had, hown, hW⟩ := hrel
    have hcc := had.one
    have hx1 := nth_lt h1.ok j
    have hx2 := nth_lt h2.ok j
    have hd := had.next h1.ok h2.ok
    have hok := had.ok
    have hlow : ((nth xs j : Int) + (nth ys j : Int) + (cc : Int)) % 4294967296 = (((nth xs j + nth ys j + cc) % 4294967296 : Nat) : Int) := by omega
    have Hlow := Lib.hid hlow
    have hz : (nth xs j + nth ys j + cc) % 4294967296 < 4294967296 := by omega
    have hsz := hW.size
    clear hlow
    have go : (j < n1 ∨ ¬ j < n1 ∧ j < n2 ∨ ¬ j < n1 ∧ ¬ j < n2 ∧ 0 < cc) ∨ (¬ j < n1 ∧ ¬ j < n2 ∧ cc = 0) := by omega
    rcases go with go | ⟨g1, g2, rfl⟩
    · have hjm : j ≤ max n1 n2 := by omega
      have hcn : (nth xs j + nth ys j + cc) / 4294967296 = 0 ∨ j + 1 ≤ max n1 n2 := by
        rcases Nat.lt_or_ge j (max n1 n2) with hh | hh
        · exact .inr (by omega)
        · rw [nth_over (xs := xs) (by omega), nth_over (xs := ys) (by omega)]
          exact .inl (by omega)
      have Hcn := Lib.hid hcn
      clear hcn e1 e2
      rcases go with g1 | ⟨g1, g2⟩ | ⟨g1, g2, g3⟩
      all_goals
        go_wp2_with (first
          | (go_at_call 100; with_reducible refine (refLimb_e a1 n1 c1 j _ rfl xs _ (h1.below hW)).mono ?_; rintro e w1 ⟨rfl, rfl⟩)
          | (go_at_call 100; with_reducible refine (refLimb_e a2 n2 c2 j _ rfl ys _ (h2.below hW)).mono ?_; rintro e w1 ⟨rfl, rfl⟩)
          | (at_builtin; refine wpList_append_sl _ rfl (.tmp 34) (.tmp 37) _ rfl w.heap.size 55 i0 _ Tryd.underlying22 hi0 hz0 hz1 hz2 rfl _ j _ rfl (hown.alloc _) (some ⟨wr.heap.size, 0, none⟩) 1 1 _ rfl (sl_one wr _ Hlow.out hz) (by omega) (by simp; omega) ?_; intro v1 w1 hown1 hg1 hat1; replace hW := grownOwn (more hW _) (hown.alloc _) (Nat.le_refl _) hg1))
        exact ⟨⟨j + 1, _, _, by omega, Hcn.out, by go_num, by go_num, hd, hown1, hW⟩, by simp [intOf]; omega⟩
    · have hs := had.sum0 (by omega) (by omega)
      obtain ⟨a3, c3, rfl, hF⟩ := fr_own_any hown hok
      have Hs := Lib.hid hs
      clear hs hd hown
      go_wp2
      go_ret
      exact ⟨a3, j, c3, rfl, zs, hF, Hs.out, hW⟩
end Go.Proofs.YtnokabglkmiidaaDoor

namespace Go.Proofs.YtnokabglkmiidaaDoor
open Go.RowKit Go.Lb

theorem lvs_set (zs : List Nat) (p d : Nat) : (lvs zs).set p (lv d) = lvs (zs.set p d) := by
  unfold lvs
  rw [List.map_set]

theorem fine_ge {xs : List Nat} (h : Fine xs) (h0 : xs ≠ []) : 4294967296 ^ (xs.length - 1) ≤ val xs := by
  rcases Nat.lt_or_ge (val xs) (4294967296 ^ (xs.length - 1)) with hh | hh
  · have h1 := limbs_length_le hh
    rw [limbs_val h] at h1
    have h2 : xs.length ≠ 0 := fun e => h0 (List.eq_nil_of_length_eq_zero e)
    omega
  · exact hh

/-- Too long a product. -/
theorem prod_many {xs ys : List Nat} (hx : Fine xs) (hy : Fine ys) (h1 : xs.length ≤ 16384) (h2 : ys.length ≤ 16384) (h : 16385 < xs.length + ys.length) : ¬ (limbs (val xs * val ys)).length ≤ 16384 := by
  intro hc
  obtain ⟨M, hM⟩ : ∃ M : Nat, M = 16384 := ⟨_, rfl⟩
  rw [← hM] at hc
  have h3 := lt_of_limbs_length hc
  have g1 := fine_ge hx (fun e => by rw [e] at h; simp at h; omega)
  have g2 := fine_ge hy (fun e => by rw [e] at h; simp at h; omega)
  have g3 := Nat.mul_le_mul g1 g2
  rw [← Nat.pow_add] at g3
  have g4 : 4294967296 ^ M ≤ 4294967296 ^ (xs.length - 1 + (ys.length - 1)) := Nat.pow_le_pow_right (by decide) (by omega)
  omega

theorem mul_facts {x y z c : Nat} (hx : x < 4294967296) (hy : y < 4294967296) (hz : z < 4294967296) (hc : c < 4294967296) : x * y < 18446744073709551616 ∧ x * y + z < 18446744073709551616 ∧ c + (x * y + z) < 18446744073709551616 ∧ x * y + z + c < 18446744073709551616 := by
  have : x * y ≤ 4294967295 * 4294967295 := Nat.mul_le_mul (by omega) (by omega)
  omega

theorem mul_wraps {x y z c : Nat} (hx : x < 4294967296) (hy : y < 4294967296) (hz : z < 4294967296) (hc : c < 4294967296) :
    IntKind.u64.wrap ((x : Int) * (y : Int)) = (x : Int) * (y : Int) ∧ IntKind.u64.wrap ((x : Int) * (y : Int) + (z : Int)) = (x : Int) * (y : Int) + (z : Int) ∧ IntKind.u64.wrap ((c : Int) + ((x : Int) * (y : Int) + (z : Int))) = (c : Int) + ((x : Int) * (y : Int) + (z : Int)) ∧ IntKind.u64.wrap ((x : Int) * (y : Int) + (z : Int) + (c : Int)) = (x : Int) * (y : Int) + (z : Int) + (c : Int) := by
  have h := mul_facts hx hy hz hc
  have e : (x : Int) * (y : Int) = ((x * y : Nat) : Int) := (Int.natCast_mul x y).symm
  rw [e]
  generalize x * y = p at h
  refine ⟨?_, ?_, ?_, ?_⟩ <;> (rw [IntKind.wrap_u64]; omega)

theorem wrap_limb {x : Nat} (hx : x < 4294967296) : IntKind.u64.wrap (x : Int) = (x : Int) := by
  rw [IntKind.wrap_u64]
  omega

set_option maxRecDepth 100000 in
set_option maxHeartbeats 2000000 in
theorem natMul_many (a1 a2 : Option Addr) (n1 n2 c1 c2 : Nat) (xs ys : List Nat) (w : World) (h1 : Sl w a1 n1 c1 xs) (h2 : Sl w a2 n2 c2 ys) (hx : chk xs = 0) (hy : chk ys = 0) (hn : 16385 < n1 + n2) :
    Calls Tryd.prog 98 #[.agg #[.slice a1 n1 c1], .agg #[.slice a2 n2 c2]] w (Numb w (bigN (val xs * val ys)) (bigE (val xs * val ys))) := by
  have l1 := chk_zero_len hx
  have l2 := chk_zero_len hy
  have e1 := h1.len
  have e2 := h2.len
  have hb := bigE_many (prod_many (fine_of_chk h1.ok hx) (fine_of_chk h2.ok hy) l1 l2 (by omega))
  rw [hb.1, hb.2]
  go_enter Tryd.func98, Tryd.ntmps98
  go_wp2_with (first
    | (go_at_call 108; refine (checks_new a1 a2 n1 n2 c1 c2 xs ys w _ _ h1 h2 hx hy).mono ?_; rintro e w1 ⟨rfl, hW, A, B, C⟩; have ⟨q0, qz⟩ := A; have ⟨b0, bz⟩ := B; have ⟨r0, rz⟩ := C))
  go_quiet (fail)
  rename_i nq
  have Hb := drewn (Below.refl w1.heap.size w1) nq
  generalize w1.drewN nq = wq at Hb ⊢
  replace hW := next hW Hb
  replace A := A.stay Hb
  replace B := B.stay Hb
  replace C := C.stay Hb
  clear q0 qz b0 bz r0 rz Hb
  have ⟨r0, rz⟩ := C
  go_wp2
  refine bodyPost_ret (v := .tuple #[.agg #[.slice none 0 0], .int .i64 4]) (by simp [results, Tryd.results98, go_sem, C.set]) rfl ⟨none, 0, 0, rfl, ?_, hW.setCell (by simp; omega) _⟩
  rw [limbs_zero]
  exact fr_nil _ _ _

set_option maxRecDepth 100000 in
set_option maxHeartbeats 4000000 in
theorem natMul_few (a1 a2 : Option Addr) (n1 n2 c1 c2 : Nat) (xs ys : List Nat) (w : World) (h1 : Sl w a1 n1 c1 xs) (h2 : Sl w a2 n2 c2 ys) (hx : chk xs = 0) (hy : chk ys = 0) (hn : ¬ 16385 < n1 + n2) :
    Calls Tryd.prog 98 #[.agg #[.slice a1 n1 c1], .agg #[.slice a2 n2 c2]] w (Numb w (bigN (val xs * val ys)) (bigE (val xs * val ys))) := by
  obtain ⟨i0, hi0, hz0, hz1, hz2⟩ := info_parts u32_infoL
  have l1 := chk_zero_len hx
  have l2 := chk_zero_len hy
  have e1 := h1.len
  have e2 := h2.len
  go_enter Tryd.func98, Tryd.ntmps98
  go_wp2_with (first
    | (go_at_call 108; refine (checks_new a1 a2 n1 n2 c1 c2 xs ys w _ _ h1 h2 hx hy).mono ?_; rintro e w1 ⟨rfl, hW, A, B, C⟩; have ⟨q0, qz⟩ := A; have ⟨b0, bz⟩ := B; have ⟨r0, rz⟩ := C))
  go_quiet (fail)
  rename_i nq
  have Hb := drewn (Below.refl w1.heap.size w1) nq
  generalize w1.drewN nq = wq at Hb ⊢
  replace hW := next hW Hb
  replace A := A.stay Hb
  replace B := B.stay Hb
  replace C := C.stay Hb
  clear q0 qz b0 bz r0 rz Hb
  go_wp2_with (first
    | (at_make; refine wpList_make_full _ rfl _ _ 22 rfl wq.heap.size 55 i0 _ 1 Tryd.underlying22 hi0 hz0 hz1 _ _ _ _ (n1 + n2) rfl rfl rfl rfl (by rw [hz2]; omega) (by unfold maxLen; omega) (Nat.le_refl _) ?_; intro w2 hown hg1; rw [made_lvs] at hown; have hb1 := (Below.refl wq.heap.size wq).grown hg1 (Nat.le_refl _) (by simp)))
  have hM := mu_zero xs ys
  rw [e1, e2] at hM
  go_loopw [43] (fun i wr => ∃ (k : Nat) (zs : List Nat), k ≤ n1 ∧ i = .int .i64 k ∧ Mu xs ys k 0 zs 0 ∧ wr.ownsRow wq.heap.size 55 1 (.slice (some ⟨wq.heap.size, 0, none⟩) (n1 + n2) (n1 + n2)) (n1 + n2) (lvs zs) ∧ Below wq.heap.size wq wr) (fun i _ => n1 - (intOf i).toNat)
  case atStart => exact ⟨0, _, by omega, rfl, hM, hown, hb1⟩
  case round =>
    obtain ⟨k, zs, hk, rfl, hmu, hownk, hbk⟩ := hrel
    have hWk := next hW hbk
    clear hM hown hb1
    by_cases hkn : k < n1
    · obtain ⟨b, o, rfl, hb, hc⟩ := (h1.below hWk).at_ (by omega)
      have hcell := hc k hkn
      have hx1 := nth_lt h1.ok k
      clear hc
      go_wp2
      go_loopw [12, 63] (fun cv j wx => ∃ (q cc : Nat) (zs : List Nat), q ≤ n2 ∧ j = .int .i64 q ∧ cv = .int .u64 cc ∧ Mu xs ys k q zs cc ∧ wx.ownsRow wq.heap.size 55 1 (.slice (some ⟨wq.heap.size, 0, none⟩) (n1 + n2) (n1 + n2)) (n1 + n2) (lvs zs) ∧ Below wq.heap.size wq wx) (fun _ j _ => n2 - (intOf j).toNat)
      case atStart => exact ⟨0, 0, zs, by omega, rfl, rfl, hmu, hownk, hbk⟩
      case round =>
        obtain ⟨q, cc, zs, hq, rfl, rfl, hmu, hownk, hbk⟩ := hrel
        have hWk := next hW hbk
        have hcc := hmu.lt
        by_cases hqn : q < n2
        · obtain ⟨b2, p2, rfl, hb2, hc2⟩ := (h2.below hWk).at_ (by omega)
          have hcell2 := hc2 q hqn
          have hst := own_cell hownk (j := k + q) (by omega)
          have hfz := hownk.frozenAt (k + q)
          have hd := hmu.next h1.ok h2.ok (by omega) (by omega)
          obtain ⟨o1, r1⟩ := hownk.stored (k + q) (lv (muT xs ys zs k q cc % 4294967296))
          rw [lvs_set] at o1
          have hb2 := hbk.grown r1 hbk.size (by simp)
          obtain ⟨m1, m2, m3, _⟩ := mul_wraps hx1 (nth_lt h2.ok q) (nth_lt hmu.ok (k + q)) hcc
          have m4 := wrap_limb (nth_lt h2.ok q)
          have m5 := wrap_limb (nth_lt hmu.ok (k + q))
          replace m3 := m3.trans (show _ = ((muT xs ys zs k q cc : Nat) : Int) by unfold muT; simp)
          clear hc2
          go_wp2
          exact ⟨⟨q + 1, _, _, by omega, by go_num, rfl, hd, o1, hb2⟩, by simp [intOf]; omega⟩
        · obtain rfl : q = n2 := by omega
          have hd := Mu.row (e2 ▸ hmu) (by omega)
          rw [e2] at hd
          have hst := own_cell hownk (j := k + q) (by omega)
          have hfz := hownk.frozenAt (k + q)
          obtain ⟨o1, r1⟩ := hownk.stored (k + q) (lv cc)
          rw [lvs_set] at o1
          have hb2 := hbk.grown r1 hbk.size (by simp)
          go_wp2
          exact ⟨⟨k + 1, _, by omega, by go_num, hd, o1, hb2⟩, by simp [intOf]; omega⟩
    · obtain rfl : k = n1 := by omega
      have hs := Mu.prod (e1 ▸ hmu) rfl
      have hok := hmu.ok
      have C' := C.stay hbk
      have ⟨r0, rz⟩ := C'
      have hsz := hWk.size
      clear h1 h2
      go_wp2_with (go_at_call 112; refine (natFits_any _ hownk hok).mono ?_; rintro e w3 ⟨ao, kk, c, rfl, hF, hb3⟩; rw [hs] at hF ⊢; have hlt := C.lt; have C'' := C'.stay hb3; have ⟨r3, z3⟩ := C''; have hW3 := next hWk hb3)
      refine bodyPost_ret (v := .tuple #[.agg #[.slice ao kk c], .int .i64 (bigE (val xs * val ys))]) (by simp [results, Tryd.results98, go_sem, C''.set]) rfl ⟨ao, kk, c, rfl, (hF.setCell (by simpa using hlt) _).mono hW.size, hW3.setCell (by simp; omega) _⟩

theorem natMul_any (a1 a2 : Option Addr) (n1 n2 c1 c2 : Nat) (xs ys : List Nat) (w : World) (h1 : Sl w a1 n1 c1 xs) (h2 : Sl w a2 n2 c2 ys) (hx : chk xs = 0) (hy : chk ys = 0) :
    Calls Tryd.prog 98 #[.agg #[.slice a1 n1 c1], .agg #[.slice a2 n2 c2]] w (Numb w (bigN (val xs * val ys)) (bigE (val xs * val ys))) := by
  by_cases hn : 16385 < n1 + n2
  · exact natMul_many a1 a2 n1 n2 c1 c2 xs ys w h1 h2 hx hy hn
  · exact natMul_few a1 a2 n1 n2 c1 c2 xs ys w h1 h2 hx hy hn

end Go.Proofs.YtnokabglkmiidaaDoor
