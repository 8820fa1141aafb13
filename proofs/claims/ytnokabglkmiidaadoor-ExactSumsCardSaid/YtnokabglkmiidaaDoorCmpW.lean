/-
  The walks of nat.cmp and of the reference's cmp.
-/
import Derived.Test.YtnokabglkmiidaaDoorDig
import Derived.Test.YtnokabglkmiidaaDoorMk
namespace Go.Proofs.YtnokabglkmiidaaDoor
open Go.RowKit Go.Lb

set_option maxHeartbeats 2000000 in
theorem natCmpL_any (a1 a2 : Option Addr) (n1 n2 c1 c2 : Nat) (xs ys : List Nat) (w : World) (h1 : Sl w a1 n1 c1 xs) (h2 : Sl w a2 n2 c2 ys) (hx : chk xs = 0) (hy : chk ys = 0) :
    Calls Tryd.prog 109 #[.slice a1 n1 c1, .slice a2 n2 c2] w fun e w' => e = .returned (.int .i64 (cmpN (val xs) (val ys))) ∧ Below w.heap.size w w' := by
  have fx := fine_of_chk h1.ok hx
  have fy := fine_of_chk h2.ok hy
  have lx := h1.len
  have ly := h2.len
  have hle := h1.le
  have hcap := h1.cap
  rcases Nat.lt_trichotomy n1 n2 with hl | hl | hl
  · have H := Lib.hid (cmpN_lt (cmp_len h1.ok fy (by omega)))
    have hli : (n1 : Int) < (n2 : Int) := by omega
    clear h1 h2 hx hy fx fy lx ly
    go_enter Tryd.func109, Tryd.ntmps109
    go_wp2
    go_ret
    exact ⟨by rw [H.out]; rfl, Below.refl _ _⟩
  · subst hl
    go_enter Tryd.func109, Tryd.ntmps109
    go_wp2
    go_loopw [5] (fun i wr => ∃ k m : Nat, k ≤ n1 ∧ i = .int .i64 ((k : Int) - 1) ∧ wr = w.drewN m ∧ Hid (∀ j, k ≤ j → j < n1 → nth xs j = nth ys j)) (fun i _ => (intOf i + 1).toNat)
    case atStart => exact ⟨n1, 0, by omega, rfl, rfl, Lib.hid (fun j h1 h2 => absurd h2 (by omega))⟩
    case round =>
      obtain ⟨k, m, hk, rfl, rfl, HA⟩ := hrel
      by_cases h0 : k = 0
      · subst h0
        have he : xs = ys := ext_nth (by omega) fun j hj => HA.out j (by omega) (by omega)
        have H := Lib.hid (cmpN_eq (congrArg val he))
        clear he
        go_wp2
        go_ret
        exact ⟨by rw [H.out]; rfl, drewn (Below.refl _ _) _⟩
      · obtain ⟨j, rfl⟩ : ∃ j, k = j + 1 := ⟨k - 1, by omega⟩
        obtain ⟨b1, o1, rfl, hb1, hc1⟩ := h1.at_ (by omega)
        obtain ⟨b2, o2, rfl, hb2, hc2⟩ := h2.at_ (by omega)
        have k1 := hc1 j (by omega)
        have k2 := hc2 j (by omega)
        have hj0 : (0 : Int) ≤ (j : Int) := by omega
        have hjn : (j : Int) < (n1 : Int) := by omega
        rcases Nat.lt_trichotomy (nth xs j) (nth ys j) with hq | hq | hq
        · have H := Lib.hid (cmpN_lt (cmp_at h1.ok (by omega) (by omega) (fun i hi hi2 => HA.out i (by omega) (by omega)) hq))
          have d1 : nth xs j < nth ys j := hq
          clear hc1 hc2 h1 h2 fx fy lx ly hq
          go_wp2
          go_quiet (fail)
          go_wp2
          go_ret
          exact ⟨by rw [H.out]; rfl, drewn (drewn (Below.refl _ _) _) _⟩
        · have d1 : ¬ nth xs j < nth ys j := by omega
          have d2 : ¬ nth ys j < nth xs j := by omega
          have HQ := Lib.hid hq
          clear hc1 hc2 hq
          go_wp2
          go_quiet (fail)
          go_wp2
          go_quiet (fail)
          go_wp2
          go_roundw
          case rel => exact ⟨j, _, by omega, by go_num, rfl, Lib.hid (fun i hi hi2 => by
            by_cases e : i = j
            · rw [e]; exact HQ.out
            · exact HA.out i (by omega) hi2)⟩
          case measure => simp [intOf]
        · have H := Lib.hid (cmpN_gt (cmp_at h2.ok (by omega) (by omega) (fun i hi hi2 => (HA.out i (by omega) (by omega)).symm) hq))
          have d1 : ¬ nth xs j < nth ys j := by omega
          have d2 : nth ys j < nth xs j := hq
          clear hc1 hc2 h1 h2 fx fy lx ly hq
          go_wp2
          go_quiet (fail)
          go_wp2
          go_quiet (fail)
          go_wp2
          go_ret
          exact ⟨by rw [H.out]; rfl, drewn (drewn (drewn (Below.refl _ _) _) _) _⟩
  · have H := Lib.hid (cmpN_gt (cmp_len h2.ok fx (by omega)))
    have hli : (n2 : Int) < (n1 : Int) := by omega
    clear h1 h2 hx hy fx fy lx ly
    go_enter Tryd.func109, Tryd.ntmps109
    go_wp2
    go_ret
    exact ⟨by rw [H.out]; rfl, Below.refl _ _⟩

set_option maxHeartbeats 2000000 in
theorem refCmpL_any (a1 a2 : Option Addr) (n1 n2 c1 c2 : Nat) (xs ys : List Nat) (w : World) (h1 : Sl w a1 n1 c1 xs) (h2 : Sl w a2 n2 c2 ys) (hx : chk xs = 0) (hy : chk ys = 0) :
    Calls Tryd.prog 70 #[.slice a1 n1 c1, .slice a2 n2 c2] w fun e w' => e = .returned (.int .i64 (cmpN (val xs) (val ys))) ∧ Below w.heap.size w w' := by
  have fx := fine_of_chk h1.ok hx
  have fy := fine_of_chk h2.ok hy
  have lx := h1.len
  have ly := h2.len
  have hle := h1.le
  have hcap := h1.cap
  rcases Nat.lt_trichotomy n1 n2 with hl | hl | hl
  · have H := Lib.hid (cmpN_lt (cmp_len h1.ok fy (by omega)))
    have hli : (n1 : Int) < (n2 : Int) := by omega
    clear h1 h2 hx hy fx fy lx ly
    go_enter Tryd.func70, Tryd.ntmps70
    go_wp2
    go_ret
    exact ⟨by rw [H.out]; rfl, Below.refl _ _⟩
  · subst hl
    go_enter Tryd.func70, Tryd.ntmps70
    go_wp2
    go_loopw [5] (fun i wr => ∃ k m : Nat, k ≤ n1 ∧ i = .int .i64 ((k : Int) - 1) ∧ wr = w.drewN m ∧ Hid (∀ j, k ≤ j → j < n1 → nth xs j = nth ys j)) (fun i _ => (intOf i + 1).toNat)
    case atStart => exact ⟨n1, 0, by omega, rfl, rfl, Lib.hid (fun j h1 h2 => absurd h2 (by omega))⟩
    case round =>
      obtain ⟨k, m, hk, rfl, rfl, HA⟩ := hrel
      by_cases h0 : k = 0
      · subst h0
        have he : xs = ys := ext_nth (by omega) fun j hj => HA.out j (by omega) (by omega)
        have H := Lib.hid (cmpN_eq (congrArg val he))
        clear he
        go_wp2
        go_ret
        exact ⟨by rw [H.out]; rfl, drewn (Below.refl _ _) _⟩
      · obtain ⟨j, rfl⟩ : ∃ j, k = j + 1 := ⟨k - 1, by omega⟩
        obtain ⟨b1, o1, rfl, hb1, hc1⟩ := h1.at_ (by omega)
        obtain ⟨b2, o2, rfl, hb2, hc2⟩ := h2.at_ (by omega)
        have k1 := hc1 j (by omega)
        have k2 := hc2 j (by omega)
        have hj0 : (0 : Int) ≤ (j : Int) := by omega
        have hjn : (j : Int) < (n1 : Int) := by omega
        rcases Nat.lt_trichotomy (nth xs j) (nth ys j) with hq | hq | hq
        · have H := Lib.hid (cmpN_lt (cmp_at h1.ok (by omega) (by omega) (fun i hi hi2 => HA.out i (by omega) (by omega)) hq))
          have d1 : nth xs j < nth ys j := hq
          clear hc1 hc2 h1 h2 fx fy lx ly hq
          go_wp2
          go_quiet (fail)
          go_wp2
          go_ret
          exact ⟨by rw [H.out]; rfl, drewn (drewn (Below.refl _ _) _) _⟩
        · have d1 : ¬ nth xs j < nth ys j := by omega
          have d2 : ¬ nth ys j < nth xs j := by omega
          have HQ := Lib.hid hq
          clear hc1 hc2 hq
          go_wp2
          go_quiet (fail)
          go_wp2
          go_quiet (fail)
          go_wp2
          go_roundw
          case rel => exact ⟨j, _, by omega, by go_num, rfl, Lib.hid (fun i hi hi2 => by
            by_cases e : i = j
            · rw [e]; exact HQ.out
            · exact HA.out i (by omega) hi2)⟩
          case measure => simp [intOf]
        · have H := Lib.hid (cmpN_gt (cmp_at h2.ok (by omega) (by omega) (fun i hi hi2 => (HA.out i (by omega) (by omega)).symm) hq))
          have d1 : ¬ nth xs j < nth ys j := by omega
          have d2 : nth ys j < nth xs j := hq
          clear hc1 hc2 h1 h2 fx fy lx ly hq
          go_wp2
          go_quiet (fail)
          go_wp2
          go_quiet (fail)
          go_wp2
          go_ret
          exact ⟨by rw [H.out]; rfl, drewn (drewn (drewn (Below.refl _ _) _) _) _⟩
  · have H := Lib.hid (cmpN_gt (cmp_len h2.ok fx (by omega)))
    have hli : (n2 : Int) < (n1 : Int) := by omega
    clear h1 h2 hx hy fx fy lx ly
    go_enter Tryd.func70, Tryd.ntmps70
    go_wp2
    go_ret
    exact ⟨by rw [H.out]; rfl, Below.refl _ _⟩

end Go.Proofs.YtnokabglkmiidaaDoor
