/-
  The walk of the book's stands: all answers are what they must be, and none touches another when they are written full and grown.
-/
import Derived.Test.YtnokabglkmiidaaDoorDya
import Derived.Test.YtnokabglkmiidaaDoorStandW
import Derived.Test.YtnokabglkmiidaaDoorLower
import Derived.Test.YtnokabglkmiidaaDoorApp2
import Derived.Deep.RegionHeld3
import Derived.Deep.LoopGhost
namespace Go.Proofs.YtnokabglkmiidaaDoor
open Go.RowKit Go.Lb

theorem u32s_info : (Tryd.prog.info? 22).map (fun i => (i.zero, i.size, i.bytes)) = some (some (.slice none 0 0), 1, 24) := by kernel_rfl

/-- What the book holds, and what was lent. -/
structure Held (F : Fam) (w : World) (B pb k1 m gg pg gw pw lc : Nat) (lo : Option Addr) (wo : Nat → Option Addr) (wc : Nat → Nat) (ys : Nat → List Nat) : Prop where
  k : F.k = k1 + m
  k0 : 0 < k1
  kb : F.k ≤ 1000
  c0 : w.cell? ⟨pb, 0, none⟩ = some (.slice (some ⟨gg, 0, none⟩) k1 pg)
  c1 : w.cell? ⟨pb, 1, none⟩ = some (.slice (some ⟨gw, 0, none⟩) k1 pw)
  c2 : w.cell? ⟨pb, 2, none⟩ = some (.bool false)
  og : w.ownsRow B 24 1 (.slice (some ⟨gg, 0, none⟩) k1 pg) k1 ((List.range k1).map fun t => .slice (F.ao t) (F.nn t) (F.cc t))
  ow : ∀ t, t < k1 → w.cell? ⟨gw, t, none⟩ = some (.slice (wo t) (F.nn t) (wc t))
  got : ∀ t, t < k1 → Sl w (F.ao t) (F.nn t) (F.cc t) (ys t)
  want : ∀ t, t < k1 → Sl w (wo t) (F.nn t) (wc t) (ys t)
  kw : k1 ≤ pw
  room : ∀ t, t < F.k → Room 55 w (F.ao t) (F.nn t) (F.cc t)
  lent : m = 0 ∧ lo = none ∧ lc = 0 ∨ ∃ bl, lo = some ⟨bl, 0, none⟩ ∧ ∀ j, j < m → w.cell? ⟨bl, j, none⟩ = some (.slice (F.ao (k1 + j)) (F.nn (k1 + j)) (F.cc (k1 + j)))
  apart : F.Apart B gg
  small : ∀ t, t < F.k → F.nn t + 41 ≤ 35184372088832
  base : B ≤ w.heap.size

theorem Held.gotCell {F : Fam} {w : World} {B pb k1 m gg pg gw pw lc : Nat} {lo : Option Addr} {wo : Nat → Option Addr} {wc : Nat → Nat} {ys : Nat → List Nat} (h : Held F w B pb k1 m gg pg gw pw lc lo wo wc ys) {t : Nat} (ht : t < k1) :
    w.cell? ⟨gg, t, none⟩ = some (.slice (F.ao t) (F.nn t) (F.cc t)) := by
  rw [h.og.cellAt t (by omega), List.getElem?_map, List.getElem?_range ht]
  rfl

/-- Behind the append of what was lent: all stand in one list, ready to be written. -/
theorem Held.ready {F : Fam} {w wr w2 : World} {B pb k1 m gg pg gw pw lc : Nat} {lo : Option Addr} {wo : Nat → Option Addr} {wc : Nat → Nat} {ys : Nat → List Nat} (h : Held F w B pb k1 m gg pg gw pw lc lo wo wc ys)
    (hW : Below w.heap.size w wr) {ga ca : Nat} (hown : w2.ownsRow B 24 1 (.slice (some ⟨ga, 0, none⟩) (k1 + m) ca) (k1 + m) ((List.range k1).map (fun t => .slice (F.ao t) (F.nn t) (F.cc t)) ++ (List.range m).map (fun j => .slice (F.ao (k1 + j)) (F.nn (k1 + j)) (F.cc (k1 + j)))))
    (hg : wr.grownBy w2 (some gg)) (hat : ga = gg ∨ ga = wr.heap.size) : F.Apart B ga ∧ Wr F 55 B ga w w2 0 0 ∧ B ≤ ga ∧ ga < w2.heap.size := by
  have hk := h.k
  have hbb := h.base
  have hsz := hW.size
  have hlt : ∀ t, t < F.k → ∀ g, blkOf (F.ao t) = some g → g < w.heap.size := fun t ht g hg => by
    rcases (h.room t ht).blk with ⟨h1, _⟩ | ⟨g', cur, h1, h2, _⟩
    · rw [h1] at hg; cases hg
    · rw [h1] at hg; cases hg; exact (Array.getElem?_eq_some_iff.1 h2).1
  have hgg := h.og.lt gg rfl
  have hga := hown.lt ga rfl
  refine ⟨⟨h.apart.items, fun t ht e => ?_, h.apart.base⟩, Wr.start ?_ (fun t ht => ?_) (fun t ht => ?_), hga.1, hga.2⟩
  · rcases hat with rfl | rfl
    · exact h.apart.all t ht e
    · have := hlt t ht _ e; omega
  · exact (hW.mono hbb).grown hg (by omega) (fun k hk => by cases hk; exact hgg.1)
  · rw [hown.cellAt t (by omega)]
    by_cases h1 : t < k1
    · rw [List.getElem?_append_left (by simpa using h1), List.getElem?_map, List.getElem?_range h1]
      rfl
    · rw [List.getElem?_append_right (by simp; omega), List.length_map, List.length_range, List.getElem?_map, List.getElem?_range (by omega), Option.map_some]
      rw [show k1 + (t - k1) = t by omega]
  · refine ((h.room t ht).other fun g hg' hl => hW.block g hl).grown hg fun g hg' e => ?_
    cases e
    exact h.apart.all t ht hg'

set_option maxRecDepth 100000 in
set_option maxHeartbeats 3200000 in
theorem stands_any (F : Fam) (B pb k1 m gg pg gw pw lc : Nat) (lo : Option Addr) (wo : Nat → Option Addr) (wc : Nat → Nat) (ys : Nat → List Nat) (w : World) (hH : Held F w B pb k1 m gg pg gw pw lc lo wo wc ys) :
    Calls Tryd.prog 12 #[.pointer (some ⟨pb, 0, none⟩), .slice lo m lc] w fun e w' => e = .returned (.bool true) ∧ Below B w w' := by
  obtain ⟨i0, hi0, hz0, hz1, hz2⟩ := info_parts nat_info
  obtain ⟨j0, hj0, hy0, hy1, hy2⟩ := info_parts u32_infoL
  obtain ⟨l0, hl0, hx0, hx1, hx2⟩ := info_parts u32s_info
  have c0 := hH.c0
  have c1 := hH.c1
  have c2 := hH.c2
  have hkg := (own_cap hH.og).1
  have hkw := hH.kw
  have hk1 : k1 ≤ 1000 := by have := hH.k; have := hH.kb; omega
  have hkg2 := (own_cap hH.og).2
  go_enter Tryd.func12, Tryd.ntmps12
  go_wp2
  clear c2
  go_loopw [5] (fun i wr => ∃ t : Nat, t ≤ k1 ∧ i = .int .i64 t ∧ Below w.heap.size w wr) (fun i _ => k1 - (intOf i).toNat)
  case atStart => exact ⟨0, by omega, rfl, Below.refl _ _⟩
  case round =>
    obtain ⟨t, ht, rfl, hW⟩ := hrel
    replace c0 := cellStay c0 hW
    replace c1 := cellStay c1 hW
    by_cases htk : t < k1
    · have d0 := cellStay (hH.gotCell htk) hW
      have d1 := cellStay (hH.ow t htk) hW
      have s0 := (hH.got t htk).below hW
      have s1 := (hH.want t htk).below hW
      have t0 : (t : Int) < (k1 : Int) := by omega
      have t1 : (0 : Int) ≤ (t : Int) := by omega
      go_wp2_with fail
      go_region_held3 (fun w' => w'.cell? ⟨pb, 0, none⟩ = some (.slice (some ⟨gg, 0, none⟩) k1 pg) ∧ w'.cell? ⟨pb, 1, none⟩ = some (.slice (some ⟨gw, 0, none⟩) k1 pw) ∧ w'.cell? ⟨gg, t, none⟩ = some (.slice (F.ao t) (F.nn t) (F.cc t)) ∧ w'.cell? ⟨gw, t, none⟩ = some (.slice (wo t) (F.nn t) (wc t)) ∧ Below w.heap.size w w' ∧ Sl w' (F.ao t) (F.nn t) (F.cc t) (ys t) ∧ Sl w' (wo t) (F.nn t) (wc t) (ys t))
        ((go_split_ands; refine ⟨?_, ?_, ?_, ?_, ?_, ?_, ?_⟩ <;> (first | assumption | exact Below.drew (by assumption) | exact Sl.drew (by assumption) | exact cellStay (by assumption) hbB | exact next (by assumption) hbB | exact Sl.below (by assumption) hbB | (go_keep; done))))
        (first | (go_at_call 42; (with_reducible refine (refSame_eq (F.ao t) (wo t) (F.nn t) (F.cc t) (wc t) (ys t) _ ?_ ?_).mono ?_); (go_split_ands; assumption); (go_split_ands; assumption); rintro en wB ⟨rfl, hbB⟩))
      go_split_ands
      go_wp2
      exact ⟨⟨t + 1, by omega, by go_num, by assumption⟩, by simp [intOf]; omega⟩
    · obtain rfl : k1 = t := by omega
      have hk0 := hH.k0
      have hbase := hH.base
      have hszW := hW.size
      have hogr := own_keep hH.og hW
      have hlent : m = 0 ∧ lo = none ∧ lc = 0 ∨ ∃ bl, lo = some ⟨bl, 0, none⟩ ∧ ∀ j, j < m → wr.cell? ⟨bl, j, none⟩ = some (.slice (F.ao (k1 + j)) (F.nn (k1 + j)) (F.cc (k1 + j))) :=
        hH.lent.imp id fun ⟨bl, h1, h2⟩ => ⟨bl, h1, fun j hj => cellStay (h2 j hj) hW⟩
      have hkm : k1 + m ≤ 1000 := by have := hH.k; have := hH.kb; omega
      have Hl := Lib.hid hlent
      clear hlent
      go_wp2_with (at_builtin; refine wpList_append_vals _ rfl (.tmp 49) (.tmp 50) _ rfl B 24 i0 _ 24 Tryd.underlying32 hi0 hz0 hz1 hz2 rfl (.slice (some ⟨gg, 0, none⟩) k1 pg) k1 _ rfl hogr lo m lc (fun j => .slice (F.ao (k1 + j)) (F.nn (k1 + j)) (F.cc (k1 + j))) (fun _ => rfl) rfl Hl.out (by unfold maxLen; omega) (by omega) (by omega) ?_; intro v2 w2 hown2 hg2 hat2; obtain ⟨ga, ca, rfl, hgb, hgl⟩ := hown2.form (by omega); obtain ⟨hAp, hWr, hBga, hgaL⟩ := hH.ready hW hown2 hg2 (by rcases hat2 with h | h <;> simp [Value.ownBlock] at h <;> omega); obtain ⟨hcp, hcp2⟩ := own_cap hown2)
      have hk : F.k = k1 + m := hH.k
      have hsm := hH.small
      have Hsm := Lib.hid hsm
      clear c0 c1 hogr hszW hg2 hat2 hgb hsm
      go_loopw [7] (fun i wr => ∃ t : Nat, t ≤ F.k ∧ i = .int .i64 t ∧ Wr F 55 B ga w wr t 0) (fun i _ => F.k - (intOf i).toNat)
      case atStart => exact ⟨0, by omega, rfl, hWr⟩
      case round =>
        obtain ⟨t, ht, rfl, hR⟩ := hrel
        clear hWr hgaL hown2
        by_cases htk : t < F.k
        · have hrow := hR.row t htk
          have t0 : (t : Int) < (k1 : Int) + (m : Int) := by omega
          have t1 : (0 : Int) ≤ (t : Int) := by omega
          go_wp2
          go_loopw [8] (fun i wx => ∃ q : Nat, q ≤ F.nn t ∧ i = .int .i64 q ∧ Wr F 55 B ga w wx t q) (fun i _ => F.nn t - (intOf i).toNat)
          case atStart => exact ⟨0, by omega, rfl, hR⟩
          case round =>
            obtain ⟨q, hq, rfl, hQ⟩ := hrel
            have hrow := hQ.row t htk
            have hsmt := Hsm.out t htk
            by_cases hqn : q < F.nn t
            · obtain ⟨g, hg, hgl⟩ := (hQ.room t htk).at_ (by omega)
              have rm := hQ.room t htk
              rw [hg] at rm hrow
              obtain ⟨u, hu⟩ := rm.cell hqn
              have hz := rm.frozen q
              have q0 : (0 : Int) ≤ (q : Int) := by omega
              have q1 : (q : Int) < (F.nn t : Int) := by omega
              have hst := hQ.step hAp htk hqn hg
              have em : ((Lb.mark t q : Nat) : Int) = 1000 * (t : Int) + (q : Int) % 1000 := by unfold Lb.mark; omega
              rw [em] at hst
              have Hst := Lib.hid hst
              clear rm hst em
              go_wp2
              exact ⟨⟨q + 1, by omega, by go_num, Hst.out⟩, by simp [intOf]; omega⟩
            · obtain rfl : q = F.nn t := by omega
              go_wp2
              exact ⟨⟨t + 1, by omega, by go_num, hQ.next⟩, by simp [intOf]; omega⟩
        · obtain rfl : t = F.k := by omega
          obtain ⟨H, hHd⟩ : ∃ H, H = wr.heap.size := ⟨_, rfl⟩
          have hGr := Gr.start (eS := 22) hR
          rw [← hHd] at hGr
          have hgaH : ga < H := by rw [hHd]; exact World.block_lt_of_cell? _ _ (hR.row 0 (by omega))
          have hlow : ∀ t, t < F.k → ∀ b, blkOf (F.ao t) = some b → b < H := fun t ht b hb => by
            rcases (hR.room t ht).blk with ⟨h1, _⟩ | ⟨g', cur, h1, h2, _⟩
            · rw [h1] at hb; cases hb
            · rw [h1] at hb; cases hb; rw [hHd]; exact (Array.getElem?_eq_some_iff.1 h2).1
          have hBH : B ≤ H := by omega
          have Hlow := Lib.hid hlow
          clear hlow hR hHd
          go_wp2
          go_loopw [9, 10] (fun vg' i wr => ∃ (t : Nat) (a' c' : Nat → Nat), t ≤ F.k ∧ i = .int .i64 t ∧ Gr F 55 22 B H ga w wr t a' c' vg') (fun _ i _ => F.k - (intOf i).toNat)
          case atStart => exact ⟨0, _, _, by omega, rfl, hGr⟩
          case round =>
            obtain ⟨t, a', c', ht, rfl, hG⟩ := hrel
            clear hGr
            by_cases htk : t < F.k
            · have hrow := hG.row t htk
              have t0 : (t : Int) < (k1 : Int) + (m : Int) := by omega
              have t1 : (0 : Int) ≤ (t : Int) := by omega
              have hGi := Gi.start hG htk
              have hsmt := Hsm.out t htk
              clear hG
              go_wp2
              go_loopw [11, 12] (fun l i wr => ∃ (q : Nat) (al : Option Addr) (cl : Nat), q ≤ 40 ∧ i = .int .i64 q ∧ l = .slice al (F.nn t + q) cl ∧ Gi F 55 22 B H ga w wr t a' c' u9 q al cl) (fun _ i _ => 40 - (intOf i).toNat)
              case atStart => exact ⟨0, _, _, by omega, rfl, rfl, hGi⟩
              case round =>
                obtain ⟨q, al, cl, hq, rfl, rfl, hI⟩ := hrel
                clear hGi hrow
                by_cases hq40 : q < 40
                · have hI' := hI.lroom.other (w' := wr.alloc (.cells #[.int .u32 (900000 + 1000 * (t : Int) + (q : Int))] 55)) fun g _ hl => Below.heap_alloc _ _ _ hl
                  have hcap := hI.lroom.cap
                  have em : ((tailM t q : Nat) : Int) = 900000 + 1000 * (t : Int) + (q : Int) := by unfold tailM; omega
                  have Em := Lib.hid em
                  clear em
                  go_wp2_with (at_builtin; refine wpList_append_one _ rfl (.tmp 96) (.tmp 103) _ rfl 55 j0 _ Tryd.underlying22 hj0 hy0 hy1 hy2 rfl al (F.nn t + q) cl rfl hI' wr.heap.size 0 1 (.int .u32 (900000 + 1000 * (t : Int) + (q : Int))) rfl (by simp) rfl (by omega) ?_; intro g2 c2 w2 hr2 hor2 hold2 hnew2 hgl2)
                  have hnx := Gi.step hI hAp htk hgaH Hlow.out hBH (World.grownBy_alloc _ _ none) hr2 hor2 hold2 (by rw [Em.out]; exact hnew2)
                  exact ⟨⟨q + 1, _, _, by omega, by go_num, rfl, hnx⟩, by simp [intOf]; omega⟩
                · obtain rfl : q = 40 := by omega
                  obtain ⟨g, hal, _⟩ := hI.ltail 0 (by omega)
                  subst hal
                  have hogr := hI.own.alloc (.cells #[.slice (some ⟨g, 0, none⟩) (F.nn t + 40) cl] 22)
                  have hHw := hI.hsz
                  go_wp2_with (at_builtin; refine wpList_append_vals _ rfl (.tmp 105) (.tmp 107) _ rfl H 22 l0 _ 24 Tryd.underlying63 hl0 hx0 hx1 hx2 rfl u9 t _ rfl hogr (some ⟨wr.heap.size, 0, none⟩) 1 1 (fun _ => .slice (some ⟨g, 0, none⟩) (F.nn t + 40) cl) (fun _ => rfl) rfl (.inr ⟨wr.heap.size, rfl, fun j hj => by (obtain rfl : j = 0 := by omega); simp⟩) (by unfold maxLen; omega) (by omega) (by simp; omega) ?_; intro v2 w2 hown2 hg2 hat2)
                  have hnx := Gr.step hI hAp htk hgaH Hlow.out hBH (World.grownBy_alloc _ _ none) hg2 hown2 hat2
                  exact ⟨⟨t + 1, _, _, by omega, by go_num, hnx⟩, by simp [intOf]; omega⟩
            · obtain rfl : t = F.k := by omega
              obtain ⟨gv, cv, rfl, _, hgvl⟩ := hG.own.form (by omega)
              have hcv := (own_cap hG.own).1
              have hcv2 := (own_cap hG.own).2
              obtain ⟨wG, hwG⟩ : ∃ wG : World, wG = wr := ⟨_, rfl⟩
              rw [← hwG] at hG
              have HG := Lib.hid hG
              clear hAp Hlow hgvl
              have hFk : 0 < F.k := by omega
              go_wp2
              go_loopw [13] (fun i wx => ∃ t d : Nat, t ≤ F.k ∧ i = .int .i64 t ∧ wx = wG.drewN d) (fun i _ => F.k - (intOf i).toNat)
              case atStart => exact ⟨0, 0, by omega, rfl, by rw [hwG]; rfl⟩
              case round =>
                obtain ⟨t, d, ht, rfl, rfl⟩ := hrel
                clear hwG hG
                by_cases htk : t < F.k
                · have hrow := HG.out.row t htk
                  have t0 : (t : Int) < (k1 : Int) + (m : Int) := by omega
                  have t1 : (0 : Int) ≤ (t : Int) := by omega
                  have hsmt := Hsm.out t htk
                  go_wp2
                  go_loopw [15] (fun i wx => ∃ q d : Nat, q ≤ F.nn t ∧ i = .int .i64 q ∧ wx = wG.drewN d) (fun i _ => F.nn t - (intOf i).toNat)
                  case atStart => exact ⟨0, d, by omega, rfl, rfl⟩
                  case round =>
                    obtain ⟨q, d, hq, rfl, rfl⟩ := hrel
                    by_cases hqn : q < F.nn t
                    · obtain ⟨g1, hg1, hc1⟩ := HG.out.marks t htk q hqn
                      obtain ⟨g2, hg2, hc2⟩ := (HG.out.got t htk).1 q hqn
                      cases hg2
                      have hgr : wG.cell? ⟨gv, t, none⟩ = some (.slice (some ⟨a' t, 0, none⟩) (F.nn t + 40) (c' t)) := by
                        rw [HG.out.own.cellAt t (by omega)]
                        unfold grownL
                        rw [List.getElem?_map, List.getElem?_range htk]
                        rfl
                      have em : ((Lb.mark t q : Nat) : Int) = 1000 * (t : Int) + (q : Int) % 1000 := by unfold Lb.mark; omega
                      rw [em, Nat.zero_add] at hc1 hc2
                      rw [hg1] at hrow
                      have q0 : (0 : Int) ≤ (q : Int) := by omega
                      have q1 : (q : Int) < (F.nn t : Int) := by omega
                      have q2 : (q : Int) < (F.nn t : Int) + 40 := by omega
                      have t2 : (t : Int) < (F.k : Int) := by omega
                      have v1 : IntKind.i64.wrap (1000 * (t : Int)) = 1000 * (t : Int) := IntWalk.i64_in _ (by omega)
                      have v2 : IntKind.i64.wrap (1000 * (t : Int) + (q : Int) % 1000) = 1000 * (t : Int) + (q : Int) % 1000 := IntWalk.i64_in _ (by omega)
                      have v3 : IntKind.u32.wrap (1000 * (t : Int) + (q : Int) % 1000) = 1000 * (t : Int) + (q : Int) % 1000 := by simp [IntKind.wrap, IntKind.signed, IntKind.bits]; omega
                      have v4 : (1000 * (t : Int) + (q : Int) % 1000) % 4294967296 = 1000 * (t : Int) + (q : Int) % 1000 := by omega
                      clear em
                      go_wp2
                      go_quiet (fail)
                      go_wp2
                      exact ⟨⟨q + 1, _, by omega, by go_num, rfl⟩, by simp [intOf]; omega⟩
                    · obtain rfl : q = F.nn t := by omega
                      go_wp2
                      go_loopw [16] (fun i wx => ∃ q d : Nat, q ≤ 40 ∧ i = .int .i64 q ∧ wx = wG.drewN d) (fun i _ => 40 - (intOf i).toNat)
                      case atStart => exact ⟨0, d, by omega, rfl, rfl⟩
                      case round =>
                        obtain ⟨q, d, hq, rfl, rfl⟩ := hrel
                        by_cases hqn : q < 40
                        · obtain ⟨g2, hg2, hc2⟩ := (HG.out.got t htk).2 q hqn
                          cases hg2
                          have hgr : wG.cell? ⟨gv, t, none⟩ = some (.slice (some ⟨a' t, 0, none⟩) (F.nn t + 40) (c' t)) := by
                            rw [HG.out.own.cellAt t (by omega)]
                            unfold grownL
                            rw [List.getElem?_map, List.getElem?_range htk]
                            rfl
                          have em : ((tailM t q : Nat) : Int) = 900000 + 1000 * (t : Int) + (q : Int) := by unfold tailM; omega
                          rw [em] at hc2
                          have q0 : (0 : Int) ≤ (q : Int) := by omega
                          have q2 : (F.nn t : Int) + (q : Int) < (F.nn t : Int) + 40 := by omega
                          have t2 : (t : Int) < (F.k : Int) := by omega
                          clear em
                          go_wp2
                          exact ⟨⟨q + 1, d, by omega, by go_num, rfl⟩, by simp [intOf]; omega⟩
                        · go_wp2
                          exact ⟨⟨t + 1, d, by omega, by go_num, rfl⟩, by simp [intOf]; omega⟩
                · obtain rfl : t = F.k := by omega
                  go_wp2
                  go_ret
                  exact ⟨rfl, below_drewN HG.out.bel _⟩

end Go.Proofs.YtnokabglkmiidaaDoor
