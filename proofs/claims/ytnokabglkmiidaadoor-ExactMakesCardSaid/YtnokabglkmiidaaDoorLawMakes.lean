/-
  The walk of the law ExactMakes: it answers true, whatever it is asked; nothing that was there has turned.
-/
import Derived.Test.YtnokabglkmiidaaDoorBook
import Derived.Test.YtnokabglkmiidaaDoorLent
import Derived.Test.YtnokabglkmiidaaDoorMake
import Derived.Test.YtnokabglkmiidaaDoorRefMake
namespace Go.Proofs.YtnokabglkmiidaaDoor
open Go.RowKit Go.Lb

/-- What was lent, as a slice that begins a block of its own. -/
theorem room_lent {w : World} {base g n cap k : Nat} {xs : List Value} (h : w.ownsRow base 55 1 (.slice (some ⟨g, 0, none⟩) (n + k) cap) (n + k) xs) : Room 55 w (some ⟨g, 0, none⟩) n cap := by
  rcases h.2 with ⟨h', _⟩ | ⟨g', cap', cur, h', _, hh, h1, h2, hs, _⟩
  · cases h'
  · cases h'
    unfold maxLen at h2
    exact ⟨by omega, by omega, .inr ⟨g, cur, rfl, hh, by omega⟩⟩

set_option maxRecDepth 100000 in
set_option maxHeartbeats 4000000 in
theorem makes_any (neg : Bool) (ao : Option Addr) (n c : Nat) (x : Int) (xs : List Nat) (w : World) (h : Sl w ao n c xs) (hT : Tab w) (hn : n + 43 ≤ 35184372088832) :
    Calls Tryd.prog 3 #[.bool neg, .agg #[.slice ao n c], .int .i64 x] w fun en w' => en = .returned (.bool true) ∧ Below w.heap.size w w' := by
  have hn3 : n + 3 ≤ 35184372088832 := by omega
  have hsmN : (limbs (mkN xs x)).length ≤ n := by
    have hl := h.len
    refine limbs_length_le ?_
    have hv := val_lt h.ok
    rw [hl] at hv
    refine Nat.lt_of_le_of_lt ?_ hv
    unfold mkN
    split
    · exact Nat.div_le_self _ _
    · exact Nat.zero_le _
  go_enter Tryd.func3, Tryd.ntmps3
  go_wp2_with (first
    | (go_at_call 7; refine (rfMake_any neg ao n c xs x _ (h.alloc _)).mono ?_; rintro e w1 ⟨aw, nw, cw, rfl, hFw, hb1⟩; have hW1 := next (more (Below.refl _ _) _) hb1; have a1 := (box1_new w (.slice ao n c) 24).stay hb1; have ⟨a1c, a1z⟩ := a1; have a1l := a1.lt)
    | (go_at_call 8; refine (lent_any ao n c xs _ ((h.below hW1).alloc _) hn3).mono ?_; rintro e w2 ⟨gm, cm, rfl, hown, hb2⟩; have hW2 := next (more hW1 _) hb2; have a2 := (a1.alloc _).stay hb2; have q2 := (box3_new w1 (.bool (mkS neg xs x)) (.slice aw nw cw) (.int .i64 (mkX xs x)) 26).stay hb2; have hFw2 := (hFw.alloc _).below hb2))
  have hWV := more hW2 (.cells #[.slice (some ⟨gm, 0, none⟩) n cm] 24)
  have aV := a2.alloc (.cells #[.slice (some ⟨gm, 0, none⟩) n cm] 24)
  have qV := q2.alloc (.cells #[.slice (some ⟨gm, 0, none⟩) n cm] 24)
  have mV := box1_new w2 (.slice (some ⟨gm, 0, none⟩) n cm) 24
  have oV := hown.alloc (.cells #[.slice (some ⟨gm, 0, none⟩) n cm] 24)
  have fV := hFw2.alloc (.cells #[.slice (some ⟨gm, 0, none⟩) n cm] 24)
  have eV : (w2.alloc (.cells #[.slice (some ⟨gm, 0, none⟩) n cm] 24)).heap.size = w2.heap.size + 1 := World.size_alloc _ _
  generalize w2.alloc (.cells #[.slice (some ⟨gm, 0, none⟩) n cm] 24) = V at hWV aV qV mV oV fV eV ⊢
  obtain ⟨pm, hpm⟩ : ∃ pm, pm = w2.heap.size := ⟨_, rfl⟩
  rw [← hpm] at eV mV
  rw [← hpm]
  rw [← eV]
  clear hpm hFw2 a2 q2 hown hb2 hW2 hFw hb1 a1c a1z
  have bk0 := book_new V 34 hWV.size
  have hgm := oV.lt gm rfl
  have sm0 := sl_own oV h.len h.ok
  refine (exMake_any neg (some ⟨gm, 0, none⟩) n cm xs x _ (sm0.alloc _) ((hT.below hWV).alloc _)).mono ?_
  rintro e w3 ⟨ad, nd, cd, rfl, hFd, hb3⟩
  have hV3 := next (more (Below.refl _ V) _) hb3
  have bk1 := bk0.below hb3
  have ⟨a3, a3z⟩ := aV.stay hV3
  have ⟨q30, q31, q32, _, _, _⟩ := qV.stay hV3
  have ⟨m3, m3z⟩ := mV.stay hV3
  have l1 := (aV.stay hV3).lt
  have l2 := (qV.stay hV3).lt
  have l3 := (mV.stay hV3).lt
  obtain rfl : nd = nw := by rw [← hFd.sl.len, ← fV.sl.len]
  go_wp2_with fail
  have hmk : (limbs (mkN xs x)).length + 41 ≤ 35184372088832 := by omega
  rw [hFd.sl.len] at hmk
  rw [eV] at bk1 bk0
  have fV0 : Fr 55 V 0 aw nd cw (limbs (mkN xs x)) := fV.mono (Nat.zero_le _)
  have bkd := bk1.below ((Below.refl _ _).alloc (Nat.le_refl _) (.cells #[.bool (mkS neg xs x), .slice ad nd cd, .int .i64 (mkX xs x)] 26))
  refine (book_dyadic _ w.heap.size (pm + 1) [] _ _ bkd (mkS neg xs x) (mkX xs x) (mkE xs x) ad aw nd cd cw (limbs (mkN xs x)) ((hFd.alloc _).mono ?_) ((fV0.below hV3).alloc _) (fun g hg => bk0.clear (fr_lt hFd hg).1) (fun g hg => bk0.clear_low (by have := (fr_lt fV hg).2; omega)) (fun y hy => by cases hy) hmk (by simp)).mono ?_
  · simp; have := hWV.size; omega
  rintro e w4 ⟨rfl, ⟨vg1, vw1, bk2⟩, hB4⟩
  have hV4 : Below V.heap.size V w4 := (more hV3 _).trans (by rw [eV]; exact hB4)
  clear bkd
  have ⟨a4, a4z⟩ := aV.stay hV4
  have ⟨q40, q41, q42, _, _, _⟩ := qV.stay hV4
  have ⟨m4, m4z⟩ := mV.stay hV4
  go_wp2_with fail
  refine (exMake_any neg (some ⟨gm, 0, none⟩) n cm xs x _ (sm0.below hV4) ((hT.below hWV).below hV4)).mono ?_
  rintro e w5 ⟨ac, nc, cc, rfl, hFc, hb5⟩
  have hV5 := next hV4 hb5
  have bk3 := bk2.below hb5
  have ⟨a5, a5z⟩ := aV.stay hV5
  have ⟨q50, q51, q52, _, _, _⟩ := qV.stay hV5
  have ⟨m5, m5z⟩ := mV.stay hV5
  have l51 := (aV.stay hV5).lt
  have l52 := (qV.stay hV5).lt
  have l53 := (mV.stay hV5).lt
  obtain rfl : nc = nd := by rw [← hFc.sl.len, ← fV.sl.len]
  go_wp2_with fail
  have bke := bk3.below ((Below.refl _ _).alloc (Nat.le_refl _) (.cells #[.bool (mkS neg xs x), .slice ac nc cc, .int .i64 (mkX xs x)] 26))
  refine (book_dyadic _ w.heap.size (pm + 1) _ _ _ bke (mkS neg xs x) (mkX xs x) (mkE xs x) ac aw nc cc cw (limbs (mkN xs x)) ((hFc.alloc _).mono ?_) ((fV0.below hV5).alloc _) (fun g hg => bk2.clear (fr_lt hFc hg).1) (fun g hg => bk2.clear_low (by have := (fr_lt fV hg).2; omega)) (fun y hy g hg e => ?_) hmk (by simp)).mono ?_
  · have := hV4.size; have := hWV.size; omega
  · have h1 := (fr_lt (bk2.got y hy) hg).2
    have h2 := (fr_lt hFc e).1
    omega
  rintro e w6 ⟨rfl, ⟨vg2, vw2, bk4⟩, hB6⟩
  have hV6 : Below V.heap.size V w6 := (more hV5 _).trans (by rw [eV]; exact hB6)
  clear bke
  have ⟨a6, a6z⟩ := aV.stay hV6
  have ⟨q60, q61, q62, _, _, _⟩ := qV.stay hV6
  have ⟨m6, m6z⟩ := mV.stay hV6
  go_wp2_with fail
  refine (kept_any gm cm ao n c _ xs _ ((h.below hWV).below hV6) (own_keep oV hV6) (by have := hV6.size; omega) (by omega)).mono ?_
  rintro e w7 ⟨rfl, hb7⟩
  have hV7 := next hV6 hb7
  have bk5 := bk4.below hb7
  have ⟨a7, a7z⟩ := aV.stay hV7
  have ⟨q70, q71, q72, _, _, _⟩ := qV.stay hV7
  have ⟨m7, m7z⟩ := mV.stay hV7
  have l73 := (mV.stay hV7).lt
  go_wp2_with fail
  have hgm2 := hgm.2
  have hgd : ∀ g, blkOf ad = some g → gm ≠ g := fun g hg e => by have := (fr_lt hFd hg).1; simp at this; omega
  have hgc : ∀ g, blkOf ac = some g → gm ≠ g := fun g hg e => by have := (fr_lt hFc hg).1; have := hV4.size; omega
  have hgb : w.heap.size ≤ gm := by have := hgm.1; simp at this; omega
  have bk6 := bk5.below ((Below.refl _ _).alloc (Nat.le_refl _) (.cells #[.slice (some ⟨gm, 0, none⟩) n cm] 24))
  refine (stands_book _ w.heap.size (pm + 1) _ [(some ⟨gm, 0, none⟩, n, cm)] _ _ (some ⟨w7.heap.size, 0, none⟩) 1 bk6 (by simp) (.inr ⟨w7.heap.size, rfl, fun j y hy => ?_⟩) (fun y hy => ?_) (fun y hy g hg => ?_) ?_ (fun y hy => ?_) (by simp)).mono ?_
  · match j, hy with
    | 0, hy =>
      simp at hy
      subst hy
      simp
  · obtain rfl := List.mem_singleton.1 hy
    exact room_lent ((own_keep oV hV7).alloc _)
  · obtain rfl := List.mem_singleton.1 hy
    have e' : gm = g := Option.some.inj hg
    subst e'
    exact ⟨hgb, fun e => by have := (bk6.og.lt _ e).1; omega⟩
  · rw [List.pairwise_append]
    refine ⟨List.pairwise_map.2 bk6.apart, List.pairwise_singleton _ _, fun y hy z hz g hg e => ?_⟩
    obtain rfl := List.mem_singleton.1 hz
    have e' : gm = g := Option.some.inj e
    subst e'
    simp only [List.nil_append, List.cons_append, List.map_cons, List.map_nil, List.mem_cons, List.not_mem_nil, or_false] at hy
    rcases hy with rfl | rfl
    · exact hgd _ hg rfl
    · exact hgc _ hg rfl
  · obtain rfl := List.mem_singleton.1 hy
    show n + 41 ≤ _
    omega
  rintro e w8 ⟨rfl, hb8⟩
  go_wp2
  go_ret
  exact ⟨rfl, (more (next hWV hV7) _).trans hb8⟩

end Go.Proofs.YtnokabglkmiidaaDoor
