/-
  The law numeraltop.TopReach answers true, whatever it is asked, in whatever memory; what it is asked reads behind the call as it read before. One condition: the table math/bits.deBruijn32tab reads as its initialiser lays it (the card ties it to the program's text). (Printed by wip/gen/row.py.)
-/
import Derived.Test.YtpmncmglmobjoaaGreatDoorTie
import Derived.Test.YtpmncmglmobjoaaGreatDoorCards
import Derived.SevenTiedAt
import Derived.Test.YtpmncmglmobjoaaGreatDoorQTLawTr
import Derived.Test.YtpmncmglmobjoaaGreatDoorQTRowArgs
set_option maxHeartbeats 4000000
set_option maxRecDepth 100000
namespace Go.Proofs.YtpmncmglmobjoaaGreatDoor
open Go.RowKit Go.Lb Go.ChangeShapes Go.WideShapes Go.ChangeAt Go.Joins
theorem lifted (os : Os) (started : os.Started) (H : Type) (enc : TypeId × Value → H) :
 ReturnsInHanded {} Tryz.checked os 3 .any (fun w args => (Rows.topReachSpec.pre enc Tryz.prog Tryz.f3 [] false w args ∧ laidMetH Tryz.prog laid1 w) ∧ sizedMet enc Tryz.prog Tryz.f3 (OpenSpec.ofChange Rows.topReachSpec) false w args)
  (Rows.topReachSpec.post enc Tryz.prog Tryz.f3 false true false false) := by
 refine returnsInHanded_of_change_and (C := Tryz.checked) (X := fun w _ => laidMetH Tryz.prog laid1 w) (fun _ _ _ hh h => h.of_heap hh) own started (by as_aux_lemma => kernel_rfl) Tryz.func3
  (ChangeSpec.witness_shaped (enc := enc) (C := Tryz.checked) (os := os) (X := fun w _ => laidMetH Tryz.prog laid1 w) false (World.doorLaid Tryz.prog 14 os) #[.agg #[.int .i64 0, .int .i64 0], .int .u64 0, .agg #[.bool false, .slice none 0 0, .slice none 0 0], .int .u8 0] 8 rfl (World.shaped_of_RefB (by as_aux_lemma => kernel_rfl) (by as_aux_lemma => kernel_rfl)) (by as_aux_lemma => kernel_rfl) (by as_aux_lemma => kernel_rfl) (by as_aux_lemma => kernel_rfl) (door_met os _)) ?_
 intro W base args ds gs before hval0 hW _ _ hL _
 have hval : ∀ (j : Nat) t v, Tryz.f3.params[j]? = some t → args[j]? = some v → Value.okWide Tryz.prog W .any base t v := hval0
 have hW' := hW
 obtain ⟨p, q, hA0, hV, rfl, _, _⟩ := hW
 have hA : DataW.TrodAll enc Tryz.prog W 0 (fun _ => true) true Tryz.f3.params.toList args.toList ds p := hA0
 rw [Tryz.params3] at hA hval
 obtain ⟨v0, vs0, d0, ds0, p0, q0, l0, rfl, rfl, k0, r0⟩ := trodAll_cons hA
 obtain ⟨v1, vs1, d1, ds1, p1, q1, l1, rfl, rfl, k1, r1⟩ := trodAll_cons r0
 obtain ⟨v2, vs2, d2, ds2, p2, q2, l2, rfl, rfl, k2, r2⟩ := trodAll_cons r1
 obtain ⟨v3, vs3, d3, ds3, p3, q3, l3, rfl, rfl, k3, r3⟩ := trodAll_cons r2
 obtain ⟨lz, rfl, rfl⟩ := trodAll_nil r3
 obtain rfl : args = #[v0, v1, v2, v3] := by cases args; simp_all
 clear lz l0 l1 l2 l3
 obtain ⟨rfl, rfl⟩ := trodVars_none hV
 obtain ⟨e0, f0, rfl⟩ := open_form (hval 0 23 v0 rfl rfl) k0
 obtain ⟨b1, rfl, hb1⟩ := open_u64 (hval 1 24 v1 rfl rfl) k1
 obtain ⟨s2, a2, b2, n2, m2, c2, e2, xs2, ys2, rfl, S2, Z2, _⟩ := open_ratio (hval 2 29 v2 rfl rfl) k2
 obtain ⟨m3, rfl, hm3⟩ := open_u8 (hval 3 5 v3 rfl rfl) k3
 have hT := tab_of_laid hL
 refine (topReachLaw_any e0 f0 b1 m3 s2 a2 b2 n2 m2 c2 e2 xs2 ys2 W hb1 hm3 hT S2 Z2).mono fun en W' ⟨he, hb⟩ => ?_
 subst he
 have hlt : ∀ a ∈ p0 ++ (p1 ++ (p2 ++ (p3 ++ []))), a.block < W.heap.size := fun a ha => hW'.lt a (by simpa using ha)
 exact ⟨_, rfl, post_below (pa := p0 ++ (p1 ++ (p2 ++ (p3 ++ [])))) (pv := []) hW' (fun _ _ _ => trodAll_mk1 (shut_bool Tryz.underlying4 true))
  (fun sp hsp => ⟨p0, _, (WideElems.Trod_stays laidOut readsF rowF k0 (fun a ha => hb.same (hlt a (by simp [ha]))) (fun a ha => hsp a (by simp [ha]))), ⟨p1, _, (WideElems.Trod_stays laidOut readsU rowU k1 (fun a ha => hb.same (hlt a (by simp [ha]))) (fun a ha => hsp a (by simp [ha]))), ⟨p2, _, (WideElems.Trod_stays laidOut readsR rowR k2 (fun a ha => hb.same (hlt a (by simp [ha]))) (fun a ha => hsp a (by simp [ha]))), ⟨p3, _, (WideElems.Trod_stays laidOut reads8 row8 k3 (fun a ha => hb.same (hlt a (by simp [ha]))) (fun a ha => hsp a (by simp [ha]))), trodAll_mk0, rfl⟩, rfl⟩, rfl⟩, rfl⟩)
  (fun _ _ => rfl) (by simp) hb (ok_one (by as_aux_lemma => kernel_rfl) rfl (okWide_bool_mk Tryz.underlying4 true))⟩
end Go.Proofs.YtpmncmglmobjoaaGreatDoor
