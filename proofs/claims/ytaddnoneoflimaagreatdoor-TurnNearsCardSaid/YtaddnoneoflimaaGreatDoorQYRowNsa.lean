/-
  The law numerallaw08.TurnNears answers true, whatever it is asked, in whatever memory; what it is asked reads behind the call as it read before. One condition: the table math/bits.deBruijn32tab reads as its initialiser lays it (the card ties it to the program's text). (Printed by wip/gen/row.py.)
-/
import Derived.Test.YtaddnoneoflimaaGreatDoorTie
import Derived.Test.YtaddnoneoflimaaGreatDoorCards
import Derived.SevenTiedAt
import Derived.Test.YtaddnoneoflimaaGreatDoorQNsBase
import Derived.Test.YtaddnoneoflimaaGreatDoorQYLawNs
import Derived.Test.YtaddnoneoflimaaGreatDoorQYRowTab
import Derived.Test.YtaddnoneoflimaaGreatDoorQYRowArgs
namespace Go.Proofs.YtaddnoneoflimaaGreatDoor
open Go.RowKit Go.Lb Go.ChangeShapes Go.WideShapes Go.ChangeAt Go.Joins

set_option maxRecDepth 100000 in
set_option maxHeartbeats 4000000 in
theorem lifted (os : Os) (started : os.Started) (H : Type) (enc : TypeId × Value → H) :
    ReturnsInHanded {} Tryz.checked os 5 .any (fun w args => (Rows.turnNearsSpec.pre enc Tryz.prog Tryz.f5 [] false w args ∧ laidMetH Tryz.prog laid1 w) ∧ sizedMet enc Tryz.prog Tryz.f5 (OpenSpec.ofChange Rows.turnNearsSpec) false w args)
      (Rows.turnNearsSpec.post enc Tryz.prog Tryz.f5 false true false false) := by
  refine returnsInHanded_of_change_and (C := Tryz.checked) (X := fun w _ => laidMetH Tryz.prog laid1 w) (fun _ _ _ hh h => h.of_heap hh) own started (by as_aux_lemma => kernel_rfl) Tryz.func5
    (ChangeSpec.witness_shaped (enc := enc) (C := Tryz.checked) (os := os) (X := fun w _ => laidMetH Tryz.prog laid1 w) false (World.doorLaid Tryz.prog 14 os) #[.int .u64 0] 8 rfl (World.shaped_of_RefB (by as_aux_lemma => kernel_rfl) (by as_aux_lemma => kernel_rfl)) (by as_aux_lemma => kernel_rfl) (by as_aux_lemma => kernel_rfl) (by as_aux_lemma => kernel_rfl) (door_met os _)) ?_
  intro W base args ds gs before hval0 hW _ _ hL _
  have hval : ∀ (j : Nat) t v, Tryz.f5.params[j]? = some t → args[j]? = some v → Value.okWide Tryz.prog W .any base t v := hval0
  have hW' := hW
  obtain ⟨p, q, hA0, hV, rfl, _, _⟩ := hW
  have hA : DataW.TrodAll enc Tryz.prog W 0 (fun _ => true) true Tryz.f5.params.toList args.toList ds p := hA0
  rw [Tryz.params5] at hA hval
  obtain ⟨v0, d0, rfl, rfl, k0⟩ := trodAll_one hA
  obtain ⟨rfl, rfl⟩ := trodVars_none hV
  obtain ⟨b0, rfl, hb0⟩ := open_u64 (hval 0 22 v0 rfl rfl) k0
  have hT := tab_of_laid hL
  refine (turnNears_any b0 W hb0 hT).mono fun en W' ⟨he, hb⟩ => ?_
  subst he
  have hlt : ∀ a ∈ p, a.block < W.heap.size := fun a ha => hW'.lt a (by simpa using ha)
  exact ⟨_, rfl, post_below (pa := p) (pv := []) hW' (fun _ _ _ => trodAll_mk1 (shut_bool Tryz.underlying4 true))
    (fun sp hsp => trodAll_mk1 (WideElems.Trod_stays laidOut readsU rowU k0 (fun a ha => hb.same (hlt a (by simp [ha]))) (fun a ha => hsp a (by simp [ha]))))
    (fun _ _ => rfl) rfl hb (ok_one (by as_aux_lemma => kernel_rfl) rfl (okWide_bool_mk Tryz.underlying4 true))⟩

end Go.Proofs.YtaddnoneoflimaaGreatDoor
