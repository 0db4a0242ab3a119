/-
  The row and the card of the program's function 4.
-/
import Derived.Test.YtmmlgodbknhijaaGreatDoorCwNW
namespace CwT
open Go Cw Go.Proofs Go.ChangeShapes Go.WideShapes Go.RowKit
open Go.Proofs.YtmmlgodbknhijaaGreatDoor
set_option maxRecDepth 100000

theorem lifted (os : Os) (started : os.Started) (H : Type) (enc : TypeId × Value → H) :
    ReturnsInHanded {} Tryz.checked os 4 .any (fun w args => (Rows.needsWrongSpec.pre enc prog Tryz.f4 [] false w args ∧ laidMetH prog laid w) ∧ sizedMet enc prog Tryz.f4 (OpenSpec.ofChange Rows.needsWrongSpec) false w args)
      (Rows.needsWrongSpec.post enc prog Tryz.f4 false true false false) := by
  refine returnsInHanded_of_change_and (C := Tryz.checked) (X := fun w _ => laidMetH prog laid w) (fun _ _ _ hh h => h.of_heap hh) own started (by kernel_rfl) Tryz.func4
    (ChangeSpec.witness_shaped (enc := enc) (C := Tryz.checked) (os := os) (X := fun w _ => laidMetH prog laid w) false (laidWorld os) #[opV 0 0 0 [] [] [], gV 0 0 0, .slice none 0 0] 8 (laidWorld_os _)
      (World.shaped_of_ZipB (by kernel_rfl) (by kernel_rfl)) (by kernel_rfl) (by kernel_rfl) (by kernel_rfl) (laidWorld_met os _)) ?_
  intro W base args ds gs before hval0 hW _ _ hL _
  have hval : ∀ (j : Nat) t v, Tryz.f4.params[j]? = some t → args[j]? = some v → Value.okWide prog W .any base t v := hval0
  have hW' := hW
  obtain ⟨p, q, hA0, hV, rfl, _, _⟩ := hW
  have hA : DataW.TrodAll enc prog W 0 (fun _ => true) true Tryz.f4.params.toList args.toList ds p := hA0
  rw [Tryz.params4] at hA hval
  obtain ⟨v0, v1, v2, d0, d1, d2, p0, p1, p2, rfl, rfl, rfl, t0, t1, t2⟩ := trodAll_three hA
  obtain ⟨rfl, rfl⟩ := trodVars_none hV
  obtain ⟨k, o, l, pa, pt, da, rfl⟩ := shape58 (hval 0 58 v0 rfl rfl)
  obtain ⟨x, y, z, rfl⟩ := shape24 (hval 1 24 v1 rfl rfl)
  have hh := shape32 (hval 2 32 v2 rfl rfl)
  obtain ⟨t, fr, hc⟩ := handle_of_laid hL
  refine (law4 hc k o l x y z pa pt da hh).mono fun e W' ⟨he, hw⟩ => ?_
  subst he
  have lt : ∀ r ∈ p0 ++ p1 ++ p2, r.block < W.heap.size := fun r hr => hW'.lt r (by simpa using hr)
  have b0 := Below.trod laidOut (by kernel_rfl) (of_decide_eq_true (by kernel_rfl)) t0 hw (fun r hr => lt r (by simp [hr]))
  have b1 := Below.trod laidOut (by kernel_rfl) (of_decide_eq_true (by kernel_rfl)) t1 hw (fun r hr => lt r (by simp [hr]))
  have b2 := Below.trod laidOut (by kernel_rfl) (of_decide_eq_true (by kernel_rfl)) t2 hw (fun r hr => lt r (by simp [hr]))
  refine ⟨_, rfl, _, _, _, [], p0 ++ (p1 ++ p2), [], hW', ?_, ?_, ?_, hw.frame _, fun h => by cases h⟩
  · exact trodAll_mk1 (shut_bool Tryz.underlying4 true)
  · exact trodAll_mk3 b0 b1 b2
  · rfl
end CwT
