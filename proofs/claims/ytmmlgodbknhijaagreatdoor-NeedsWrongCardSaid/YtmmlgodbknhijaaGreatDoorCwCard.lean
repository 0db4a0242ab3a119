/-
  THE LAW cutwaterlaw24.NeedsWrong, WHATEVER THE INPUT: it answers true, and its arguments read as they did. The card ties the listed variables to the program's text.
-/
import Derived.Test.YtmmlgodbknhijaaGreatDoorCwRowC
import Derived.Test.YtmmlgodbknhijaaGreatDoorCards
import Derived.Test.YtmmlgodbknhijaaGreatDoorTie
import Derived.SevenTiedAt
namespace CwT
open Go Cw Go.Proofs
open Go.Proofs.YtmmlgodbknhijaaGreatDoor
set_option maxRecDepth 100000
theorem card_holds : Rows.NeedsWrongCardSaid :=
  Claim7.holds_tied_plain_at .later [] [.data, .handle, .pinned] true (true, "a326c4826f3ac6b044d1aa8c75f5c9861eb63f25d5d3edab71f080f78c4a0d3f") true
    row_holds (fun _ h => by cases h) (by kernel_rfl) (fun _ h => by cases h) needsWrong_row_tie rfl ⟨rfl, rfl⟩ (by kernel_rfl) rfl
    (fun f fn hf hfn => by
      obtain rfl : f = 4 := Option.some.inj (nameF.symm.trans hf) |>.symm
      obtain rfl : fn = Tryz.f4 := (Option.some.inj (Tryz.func4.symm.trans hfn)).symm
      exact ⟨by kernel_rfl, fun j t ht => by
        rw [Tryz.params4] at ht
        have w58 : prog.wantsStandIn 58 = false := by kernel_rfl
        have w24 : prog.wantsStandIn 24 = false := by kernel_rfl
        have w32 : prog.wantsStandIn 32 = false := by kernel_rfl
        match j, ht with
        | 0, ht => obtain rfl := Option.some.inj ht; exact w58
        | 1, ht => obtain rfl := Option.some.inj ht; exact w24
        | 2, ht => obtain rfl := Option.some.inj ht; exact w32⟩)
    (by kernel_rfl)
end CwT
