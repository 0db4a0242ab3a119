/-
  The row of the program's function 4, closed: what the program forces.
-/
import Derived.Test.YtmmlgodbknhijaaGreatDoorCwRow
namespace CwT
open Go Cw Go.Proofs Go.ChangeShapes Go.WideShapes Go.RowKit
open Go.Proofs.YtmmlgodbknhijaaGreatDoor
set_option maxRecDepth 100000
theorem nameF : prog.funcNamed "cutwater/cutwaterlaw24.NeedsWrong" = some 4 := by kernel_rfl
theorem instF : Tryz.f4.isInstance prog Rows.needsWrongRow.origin Rows.needsWrongRow.targs := of_decide_eq_true (by kernel_rfl)
theorem wrapF : Tryz.f4.isWrapper prog Rows.needsWrongRow.wrapper Rows.needsWrongRow.mainSum := by unfold Func.isWrapper; rw [if_neg (of_decide_eq_false (by kernel_rfl))]; exact ⟨rfl, rfl⟩
theorem jf1 : (Rows.needsWrongRow.inPlace == prog.inPlace 4) = true := by kernel_rfl
theorem jf2 : (Rows.needsWrongRow.unfollowed == prog.unfollowed 4) = true := by kernel_rfl
theorem jf3 : (Rows.needsWrongRow.recurses == prog.recurses 4) = true := by
  have h : prog.unfollowed 4 = true := (eq_of_beq jf2).symm
  unfold Program.recurses
  rw [h]
  rfl
end CwT
