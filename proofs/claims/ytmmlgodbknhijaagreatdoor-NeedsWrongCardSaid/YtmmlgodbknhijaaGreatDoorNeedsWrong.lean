/-
  THE LAW cutwaterlaw24.NeedsWrong, PROVED AS THE TIED CARD 'NeedsWrongCardSaid': at every input (an operation, a geometry, any slice of ints) the call returns true, and its three arguments read afterwards as they did. CONDITIONS: the row's own: the listed package-level variables start as the program's text lays them (the given tie).
-/
import Derived.Test.YtmmlgodbknhijaaGreatDoorCwCard
namespace Go.Proofs.YtmmlgodbknhijaaGreatDoor
theorem needsWrong_holds : Rows.NeedsWrongCardSaid := CwT.card_holds
#print axioms needsWrong_holds
end Go.Proofs.YtmmlgodbknhijaaGreatDoor
