/-
  The law, run, at unknown arguments.
-/
import Derived.Test.YtmmlgodbknhijaaGreatDoorCwGJ
namespace CwT
open Go Cw
set_option maxRecDepth 100000
noncomputable section
/-- errors.errorType is laid; block 1 is the slice's that came in -/
def h0 (t : TypeId) (fr : Nat × Nat) : AH := ⟨T.set .nil 0 (some (.raw 0 [errT] t fr)), 2⟩
def boolOf : Option (Res × AH) → Option Bool
  | some (.ret (.bool b), _) => some b
  | _ => none
def opV (k o l : Int) (p q d : List UInt8) : Value := .agg ⟨[.int .i64 k, .string ⟨⟨p⟩⟩, .string ⟨⟨q⟩⟩, .int .i64 o, .int .i64 l, .string ⟨⟨d⟩⟩]⟩
def gV (a b c : Int) : Value := .agg ⟨[.int .i64 a, .int .i64 b, .int .i64 c]⟩
def sameO (k o l : Int) (p q d : List UInt8) : Bool :=
  intEq k k && (bytesEq p p && (bytesEq q q && (intEq o o && (intEq l l && (bytesEq d d && true)))))
theorem run4N (t : TypeId) (fr : Nat × Nat) (k o l a b c : Int) (p q d : List UInt8) :
    boolOf (s4 [opV k o l p q d, gV a b c, .slice none 0 0] (h0 t fr)) = some (sameO k o l p q d) := by kernel_rfl
theorem run4S (t : TypeId) (fr : Nat × Nat) (k o l a b c : Int) (p q d : List UInt8) (n : Nat) :
    boolOf (s4 [opV k o l p q d, gV a b c, .slice (some ⟨1, 0, none⟩) n 0] (h0 t fr)) = some (sameO k o l p q d) := by kernel_rfl
end
end CwT
