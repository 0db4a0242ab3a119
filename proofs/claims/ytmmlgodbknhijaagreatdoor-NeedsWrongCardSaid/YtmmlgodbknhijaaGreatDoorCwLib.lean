/-
  The library's functions that are not walked by the evaluator: their specs.
-/
import Derived.Test.YtmmlgodbknhijaaGreatDoorCwTab
import Derived.KernelRfl
import Derived.Test.YtmmlgodbknhijaaGreatDoorProg
namespace CwT
open Go Cw
noncomputable section
abbrev Spec := Cw.Spec
noncomputable abbrev prog : Program := Go.Proofs.Tryz.prog
theorem mixed : prog.follows .mixedOrders = true := by kernel_rfl

def repL (l : List UInt8) : Nat → List UInt8
  | 0 => []
  | n + 1 => l ++ repL l n
/-- maps.Clone -/
def s161 : Spec := fun args h => match args with
  | [.map none] => some (.ret (.map none), h)
  | [.map (some r)] => match h.m.get r with
    | some (.map kvs) => some (.ret (.map (some h.nx)), alloc h (.map kvs))
    | _ => none
  | _ => none
/-- what errors.errorType holds: the handle of 'error' -/
def errT : Value := .iface 266 (.agg ⟨[.pointer (some ⟨4, 62, none⟩)]⟩)
def errOk (h : AH) : Bool := match h.m.get 0 with
  | some (.raw b cs _ _) => Nat.beq b 0 && veqL cs [errT]
  | _ => false
/-- the Code at the end of a chain of wrapped errors: 257 an address of a Fail, 38 a Code -/
def asCode (h : AH) : Nat → Value → Option (Option Int)
  | 0, _ => none
  | n + 1, e => match e with
    | .nilIface => some none
    | .iface t v => bif Nat.beq t 38 then (match v with
        | .int .i64 m => some (some m)
        | _ => none) else bif Nat.beq t 257 then
        (match v with
         | .pointer (some ⟨i, o, none⟩) => match h.m.get i with
            | some (.cells _ _ cs) => match cs[o + 2]? with
              | some e => asCode h n e
              | none => none
            | _ => none
         | _ => none) else none
    | _ => none
def asFail : Value → Option (Option Value)
  | .nilIface => some none
  | .iface t v => bif Nat.beq t 257 then (match v with
      | .pointer (some ⟨i, o, none⟩) => some (some (.pointer (some ⟨i, o, none⟩)))
      | _ => none) else bif Nat.beq t 38 then (match v with
      | .int .i64 _ => some none
      | _ => none) else none
  | _ => none
def asSet (h : AH) (i o : Nat) (q : Option (Option Value)) : Option (Res × AH) :=
  match h.m.get i with
  | some (.cells false z vs) => bif Nat.blt o vs.length then (match q with
    | none => none
    | some none => some (.ret (.bool false), h)
    | some (some v) => some (.ret (.bool true), ⟨h.m.set i (some (.cells false z (vs.set o v))), h.nx⟩)) else none
  | _ => none
/-- errors.As -/
def s55 : Spec := fun args h => match args with
  | [e, .iface pt (.pointer (some ⟨i, o, none⟩))] => bif errOk h then
      bif Nat.beq pt 127 then asSet h i o ((asCode h 1000 e).map fun q => q.map fun m => Value.int .i64 m) else
      bif Nat.beq pt 332 then asSet h i o (asFail e) else none
    else none
  | _ => none
/-- errors.Is -/
def s48 : Spec := fun args h => match args with
  | [e, .iface t (.int .i64 k)] => bif Nat.beq t 38 then match asCode h 1000 e with
    | some (some m) => some (.ret (.bool (intEq m k)), h)
    | some none => some (.ret (.bool false), h)
    | none => none
    else none
  | _ => none
def p106 : PSpec
  | [.string ⟨⟨[c]⟩⟩, .int .i64 (.ofNat n)] => bif Nat.ble n 4096 then some (.ret (mkStr (repL [c] n))) else none
  | _ => none
end
end CwT
