/-
  From the loaded code to the evaluator's code: sizes and places looked up, calls with their functional specs.
-/
import Derived.Test.YtmmlgodbknhijaaGreatDoorCwA
namespace Cw
open Go

inductive CH where
  | spec (S : Spec) | pure (S : PSpec) | dspec (D : DSpec) | bad
structure Hints where
  priv : List Nat
  calls : FuncId → CH
  clos : List (FuncId × Spec)
  dclos : List (FuncId × DSpec)
  iters : List (FuncId × Spec)

def elabOpd : Operand → Option Opd
  | .tmp t => some (.t t)
  | .const v => bif scal v then some (.c v) else none
  | .func f => some (.c (.func (.func f) ⟨[]⟩ ⟨[]⟩))
  | .global _ => none
def elabOpds : List Operand → Option (List Opd)
  | [] => some []
  | x :: xs => match elabOpd x, elabOpds xs with
    | some y, some ys => some (y :: ys)
    | _, _ => none

def szOf (P : Program) (t : TypeId) : Option Nat := (P.info? t).map (·.size)
def aggSz (P : Program) (t : TypeId) : Option (Option Nat) :=
  match P.info? t, P.underlying t with
  | some i, some (.struct _) | some i, some (.array _ _) => some (some i.size)
  | some _, some _ => some none
  | _, _ => none
def zeroOf (P : Program) (t : TypeId) : Option Value :=
  match P.info? t with
  | some i => match i.zero with
    | some z => bif scal z then some z else none
    | none => none
  | none => none

def structPlaces (P : Program) (fs : Array Field) : List Nat → Option (List (Nat × Nat))
  | [] => some []
  | i :: is => match fs[i]? with
    | some f => match szOf P f.type, structPlaces P fs is with
      | some s, some r => some ((f.offset, s) :: r)
      | _, _ => none
    | none => none

def optPriv (H : Hints) (dst : Option Nat) : Option Nat :=
  match dst with
  | some d => bif H.priv.elem d then some d else none
  | none => none
def optOp (x : Option Operand) : List Operand := match x with | some x => [x] | none => []

def elabConv (P : Program) (src dst : TypeId) : Option AOp :=
  match P.underlying src, P.underlying dst with
  | some (.int _), some (.int k) => some (.convI k)
  | some .string, some .string => some .convSame
  | some .string, some (.slice e) => match P.underlying e with
    | some (.int .u8) => some (.convSB e)
    | _ => none
  | some (.slice e), some .string => match P.underlying e with
    | some (.int .u8) => some .convBS
    | _ => none
  | _, _ => none

def callable (P : Program) (f : FuncId) : Bool :=
  match P.funcs[f]? with
  | some fn => fn.body.isSome && !(fn.name == "runtime.NumGoroutine")
  | none => false

/-- are the keys strings (true), integers (false), or something else? -/
def keyKind (P : Program) (t : TypeId) : Option Bool :=
  match P.underlying t with
  | some (.int _) => some false
  | some .string => some true
  | _ => none

def elabBuiltin (P : Program) (b : Builtin) (ts : List TypeId) : Option AOp :=
  match b, ts with
  | .len, [t] => match P.underlying t with
    | some .string => some .lenS
    | some (.slice _) => some .lenV
    | some (.array n _) => some (.lenA n)
    | some (.map _ _) => some .lenM
    | _ => none
  | .append, [t, u] => match P.underlying t, P.underlying u with
    | some (.slice e), some (.slice _) => match P.info? e with
      | some i => bif Nat.blt 0 i.bytes && Nat.blt 0 i.size && (match i.zero with | some z => Nat.beq (cellsL z).length i.size | none => false) then some (.append i.size i.bytes) else none
      | none => none
    | some (.slice e), some .string => match P.underlying e, P.info? e with
      | some (.int .u8), some i => bif Nat.beq i.bytes 1 && Nat.beq i.size 1 && (match i.zero with | some z => Nat.beq (cellsL z).length 1 | none => false) then some .appendS else none
      | _, _ => none
    | _, _ => none
  | .copy, [t, u] => match P.underlying t, P.underlying u with
    | some (.slice e), some (.slice _) => (szOf P e).map fun s => AOp.copy s
    | some (.slice e), some .string => match szOf P e with
      | some 1 => some .copyS
      | _ => none
    | _, _ => none
  | .min, t :: _ => match P.underlying t with | some (.int _) => some .minI | _ => none
  | .max, t :: _ => match P.underlying t with | some (.int _) => some .maxI | _ => none
  | .delete, [t, _] => match P.underlying t with
    | some (.map k _) => (keyKind P k).map fun ks => AOp.delete ks
    | _ => none
  | .clear, [t] => match P.underlying t with
    | some (.slice e) => (zeroOf P e).map fun z => AOp.clearV (cellsL z)
    | _ => none
  | _, _ => none

def cmpKind (P : Program) (t : TypeId) : Nat :=
  match P.underlying t with
  | some (.pointer e) => match szOf P e with
    | some z => bif Nat.blt 0 z then 1 else 0
    | none => 0
  | some (.slice _) => 2
  | some (.map _ _) => 3
  | some (.interface _) => 4
  | _ => 0
def isC : Operand → Bool | .const _ => true | _ => false

def elabOp (P : Program) (H : Hints) (o : Oper) : Option (AOp × List Operand) :=
  match o.op with
  | .move x | .assign x => some (.mov, [x])
  | .pick c a b => some (.pick, [c, a, b])
  | .alloc e => (zeroOf P e).map fun z => (.alloc (optPriv H o.dst) z, [])
  | .box _ x => some (.box (optPriv H o.dst), [x])
  | .build t ps =>
    match zeroOf P t, P.underlying t with
    | some z, some (.struct fs) => bif fs.toList.all (fun f => (szOf P f.type).isSome) then
        (structPlaces P fs (ps.toList.map (·.1))).map fun pl => (.build (cellsL z) pl, ps.toList.map (·.2)) else none
    | some z, some (.array _ e) => (szOf P e).map fun s => (.build (cellsL z) (ps.toList.map fun p => (p.1 * s, s)), ps.toList.map (·.2))
    | _, _ => none
  | .buildSlice t n ps => match P.underlying t with
    | some (.slice e) => match szOf P e, zeroOf P e with
      | some s, some z => bif Nat.ble (n * s) 1048576 && Nat.blt 0 (n * s) && Nat.beq (cellsL z).length s then
          some (.bslice (optPriv H o.dst) s n ((List.replicate n (cellsL z)).flatten) (ps.toList.map fun p => (p.1 * s, s)), ps.toList.map (·.2))
        else bif Nat.beq n 0 && ps.toList.isEmpty then some (.bslice (optPriv H o.dst) s 0 [] [], []) else none
      | _, _ => none
    | _ => none
  | .load t a => (aggSz P t).map fun s => (.load s, [a])
  | .store t a v => (szOf P t).map fun s => (.store s, [a, v])
  | .nilCheck x => some (.nilc, [x])
  | .binOp op t x y _ => some (.bin op t (isC x || isC y) (!(P.eqGuardType P.depth t)) (cmpKind P t), [x, y])
  | .unOp op _ x => some (.un op, [x])
  | .convert s d x => (elabConv P s d).map fun c => (c, [x])
  | .makeInterface t x => match P.underlying t with
    | some (.interface _) | none => none
    | _ => some (.mkif t, [x])
  | .makeFunc (.func f) first cap => some (.mkfn f first.size, first.toList ++ cap.toList)
  | .makeMap _ none => some (.mkmap, [])
  | .makeSlice t l c => match P.underlying t with
    | some (.slice e) => match P.info? e with
      | some i => match zeroOf P e with
        | some z => bif Nat.beq (cellsL z).length i.size && Nat.blt 0 i.size then some (.mkslice i.size i.bytes (cellsL z), [l, c]) else none
        | none => none
      | none => none
    | _ => none
  | .slice t x lo hi mx => match P.underlying t with
    | some .string => match mx with
      | none => some (.slS lo.isSome hi.isSome, x :: (optOp lo ++ optOp hi))
      | some _ => none
    | some (.slice e) => (szOf P e).map fun s => (.slV s lo.isSome hi.isSome mx.isSome, x :: (optOp lo ++ optOp hi ++ optOp mx))
    | some (.array n e) => (szOf P e).map fun s => (.slA n s lo.isSome hi.isSome mx.isSome, x :: (optOp lo ++ optOp hi ++ optOp mx))
    | _ => none
  | .fieldAddr s x f => match P.underlying s with
    | some (.struct fs) => match fs[f]? with
      | some f => match szOf P f.type with
        | some z => bif Nat.blt 0 z then some (.faddr f.offset, [x]) else none
        | none => none
      | none => none
    | _ => none
  | .field t x f => match P.underlying t with
    | some (.struct fs) => match fs[f]? with
      | some f => (aggSz P f.type).map fun s => (.fld f.offset s, [x])
      | none => none
    | _ => none
  | .indexAddr t x i => match P.underlying t with
    | some (.array n e) => (szOf P e).map fun s => (.iaddrA n s, [x, i])
    | some (.slice e) => (szOf P e).map fun s => (.iaddrS s, [x, i])
    | _ => none
  | .index t x i => match P.underlying t with
    | some (.array n e) => match szOf P e, aggSz P e with
      | some s, some z => some (.idxA n s z, [x, i])
      | _, _ => none
    | some .string => some (.idxS, [x, i])
    | _ => none
  | .lookup t m k ok => match P.underlying t with
    | some (.map kt e) => match keyKind P kt, zeroOf P e with
      | some ks, some z => some (.lookup ks ok z, [m, k])
      | _, _ => none
    | _ => none
  | .mapUpdate t m k v => match P.underlying t with
    | some (.map kt _) => (keyKind P kt).map fun ks => (.mapupd ks, [m, k, v])
    | _ => none
  | .typeAssert x _ t ok => match P.underlying t, zeroOf P t with
    | some (.interface _), _ => none
    | some _, some z => some (.tass t ok z, [x])
    | _, _ => none
  | .extract x i => some (.ext i, [x])
  | .panic x => some (.panic, [x])
  | .call c => match c.callee with
    | .builtin .recover => none
    | .builtin b => (elabBuiltin P b c.argTypes.toList).map fun a => (a, c.args.toList)
    | .value (.func f) => bif callable P f then (match H.calls f with
      | .spec S => some (.call f S, c.args.toList)
      | .pure S => some (.pcall f S, c.args.toList)
      | _ => none) else none
    | .value (.tmp t) => bif H.clos.all (fun x => callable P x.1) then some (.callv H.clos, .tmp t :: c.args.toList) else none
    | _ => none
  | .defer c => match c.callee with
    | .value (.func f) => match H.calls f with
      | .dspec D => some (.defer f D, c.args.toList)
      | _ => none
    | .value (.tmp t) => some (.deferv H.dclos, .tmp t :: c.args.toList)
    | _ => none
  | _ => none

end Cw
