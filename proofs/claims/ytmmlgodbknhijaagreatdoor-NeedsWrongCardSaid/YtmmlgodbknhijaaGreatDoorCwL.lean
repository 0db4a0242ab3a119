/-
  The evaluator of code: regions, branches, loops, functions; and how the loaded code is turned into its code. Definitions alone.
-/
import Derived.Test.YtmmlgodbknhijaaGreatDoorCwK
namespace Cw
open Go

inductive ACode where
  | skip
  | region (id : Nat) (ops : List AOper)
  | draw (id : Nat) (ops : List AOper) (un : List (List Nat × List Nat))
  | seq (a b : ACode)
  | cond (c : Opd) (thn els : ACode)
  | block (id : Nat) (body : ACode)
  | loop (ks kp : List Nat) (body : ACode)
  | exit (id : Nat)
  | ret
  | scope (body : ACode)
  | label (l : Nat)
  | rangeF (g : Opd) (cs : List (FuncId × Spec))

structure St where
  t : T Value
  pb : PB
  df : List ADef
  h : AH

inductive Xit where
  | norm | ret | ext (id : Nat) | pan (v : Value)

def opdT (t : T Value) : Opd → Option Value
  | .t n => t.get n
  | .c v => some v
def putT (t : T Value) : Option Nat → Option Value → T Value
  | none, _ => t
  | some d, v => t.set d v

/-- one operation, its guard heeded -/
def stepOp (P : Program) (o : AOper) (t : T Value) (pb : PB) (h : AH) : Option OR :=
  match o.guard with
  | none => evMf P o.op (o.args.map (opdT t)) pb h
  | some (g, want) => match t.get g with
    | some (.bool b) => bif b == want then evMf P o.op (o.args.map (opdT t)) pb h else some (.ok (some undef) pb h)
    | some (.tuple ⟨[]⟩) => some (.ok (some undef) pb h)
    | _ => none

def evOps (P : Program) : List AOper → St → Option (Xit × St)
  | [], s => some (.norm, s)
  | o :: os, s =>
    match stepOp P o s.t s.pb s.h with
    | none => none
    | some (.ok v pb h) => evOps P os ⟨putT s.t o.dst v, pb, s.df, h⟩
    | some (.pan v h) => some (.pan v, ⟨s.t, s.pb, s.df, h⟩)
    | some (.dfr d) => evOps P os ⟨putT s.t o.dst none, s.pb, d :: s.df, s.h⟩

/-! ### A region whose order is drawn -/
mutual
/-- are they one and the same? (false may stand for 'not known') -/
def veq : Value → Value → Bool
  | .bool a, .bool b => a == b
  | .int k n, .int j m => decide (k = j) && decide (n = m)
  | .string ⟨⟨a⟩⟩, .string ⟨⟨b⟩⟩ => bytesEq a b
  | .pointer a, .pointer b => aeq a b
  | .slice a n c, .slice b m d => aeq a b && Nat.beq n m && Nat.beq c d
  | .map none, .map none => true
  | .map (some a), .map (some b) => Nat.beq a b
  | .nilFunc, .nilFunc => true
  | .nilIface, .nilIface => true
  | .iface t v, .iface u w => Nat.beq t u && veq v w
  | .agg ⟨a⟩, .agg ⟨b⟩ => veqL a b
  | .tuple ⟨a⟩, .tuple ⟨b⟩ => veqL a b
  | _, _ => false
def veqL : List Value → List Value → Bool
  | [], [] => true
  | a :: x, b :: y => veq a b && veqL x y
  | _, _ => false
def aeq : Option Addr → Option Addr → Bool
  | none, none => true
  | some ⟨a, o, none⟩, some ⟨b, p, none⟩ => Nat.beq a b && Nat.beq o p
  | some ⟨a, o, some s⟩, some ⟨b, p, some r⟩ => Nat.beq a b && Nat.beq o p && Nat.beq s r
  | _, _ => false
end
def ovEq : Option Value → Option Value → Bool
  | none, none => true
  | some a, some b => veq a b
  | _, _ => false

/-- the operation moves the heap on (or may end the region) -/
def chains : AOp → Bool
  | .box none | .alloc none _ | .bslice none _ _ _ _ | .store _ | .convSB _ | .mkmap | .mkslice _ _ _ | .mapupd _ | .call _ _ | .callv _ | .append _ _ | .appendS
  | .copy _ | .copyS | .delete _ | .clearV _ | .panic | .defer _ _ | .deferv _ => true
  | _ => false
/-- its value may hang on the heap or on the frame's boxes -/
def looks : AOp → Bool
  | .mov | .pick | .build _ _ | .nilc | .un _ | .convI _ | .convSame | .faddr _ | .iaddrA _ _ | .iaddrS _ | .fld _ _ | .idxA _ _ _ | .idxS | .slS _ _ | .mkif _ | .mkfn _ _
  | .tass _ _ _ | .ext _ | .lenS | .lenV | .lenA _ | .minI | .maxI | .pcall _ _ => false
  | _ => true
/-- the frame's box that it makes or writes -/
def opKey : AOp → List (Option Value) → Option Nat
  | .box (some k), _ => some k
  | .alloc (some k) _, _ => some k
  | .bslice (some k) _ _ _ _, _ => some k
  | .store _, some (.pointer (some ⟨k, _, some 0⟩)) :: _ => some k
  | _, _ => none
def stepKey (o : AOper) (t : T Value) : Option Nat :=
  match o.guard with
  | none => opKey o.op (o.args.map (opdT t))
  | some (g, want) => match t.get g with
    | some (.bool b) => bif b == want then opKey o.op (o.args.map (opdT t)) else none
    | _ => none

structure Rec where
  o : AOper
  t : T Value
  pb : PB
  h : AH
  v : Option Value
  key : Option Nat

def drawRun (P : Program) : List AOper → T Value → PB → AH → Option (List Rec × T Value × PB × AH)
  | [], t, pb, h => some ([], t, pb, h)
  | o :: os, t, pb, h => match stepOp P o t pb h with
    | some (.ok v pb' h') => match drawRun P os (putT t o.dst v) pb' h' with
      | some (rs, r) => some (⟨o, t, pb, h, v, stepKey o t⟩ :: rs, r)
      | none => none
    | _ => none

def keysOf (rs : List Rec) : List Nat → List Nat
  | [] => []
  | j :: js => match rs[j]? with
    | some r => match r.key with
      | some k => k :: keysOf rs js
      | none => keysOf rs js
    | none => keysOf rs js
def eraseP (pb : PB) : List Nat → PB
  | [] => pb
  | k :: ks => eraseP (pb.set k none) ks
/-- the same answer at this heap, with these boxes? -/
def again (P : Program) (r : Rec) (pb : PB) (h : AH) : Bool :=
  match stepOp P r.o r.t pb h with
  | some (.ok v _ _) => ovEq r.v v
  | _ => false
def againAll (P : Program) (r : Rec) (pb : PB) (rs : List Rec) (hEnd : AH) : List Nat → Bool
  | [] => true
  | p :: ps => again P r pb (match rs[p]? with | some q => q.h | none => hEnd) && againAll P r pb rs hEnd ps
/-- a reading of the frame's box k -/
def ldKey (op : AOp) (xs : List (Option Value)) : Option Nat :=
  match op with
  | .load _ => match xs with
    | [some (.pointer (some ⟨k, _, some 0⟩))] => some k
    | _ => none
  | _ => none
def pload (o : AOper) (t : T Value) : Option Nat :=
  match o.guard with
  | none => ldKey o.op (o.args.map (opdT t))
  | some (g, want) => match t.get g with
    | some (.bool b) => bif b == want then ldKey o.op (o.args.map (opdT t)) else none
    | _ => none
def usesPb : AOp → Bool
  | .box (some _) | .alloc (some _) _ | .bslice (some _) _ _ _ _ | .load _ | .store _ | .convBS | .slA _ _ _ _ _ | .append _ _ | .copy _ => true
  | _ => false
def ldHeap (op : AOp) (xs : List (Option Value)) : Bool :=
  match op with
  | .load _ => match xs with
    | [some (.pointer (some ⟨_, _, none⟩))] => true
    | _ => false
  | _ => false
/-- its answer does not hang on the frame's boxes -/
def boxFree (o : AOper) (t : T Value) : Bool :=
  match usesPb o.op with
  | false => true
  | true => match o.guard with
    | none => ldHeap o.op (o.args.map (opdT t))
    | some (g, want) => match t.get g with
      | some (.bool b) => bif b == want then ldHeap o.op (o.args.map (opdT t)) else true
      | _ => false
def keyOut (k : Option Nat) (ks : List Nat) : Bool :=
  match k with
  | some k => !ks.elem k
  | none => true
/-- ks: the boxes that may or may not be there yet; ws: the places of the heap where its answer is asked again -/
def chk1 (P : Program) (r : Rec) (rs : List Rec) (hEnd : AH) (ks ws : List Nat) : Bool :=
  match looks r.o.op with
  | false => true
  | true => match pload r.o r.t with
    | some k => keyOut (some k) ks
    | none => match ks.isEmpty || boxFree r.o r.t with
      | true => againAll P r r.pb rs hEnd ws
      | false => keyOut r.key ks && again P r (eraseP r.pb ks) r.h && againAll P r (eraseP r.pb ks) rs hEnd ws
/-- of each operation, the operations that no edge orders against it, and the places of the heap -/
def drawChk (P : Program) (rs : List Rec) (hEnd : AH) : List Rec → List (List Nat × List Nat) → Bool
  | [], _ => true
  | r :: rr, (us, ws) :: uw => chk1 P r rs hEnd (keysOf rs us) ws && drawChk P rs hEnd rr uw
  | _ :: _, [] => false

def evDraw (P : Program) (ops : List AOper) (uw : List (List Nat × List Nat)) (s : St) : Option (Xit × St) :=
  match drawRun P ops s.t s.pb s.h with
  | some (rs, t, pb, h) => bif drawChk P rs h rs uw then some (.norm, ⟨t, pb, s.df, h⟩) else none
  | none => none

/-! ### Code -/
def keepT (t : T Value) (kp : List Nat) : List Nat → T Value → Option (T Value)
  | [], u => some u
  | n :: ns, u => match t.get n with
    | none => keepT t kp ns u
    | some v => match v with
      | .pointer (some ⟨k, _, some 0⟩) => bif kp.elem k then keepT t kp ns (u.set n (some v)) else none
      | .slice (some ⟨k, _, some 0⟩) _ _ => bif kp.elem k then keepT t kp ns (u.set n (some v)) else none
      | _ => keepT t kp ns (u.set n (some v))
def keepP (pb : PB) : List Nat → PB → PB
  | [], u => u
  | k :: ks, u => keepP pb ks (u.set k (pb.get k))
def prune (ks kp : List Nat) (s : St) : Option St :=
  match keepT s.t kp ks .nil with
  | some t => some ⟨t, keepP s.pb kp .nil, s.df, s.h⟩
  | none => none

def iter (f : St → Option (Xit × St)) : Nat → St → Option (Xit × St)
  | 0, _ => none
  | n + 1, s => match f s with
    | some (.norm, s') => iter f n s'
    | r => r

def fuel : Nat := 4294967296

def ev (P : Program) : ACode → St → Option (Xit × St)
  | .skip, s => some (.norm, s)
  | .region _ ops, s => evOps P ops s
  | .draw _ ops uw, s => evDraw P ops uw s
  | .seq a b, s => match ev P a s with
    | some (.norm, s') => ev P b s'
    | r => r
  | .cond c a b, s => match opdT s.t c with
    | some (.bool t) => bif t then ev P a s else ev P b s
    | _ => none
  | .block id a, s => match ev P a s with
    | some (.ext i, s') => bif Nat.beq i id then some (.norm, s') else some (.ext i, s')
    | r => r
  | .loop ks kp a, s => iter (fun s => match prune ks kp s with | some s => ev P a s | none => none) fuel s
  | .exit id, s => some (.ext id, s)
  | .ret, s => some (.ret, s)
  | .scope a, s => ev P a s
  | .label _, s => some (.norm, s)
  | .rangeF g cs, s => match opdT s.t g with
    | some (.func (.func f) ⟨[]⟩ ⟨cap⟩) => match findF f cs with
      | some S => match S cap s.h with
        | some (.ret _, h) => some (.norm, ⟨s.t, s.pb, .mark :: s.df, h⟩)
        | _ => none
      | none => none
    | _ => none

inductive RVar where
  | t (n : Nat)
  | cell (a : Nat) (sz : Option Nat)
def resOne (s : St) : RVar → Option Value
  | .t n => s.t.get n
  | .cell a sz => match s.t.get a with
    | some (.pointer (some a)) => match cellsAt s.pb s.h a with
      | some vs => readCells vs a.off sz
      | none => none
    | _ => none
def resAll (s : St) (rs : List RVar) : Option Value :=
  match allSome (rs.map (resOne s)) with
  | some [v] => bif isLoc v then none else some v
  | some vs => bif noLocs vs then some (.tuple ⟨vs⟩) else none
  | none => none

def runDefers : List ADef → Option Value → AH → Option (Option Value × AH)
  | [], p, h => some (p, h)
  | .call _ D args :: ds, p, h => match D args p h with
    | some (p', h') => runDefers ds p' h'
    | none => none
  | .mark :: ds, p, h => runDefers ds p h

structure AFn where
  n : Nat
  body : ACode
  rs : List RVar

/-- the frame leaves: what it deferred runs, then its results are read -/
def leave (rs : List RVar) (s : St) (p : Option Value) : Option (Res × AH) :=
  match runDefers s.df p s.h with
  | some (none, h) => match resAll { s with h := h } rs with
    | some v => some (.ret v, h)
    | none => none
  | some (some v, h) => some (.pan v, h)
  | none => none
def fspec (P : Program) (a : AFn) : Spec := fun args h =>
  bif Nat.beq args.length a.n && noLocs args then
    match ev P a.body ⟨T.ofList args 0 .nil, .nil, [], h⟩ with
    | some (.norm, s) | some (.ret, s) => leave a.rs s none
    | some (.pan v, s) => leave a.rs s (some v)
    | _ => none
  else none
/-- of a function that recovers first of all, into slot r: its code is the first region's rest and what follows -/
def fdefer (P : Program) (a : AFn) (r : Nat) : DSpec := fun args p h =>
  bif Nat.beq args.length a.n && noLocs args then
    match ev P a.body ⟨(T.ofList args 0 .nil).set r (some (match p with | some v => v | none => .nilIface)), .nil, [], h⟩ with
    | some (.norm, s) | some (.ret, s) => match s.df with
      | [] => some (none, s.h)
      | _ => none
    | _ => none
  else none
/-- of an iterator that does not come to its yield: its first parameter is not looked at -/
def fspecI (P : Program) (a : AFn) : Spec := fun args h =>
  bif Nat.beq (args.length + 1) a.n && noLocs args then
    match ev P a.body ⟨T.ofList args 1 .nil, .nil, [], h⟩ with
    | some (.norm, s) | some (.ret, s) => leave a.rs s none
    | some (.pan v, s) => leave a.rs s (some v)
    | _ => none
  else none
def fpure (P : Program) (a : AFn) : PSpec := fun args =>
  bif scalL args then
    match fspec P a args ⟨.nil, 0⟩ with
    | some (.ret v, _) => bif scal v then some (.ret v) else none
    | some (.pan v, _) => bif scal v then some (.pan v) else none
    | none => none
  else none

/-! ### From the loaded code -/
def elabOper (P : Program) (H : Hints) (ops : Array Oper) (o : Oper) : Option AOper :=
  match elabOp P H o with
  | none => none
  | some (op, xs) => match elabOpds xs with
    | none => none
    | some ys => match o.guard with
      | none => some ⟨o.dst, op, ys, none⟩
      | some (j, want) => match ops[j]? with
        | some oj => match oj.dst with
          | some d => some ⟨o.dst, op, ys, some (d, want)⟩
          | none => none
        | none => none
def elabOpers (P : Program) (H : Hints) (ops : Array Oper) : List Oper → Option (List AOper)
  | [] => some []
  | o :: os => match elabOper P H ops o, elabOpers P H ops os with
    | some a, some as => some (a :: as)
    | _, _ => none
/-- no slot beyond the frame's -/
def dstOk (n : Nat) : List AOper → Bool
  | [] => true
  | o :: os => (match o.dst with | some d => Nat.blt d n | none => true) && dstOk n os

/-- of each operation, those that come before it by the edges that always bind -/
def addAll (xs : List Nat) (ys : List Nat) : List Nat := xs ++ ys.filter fun y => !xs.elem y
def ancOne (done : List (List Nat)) : List Edge → Option (List Nat)
  | [] => some []
  | e :: es => bif Region.binds .any e then (match done[e.on]?, ancOne done es with
      | some a, some r => some (addAll (e.on :: a) r)
      | _, _ => none) else ancOne done es
def ancs : List Oper → List (List Nat) → Option (List (List Nat))
  | [], done => some done
  | o :: os, done => match ancOne done o.after.toList with
    | some a => ancs os (done ++ [a])
    | none => none
def ltd (an : List (List Nat)) (i j : Nat) : Bool := match an[j]? with | some a => a.elem i | none => false
def slots (o : AOper) : List Nat :=
  (o.args.filterMap fun x => match x with | .t n => some n | .c _ => none) ++ (match o.guard with | some (g, _) => [g] | none => [])
/-- two operations that no edge orders: neither reads or writes what the other writes, and not both move the heap -/
def pairOk (a b : AOper) : Bool :=
  (match a.dst with
    | some d => !(slots b).elem d && (match b.dst with | some e => !Nat.beq d e | none => true)
    | none => true) &&
  (match b.dst with
    | some d => !(slots a).elem d
    | none => true) && !(chains a.op && chains b.op)
/-- two operations in order: they write different slots -/
def dupOk (a b : AOper) : Bool := match a.dst, b.dst with | some d, some e => !Nat.beq d e | _, _ => true
def drawStat (an : List (List Nat)) (ops : List AOper) : Bool :=
  (List.range ops.length).all fun j => (List.range j).all fun i => match ops[i]?, ops[j]? with
    | some a, some b => dupOk a b && (ltd an i j || pairOk a b)
    | _, _ => false
def unOf (an : List (List Nat)) (n i : Nat) : List Nat := (List.range n).filter fun j => !Nat.beq j i && !ltd an j i && !ltd an i j
def winOf (ops : List AOper) (o : AOper) (i : Nat) (us : List Nat) : List Nat :=
  bif looks o.op && !chains o.op then us.filterMap fun j => match ops[j]? with
    | some b => bif chains b.op then some (bif Nat.blt j i then j else j + 1) else none
    | none => none
  else []
def uwOf (an : List (List Nat)) (ops : List AOper) : List AOper → Nat → List (List Nat × List Nat)
  | [], _ => []
  | o :: os, i => (unOf an ops.length i, winOf ops o i (unOf an ops.length i)) :: uwOf an ops os (i + 1)
def elabDraw (P : Program) (H : Hints) (ops : Array Oper) : Option (List AOper × List (List Nat × List Nat)) :=
  match elabOpers P H ops ops.toList, ancs ops.toList [] with
  | some os, some an => bif drawStat an os then some (os, uwOf an os os 0) else none
  | _, _ => none

/-- the loops' lists (slots and boxes that live at their heads), in the text's order; n: the frame's slots -/
def elabCode (P : Program) (H : Hints) (n : Nat) : Code → List (List Nat × List Nat) → Option (ACode × List (List Nat × List Nat))
  | .skip, ls => some (.skip, ls)
  | .region id ops false, ls => match elabOpers P H ops ops.toList with
    | some os => bif dstOk n os then some (.region id os, ls) else none
    | none => none
  | .region id ops true, ls => match elabDraw P H ops with
    | some (os, uw) => bif dstOk n os then some (.draw id os uw, ls) else none
    | none => none
  | .seq a b, ls => match elabCode P H n a ls with
    | some (x, ls) => match elabCode P H n b ls with
      | some (y, ls) => some (.seq x y, ls)
      | none => none
    | none => none
  | .cond c a b, ls => match elabOpd c, elabCode P H n a ls with
    | some c, some (x, ls) => match elabCode P H n b ls with
      | some (y, ls) => some (.cond c x y, ls)
      | none => none
    | _, _ => none
  | .block id a, ls => match elabCode P H n a ls with
    | some (x, ls) => some (.block id x, ls)
    | none => none
  | .loop a, ls => match ls with
    | (ks, kp) :: ls => match elabCode P H n a ls with
      | some (x, ls) => some (.loop ks kp x, ls)
      | none => none
    | [] => none
  | .exit id, ls => some (.exit id, ls)
  | .ret, ls => some (.ret, ls)
  | .scope a, ls => match elabCode P H n a ls with
    | some (x, ls) => some (.scope x, ls)
    | none => none
  | .label l, ls => some (.label l, ls)
  | .rangeFunc g _ _ _, ls => match elabOpd g with
    | some g => bif H.iters.all (fun x => callable P x.1) then some (.rangeF g H.iters, ls) else none
    | none => none
  | _, _ => none

def elabRes (P : Program) : List ResultVar → Option (List RVar)
  | [] => some []
  | .tmp t :: rs => match elabRes P rs with
    | some r => some (.t t :: r)
    | none => none
  | .cell a t :: rs => match aggSz P t, elabRes P rs with
    | some s, some r => some (.cell a s :: r)
    | _, _ => none
def elabF (P : Program) (H : Hints) (ls : List (List Nat × List Nat)) (f : FuncId) : Option AFn :=
  match P.funcs[f]? with
  | some fn => match fn.body with
    | some c => match elabCode P H fn.ntmps c ls, elabRes P fn.results.toList with
      | some (b, []), some rs => bif Nat.ble (fn.params.size + fn.nfree) fn.ntmps then some ⟨fn.params.size + fn.nfree, b, rs⟩ else none
      | _, _ => none
    | none => none
  | none => none
/-- of a function that recovers first of all: what it recovers lies in slot r -/
def elabD (P : Program) (H : Hints) (ls : List (List Nat × List Nat)) (f : FuncId) : Option (AFn × Nat) :=
  match P.funcs[f]? with
  | some fn => match fn.body with
    | some (.seq (.region id ops false) c) => match ops[0]? with
      | some (Oper.mk (some r) (.call (Call.mk (.builtin .recover) _ _)) _ _ _ none) =>
        match elabOpers P H ops (ops.toList.drop 1) with
        | some os => match elabCode P H fn.ntmps c ls with
          | some (b, []) => bif dstOk fn.ntmps os && Nat.blt r fn.ntmps && Nat.ble (fn.params.size + fn.nfree) fn.ntmps && fn.results.isEmpty then some (⟨fn.params.size + fn.nfree, .seq (.region id os) b, []⟩, r) else none
          | _ => none
        | none => none
      | _ => none
    | _ => none
  | none => none
end Cw
