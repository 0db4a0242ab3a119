/-
  The evaluator: a deterministic reading of the loaded code on an abstract heap. Definitions alone.
-/
import Derived.Orders
import Derived.Defers
import Derived.Recover
namespace Cw
open Go

/-! ## Finite maps with numbers as keys -/
inductive T (α : Type) where
  | nil : T α
  | node (l : T α) (v : Option α) (r : T α) : T α

namespace T
variable {α : Type}
def get : T α → Nat → Option α
  | .nil, _ => none
  | .node l v r, n => match n with
    | 0 => v
    | m + 1 => bif Nat.beq (m % 2) 0 then l.get (m / 2) else r.get (m / 2)
def lft : T α → T α | .nil => .nil | .node l _ _ => l
def rgt : T α → T α | .nil => .nil | .node _ _ r => r
def top : T α → Option α | .nil => none | .node _ v _ => v
def setF : Nat → T α → Nat → Option α → T α
  | 0, t, _, _ => t
  | f + 1, t, n, v => match n with
    | 0 => .node t.lft v t.rgt
    | m + 1 => bif Nat.beq (m % 2) 0 then .node (setF f t.lft (m / 2) v) t.top t.rgt else .node t.lft t.top (setF f t.rgt (m / 2) v)
def set (t : T α) (n : Nat) (v : Option α) : T α := setF (n + 1) t n v
def ofList : List α → Nat → T α → T α
  | [], _, t => t
  | x :: xs, k, t => ofList xs (k + 1) (t.set k (some x))
end T

/-! ## Abstract memory -/
inductive AObj where
  | cells (ro : Bool) (esz : Nat) (vs : List Value)
  | map (kvs : List (Value × Value))
  | raw (b : Nat) (cs : List Value) (t : TypeId) (fr : Nat × Nat)
structure AH where
  m : T AObj
  nx : Nat
inductive Res where
  | ret (v : Value)
  | pan (v : Value)
abbrev Spec := List Value → AH → Option (Res × AH)
/-- of a function of values without addresses: it asks nothing of the heap -/
abbrev PSpec := List Value → Option Res
/-- of a deferred call: the panic that is on its way (none: the frame returns), and what is left of it -/
abbrev DSpec := List Value → Option Value → AH → Option (Option Value × AH)

abbrev PB := T (List Value)
inductive ADef where
  | call (f : FuncId) (D : DSpec) (args : List Value)
  | mark

inductive Opd where
  | t (n : Nat)
  | c (v : Value)

inductive AOp where
  | mov | pick
  | box (priv : Option Nat)
  | alloc (priv : Option Nat) (zero : Value)
  | build (zero : List Value) (places : List (Nat × Nat))
  | bslice (priv : Option Nat) (esz : Nat) (n : Nat) (zero : List Value) (places : List (Nat × Nat))
  | load (sz : Option Nat)
  | store (sz : Nat)
  | nilc
  | bin (op : BinOp) (t : TypeId) (g1 g2 : Bool) (ck : Nat)
  | un (op : UnOp)
  | convI (k : IntKind) | convSame | convSB (e : TypeId) | convBS
  | faddr (off : Nat)
  | iaddrA (n esz : Nat) | iaddrS (esz : Nat)
  | fld (off : Nat) (sz : Option Nat)
  | idxA (n esz : Nat) (sz : Option Nat) | idxS
  | slS (lo hi : Bool) | slV (esz : Nat) (lo hi mx : Bool) | slA (n esz : Nat) (lo hi mx : Bool)
  | mkif (t : TypeId) | mkfn (f : FuncId) (nfirst : Nat)
  | mkmap | mkslice (esz bytes : Nat) (zero : List Value)
  | lookup (ks ok : Bool) (zero : Value) | mapupd (ks : Bool)
  | tass (t : TypeId) (ok : Bool) (zero : Value)
  | ext (i : Nat)
  | call (f : FuncId) (S : Spec) | pcall (f : FuncId) (S : PSpec) | callv (cs : List (FuncId × Spec))
  | lenS | lenV | lenA (n : Nat) | lenM
  | append (esz bytes : Nat) | appendS | copy (esz : Nat) | copyS
  | delete (ks : Bool) | clearV (zero : List Value) | minI | maxI
  | panic
  | defer (f : FuncId) (D : DSpec) | deferv (cs : List (FuncId × DSpec))

structure AOper where
  dst : Option Nat
  op : AOp
  args : List Opd
  guard : Option (Nat × Bool)

/-! ## Small words on values -/
/-- an address of the frame's own box ('spot' 0) -/
def isLoc : Value → Bool
  | .pointer (some ⟨_, _, some 0⟩) => true
  | .slice (some ⟨_, _, some 0⟩) _ _ => true
  | _ => false
mutual
/-- no address in it -/
def scal : Value → Bool
  | .bool _ | .int _ _ | .string _ | .nilFunc | .nilIface => true
  | .pointer a => a.isNone
  | .slice a n c => a.isNone && Nat.beq n 0 && Nat.beq c 0
  | .map r => r.isNone
  | .iface _ v => scal v
  | .agg ⟨vs⟩ => scalL vs
  | .tuple ⟨vs⟩ => scalL vs
  | _ => false
def scalL : List Value → Bool
  | [] => true
  | v :: vs => scal v && scalL vs
end
def cellsL : Value → List Value
  | .agg ⟨cs⟩ => cs
  | v => [v]
def oneCell : Value → Bool
  | .agg _ | .tuple _ => false
  | _ => true
def loc (k off : Nat) : Value := .pointer (some ⟨k, off, some 0⟩)
def strL : Value → Option (List UInt8)
  | .string ⟨⟨l⟩⟩ => some l
  | _ => none
def mkStr (l : List UInt8) : Value := .string ⟨⟨l⟩⟩

/-- what a term of the model comes to, where it asks nothing of the world -/
def pureRun {α : Type} (P : Program) : Sem α → Option α
  | .pure a => some a
  | .program k => pureRun P (k P)
  | _ => none

def setRange (cs : List Value) (off : Nat) : List Value → List Value
  | [] => cs
  | v :: vs => setRange (cs.set off v) (off + 1) vs
def putParts : List Value → List (Nat × Nat) → List Value → Option (List Value)
  | cs, [], [] => some cs
  | cs, (off, sz) :: ps, v :: vs =>
    let vc := cellsL v
    bif Nat.beq vc.length sz && Nat.ble (off + sz) cs.length && !isLoc v then putParts (setRange cs off vc) ps vs else none
  | _, _, _ => none
def getRange (cs : List Value) (off n : Nat) : Option (List Value) :=
  let r := (cs.drop off).take n
  bif Nat.beq r.length n then some r else none
def readCells (cs : List Value) (off : Nat) : Option Nat → Option Value
  | none => cs[off]?
  | some n => (getRange cs off n).map fun r => .agg ⟨r⟩

/-- the cells behind an address: of the frame's own box, or of the heap -/
def cellsAt (pb : PB) (h : AH) (a : Addr) : Option (List Value) :=
  match a.spot with
  | some 0 => pb.get a.block
  | some (_ + 1) => none
  | none => match h.m.get a.block with
    | some (.cells _ _ vs) => some vs
    | _ => none

def bytesLt : List UInt8 → List UInt8 → Bool
  | _, [] => false
  | [], _ :: _ => true
  | a :: x, b :: y => bif Nat.blt a.toNat b.toNat then true else (Nat.beq a.toNat b.toNat && bytesLt x y)
def bytesEq : List UInt8 → List UInt8 → Bool
  | [], [] => true
  | a :: x, b :: y => Nat.beq a.toNat b.toNat && bytesEq x y
  | _, _ => false

def evStr (op : BinOp) (x y : List UInt8) : Option Value :=
  match op with
  | .add => bif Nat.ble (x.length + y.length) 4611686018427387904 then some (mkStr (x ++ y)) else none
  | .eql => some (.bool (bytesEq x y))
  | .neq => some (.bool (!bytesEq x y))
  | .lss => some (.bool (bytesLt x y))
  | .leq => some (.bool (bytesLt x y || bytesEq x y))
  | .gtr => some (.bool (!(bytesLt x y || bytesEq x y)))
  | .geq => some (.bool (!bytesLt x y))
  | _ => none

def isEq : BinOp → Option Bool | .eql => some true | .neq => some false | _ => none
def scv : Option Value → Option Value
  | some v => bif scal v then some v else none
  | none => none

/-- two addresses on the heap: one and the same? (both objects must be there, and be the program's own) -/
def samePtr (h : AH) (a b : Addr) : Option Bool :=
  match a.spot, b.spot, h.m.get a.block, h.m.get b.block with
  | none, none, some (.cells false 0 _), some (.cells false 0 _) => some (Nat.beq a.block b.block && Nat.beq a.off b.off)
  | _, _, _, _ => none

/-- ck: what the type is: 1 an address of something, 2 a slice, 3 a map, 4 an interface, 0 something else -/
def evBin0 (P : Program) (h : AH) (op : BinOp) (t : TypeId) (g1 g2 : Bool) (ck : Nat) (x y : Value) : Option Value :=
  match x, y with
  | .string ⟨⟨a⟩⟩, .string ⟨⟨b⟩⟩ => evStr op a b
  | .pointer (some a), .pointer none | .pointer none, .pointer (some a) =>
    match Nat.beq ck 1, a.spot with | true, none => (isEq op).map fun e => .bool (!e) | _, _ => none
  | .pointer (some a), .pointer (some b) =>
    match Nat.beq ck 1, isEq op, samePtr h a b with
    | true, some e, some r => some (.bool (e == r))
    | _, _, _ => none
  | .nilIface, .iface _ _ | .iface _ _, .nilIface => bif Nat.beq ck 4 then (isEq op).map fun e => .bool (!e) else none
  | .slice (some a) _ _, .slice none _ _ | .slice none _ _, .slice (some a) _ _ =>
    bif Nat.beq ck 2 && !(isLoc (.slice (some a) 0 0)) then (isEq op).map fun e => .bool (!e) else none
  | .map (some _), .map none | .map none, .map (some _) => bif Nat.beq ck 3 then (isEq op).map fun e => .bool (!e) else none
  | .nilIface, .nilIface => bif g1 && Nat.beq ck 4 then (isEq op).map fun e => .bool e else none
  | .agg x, .agg y => bif g2 && scal (.agg x) && scal (.agg y) then scv (pureRun P (binOp op t (.agg x) (.agg y))) else none
  | x, y => bif scal x && scal y then scv (pureRun P (binOp op t x y)) else none

/-! ### Integers, as the kernel likes them -/
def forceN {α : Type} (n : Nat) (k : Nat → α) : α :=
  match n with
  | 0 => k 0
  | m + 1 => k (m + 1)
def intLt : Int → Int → Bool
  | .ofNat m, .ofNat n => Nat.blt m n
  | .ofNat _, .negSucc _ => false
  | .negSucc _, .ofNat _ => true
  | .negSucc m, .negSucc n => Nat.blt n m
def intEq : Int → Int → Bool
  | .ofNat m, .ofNat n => Nat.beq m n
  | .negSucc m, .negSucc n => Nat.beq n m
  | _, _ => false
def kidx : IntKind → Nat
  | .i8 => 0 | .i16 => 1 | .i32 => 2 | .i64 => 3 | .u8 => 4 | .u16 => 5 | .u32 => 6 | .u64 => 7
def kindEq (a b : IntKind) : Bool := Nat.beq (kidx a) (kidx b)
/-- an integer that fits is itself -/
def wrapF (k : IntKind) (n : Int) : Int :=
  match k, n with
  | .i64, .ofNat m => forceN m fun m => bif Nat.blt m 9223372036854775808 then .ofNat m else k.wrap n
  | .u8, .ofNat m => forceN m fun m => bif Nat.blt m 256 then .ofNat m else k.wrap n
  | _, _ => k.wrap n
def addF : Int → Int → Int
  | .ofNat m, .ofNat n => .ofNat (m + n)
  | a, b => a + b
def subF : Int → Int → Int
  | .ofNat m, .ofNat n => bif Nat.ble n m then .ofNat (m - n) else .ofNat m - .ofNat n
  | a, b => a - b
def mulF : Int → Int → Int
  | .ofNat m, .ofNat n => .ofNat (m * n)
  | a, b => a * b
def evInt (op : BinOp) (k : IntKind) (a : Int) (j : IntKind) (b : Int) : Option Value :=
  bif kindEq k j then (match op with
    | .add => some (.int k (wrapF k (addF a b)))
    | .sub => some (.int k (wrapF k (subF a b)))
    | .mul => some (.int k (wrapF k (mulF a b)))
    | .eql => some (.bool (intEq a b))
    | .neq => some (.bool (!intEq a b))
    | .lss => some (.bool (intLt a b))
    | .leq => some (.bool (!intLt b a))
    | .gtr => some (.bool (intLt b a))
    | .geq => some (.bool (!intLt a b))
    | .quo => match a, b with
      | .ofNat m, .ofNat (n + 1) => some (.int k (wrapF k (.ofNat (m / (n + 1)))))
      | _, _ => none
    | .rem => match a, b with
      | .ofNat m, .ofNat (n + 1) => forceN (m % (n + 1)) fun r => some (.int k (.ofNat r))
      | _, _ => none
    | _ => none) else none
/-- two structs of integers, strings and bools, field by field -/
def eqFlat (P : Program) (xs ys : List Value) : List Field → Option Bool
  | [] => some true
  | f :: fs => bif f.name != "_" && (P.info? f.type).isSome then
    match eqFlat P xs ys fs, P.underlying f.type, xs[f.offset]?, ys[f.offset]? with
    | some r, some (.int _), some (.int k a), some (.int j b) => bif kindEq k j then some (intEq a b && r) else none
    | some r, some .string, some (.string ⟨⟨a⟩⟩), some (.string ⟨⟨b⟩⟩) => some (bytesEq a b && r)
    | some r, some .bool, some (.bool a), some (.bool b) => some ((bif a then b else !b) && r)
    | _, _, _, _ => none
    else none
def evFlat (P : Program) (t : TypeId) (xs ys : List Value) : Option Bool :=
  match P.underlying t with
  | some (.struct fs) => bif P.stoodInHeld t then none else eqFlat P xs ys fs.toList
  | _ => none
def evBin (P : Program) (h : AH) (op : BinOp) (t : TypeId) (g1 g2 : Bool) (ck : Nat) (x y : Value) : Option Value :=
  match x, y with
  | .int k a, .int j b => match evInt op k a j b with
    | some v => some v
    | none => evBin0 P h op t g1 g2 ck (.int k a) (.int j b)
  | .agg ⟨a⟩, .agg ⟨b⟩ => match isEq op, (bif g2 then evFlat P t a b else none) with
    | some e, some r => some (.bool (bif e then r else !r))
    | _, _ => evBin0 P h op t g1 g2 ck (.agg ⟨a⟩) (.agg ⟨b⟩)
  | x, y => evBin0 P h op t g1 g2 ck x y

def intOf : Value → Option Int | .int _ n => some n | _ => none
def natLt (i : Int) (n : Nat) : Option Nat := bif decide (0 ≤ i) && decide (i < (n : Int)) then some i.toNat else none
def natLe (i : Int) (n : Nat) : Option Nat := bif decide (0 ≤ i) && decide (i ≤ (n : Int)) then some i.toNat else none

/-- the bounds of a cut: low, high, max (each maybe there), of length n; lim: no bound goes beyond -/
def cut1 (v : Option Value) (dflt below : Nat) : Option Nat :=
  match v with
  | none => some dflt
  | some (.int _ i) => natLe i below
  | _ => none
def cuts (n lim : Nat) (lo hi mx : Option Value) : Option (Nat × Nat × Nat) :=
  match cut1 mx lim lim with
  | none => none
  | some m => match cut1 hi n m with
    | none => none
    | some k => match cut1 lo 0 k with
      | none => none
      | some l => some (l, k, m)
def optsOf (lo hi mx : Bool) (vs : List (Option Value)) : Option (Option Value × Option Value × Option Value) :=
  match lo, hi, mx, vs with
  | false, false, false, [] => some (none, none, none)
  | true, false, false, [some a] => some (some a, none, none)
  | false, true, false, [some b] => some (none, some b, none)
  | true, true, false, [some a, some b] => some (some a, some b, none)
  | false, true, true, [some b, some c] => some (none, some b, some c)
  | true, true, true, [some a, some b, some c] => some (some a, some b, some c)
  | _, _, _, _ => none

def alloc (h : AH) (o : AObj) : AH := ⟨h.m.set h.nx (some o), h.nx + 1⟩

def sameKey : Value → Value → Option Bool
  | .int a x, .int b y => bif decide (a = b) then some (decide (x = y)) else none
  | .string ⟨⟨x⟩⟩, .string ⟨⟨y⟩⟩ => some (bytesEq x y)
  | _, _ => none
def findKV (k : Value) : List (Value × Value) → Option (Option Value)
  | [] => some none
  | (k', v) :: r =>
    match sameKey k k' with
    | some true => some (some v)
    | some false => findKV k r
    | none => none
def setKV (k v : Value) : List (Value × Value) → List (Value × Value)
  | [] => [(k, v)]
  | (k', v') :: r =>
    match sameKey k k' with
    | some true => (k, v) :: r
    | _ => (k', v') :: setKV k v r
def delKV (k : Value) : List (Value × Value) → List (Value × Value)
  | [] => []
  | (k', v') :: r =>
    match sameKey k k' with
    | some true => r
    | _ => (k', v') :: delKV k r
/-- ks: the map's keys are strings; else they are integers -/
def keyOk (ks : Bool) : Value → Bool | .int _ _ => !ks | .string _ => ks | _ => false

def allSome : List (Option Value) → Option (List Value)
  | [] => some []
  | none :: _ => none
  | some v :: r => match allSome r with
    | some vs => some (v :: vs)
    | none => none
def intsOf : List (Option Value) → Option (List Int)
  | [] => some []
  | some (.int _ n) :: r => match intsOf r with
    | some ns => some (n :: ns)
    | none => none
  | _ => none
def minL (x : Int) : List Int → Int
  | [] => x
  | y :: ys => minL (bif decide (y < x) then y else x) ys
def maxL (x : Int) : List Int → Int
  | [] => x
  | y :: ys => maxL (bif decide (x < y) then y else x) ys
def bytesOf : List Value → Option (List UInt8)
  | [] => some []
  | .int .u8 n :: r => match bytesOf r with
    | some bs => some (UInt8.ofNat n.toNat :: bs)
    | none => none
  | _ => none

def tassV (t : TypeId) (ok : Bool) (z : Value) : Value → Option Value
  | .nilIface => bif ok then some (.tuple ⟨[z, .bool false]⟩) else none
  | .iface u v => bif Nat.beq u t then some (bif ok then .tuple ⟨[v, .bool true]⟩ else v)
      else bif ok then some (.tuple ⟨[z, .bool false]⟩) else none
  | _ => none
def sizeMax : Nat := 2147483648

inductive OR where
  | ok (v : Option Value) (pb : PB) (h : AH)
  | pan (v : Value) (h : AH)
  | dfr (d : ADef)

def ofRes (pb : PB) : Option (Res × AH) → Option OR
  | some (.ret v, h) => some (.ok (some v) pb h)
  | some (.pan v, h) => some (.pan v h)
  | none => none
def noLocs : List Value → Bool
  | [] => true
  | v :: vs => !isLoc v && noLocs vs
def findF (f : FuncId) : List (FuncId × Spec) → Option Spec
  | [] => none
  | (g, S) :: r => bif Nat.beq f g then some S else findF f r

def findD (f : FuncId) : List (FuncId × DSpec) → Option DSpec
  | [] => none
  | (g, S) :: r => bif Nat.beq f g then some S else findD f r

/-- the cells that a slice shows -/
def sliceCells (pb : PB) (h : AH) (esz : Nat) : Value → Option (List Value)
  | .slice none _ _ => some []
  | .slice (some a) n _ => bif Nat.beq n 0 then some [] else match cellsAt pb h a with
    | some vs => getRange vs a.off (n * esz)
    | none => none
  | _ => none

def evAppend (pb : PB) (h : AH) (esz bytes : Nat) (s : Value) (new : List Value) (k : Nat) : Option OR :=
  -- k: how many elements; new: their cells
  match s with
  | .slice none _ _ => bif Nat.beq k 0 then some (.ok (some (.slice none 0 0)) pb h) else
      bif Nat.ble (k * bytes) 140737488355328 then some (.ok (some (.slice (some ⟨h.nx, 0, none⟩) k 0)) pb (alloc h (.cells false esz new))) else none
  | .slice (some a) n c =>
    match a.spot with
    | some 0 => none
    | _ =>
      bif Nat.beq k 0 then some (.ok (some s) pb h) else
      match h.m.get a.block with
      | some (.cells ro esz' vs) =>
        match getRange vs a.off (n * esz) with
        | none => none
        | some old =>
          bif Nat.ble ((n + k) * bytes) 140737488355328 then
            bif Nat.blt 0 c && Nat.blt (c - 1) (n + k) then
              some (.ok (some (.slice (some ⟨h.nx, 0, none⟩) (n + k) 0)) pb (alloc h (.cells false esz (old ++ new))))
            else
              bif !ro && Nat.beq esz esz' && Nat.beq (a.off + n * esz) vs.length && new.all oneCell then
                some (.ok (some (.slice (some ⟨h.nx, 0, none⟩) (n + k) 0)) pb (alloc ⟨h.m.set a.block none, h.nx⟩ (.cells false esz (old ++ new))))
              else none
          else none
      | _ => none
  | _ => none

def valO (pb : PB) (h : AH) (v : Option Value) : Option OR := match v with | some v => some (.ok (some v) pb h) | none => none
def k_mov (_P : Program) (xs : List (Option Value)) (pb : PB) (h : AH) : Option OR :=
  match xs with
  | [x] => some (.ok x pb h)

  | _ => none
def k_pick (_P : Program) (xs : List (Option Value)) (pb : PB) (h : AH) : Option OR :=
  match xs with
  | [some (.bool c), a, b] => some (.ok (bif c then a else b) pb h)

  | _ => none
def k_box (priv : Option Nat) (_P : Program) (xs : List (Option Value)) (pb : PB) (h : AH) : Option OR :=
  match priv, xs with
  | none, [some v] => bif isLoc v then none else some (.ok (some (.pointer (some ⟨h.nx, 0, none⟩))) pb (alloc h (.cells false 0 (cellsL v))))

  | some k, [some v] => bif isLoc v then none else match pb.get k with
    | none => some (.ok (some (loc k 0)) (pb.set k (some (cellsL v))) h)
    | some _ => none
  | _, _ => none
def k_alloc (priv : Option Nat) (z : Value) (_P : Program) (xs : List (Option Value)) (pb : PB) (h : AH) : Option OR :=
  match priv, xs with
  | none, [] => some (.ok (some (.pointer (some ⟨h.nx, 0, none⟩))) pb (alloc h (.cells false 0 (cellsL z))))

  | some k, [] => match pb.get k with
    | none => some (.ok (some (loc k 0)) (pb.set k (some (cellsL z))) h)
    | some _ => none
  | _, _ => none
def k_build (z : List Value) (ps : List (Nat × Nat)) (_P : Program) (xs : List (Option Value)) (pb : PB) (h : AH) : Option OR :=
  match xs with
  | xs => match allSome xs with
    | some vs => valO pb h ((putParts z ps vs).map fun cs => Value.agg ⟨cs⟩)
    | none => none
def k_bslice (pr : Option Nat) (esz : Nat) (n : Nat) (z : List Value) (ps : List (Nat × Nat)) (_P : Program) (xs : List (Option Value)) (pb : PB) (h : AH) : Option OR :=
  match xs with
  | xs => match allSome xs with
    | some vs => match putParts z ps vs with
      | some cs => match pr with
        | none => some (.ok (some (.slice (some ⟨h.nx, 0, none⟩) n (n + 1))) pb (alloc h (.cells false esz cs)))
        | some k => match pb.get k with
          | none => some (.ok (some (.slice (some ⟨k, 0, some 0⟩) n (n + 1))) (pb.set k (some cs)) h)
          | some _ => none
      | none => none
    | none => none
def k_load (sz : Option Nat) (_P : Program) (xs : List (Option Value)) (pb : PB) (h : AH) : Option OR :=
  match xs with
  | [some (.pointer (some a))] => match cellsAt pb h a with
    | some vs => valO pb h (readCells vs a.off sz)
    | none => none
  | _ => none
def k_store (sz : Nat) (_P : Program) (xs : List (Option Value)) (pb : PB) (h : AH) : Option OR :=
  match xs with
  | [some (.pointer (some a)), some v] =>
    let cs := cellsL v
    bif Nat.beq cs.length sz && !isLoc v && cs.all oneCell then
      match a.spot with
      | some (_ + 1) => none
      | some 0 => match pb.get a.block with
        | some vs => bif Nat.ble (a.off + sz) vs.length then some (.ok none (pb.set a.block (some (setRange vs a.off cs))) h) else none
        | none => none
      | none => match h.m.get a.block with
        | some (.cells false esz vs) => bif Nat.ble (a.off + sz) vs.length then some (.ok none pb ⟨h.m.set a.block (some (.cells false esz (setRange vs a.off cs))), h.nx⟩) else none
        | _ => none
    else none
  | _ => none
def k_nilc (_P : Program) (xs : List (Option Value)) (pb : PB) (h : AH) : Option OR :=
  match xs with
  | [some v] => match v with
    | .pointer (some _) => valO pb h (some v)
    | .func (.func _) _ _ => valO pb h (some v)
    | _ => none
  | _ => none
def k_bin (op : BinOp) (t : TypeId) (g1 : Bool) (g2 : Bool) (ck : Nat) (P : Program) (xs : List (Option Value)) (pb : PB) (h : AH) : Option OR :=
  match xs with
  | [some x, some y] => valO pb h (evBin P h op t g1 g2 ck x y)

  | _ => none
def k_un (op : UnOp) (P : Program) (xs : List (Option Value)) (pb : PB) (h : AH) : Option OR :=
  match xs with
  | [some x] => match x with
    | .int _ _ | .bool _ => valO pb h (scv (pureRun P (Op.unary op x)))
    | _ => none
  | _ => none
def k_convI (k : IntKind) (_P : Program) (xs : List (Option Value)) (pb : PB) (h : AH) : Option OR :=
  match xs with
  | [some (.int _ n)] => valO pb h (some (.int k (k.wrap n)))

  | _ => none
def k_convSame (_P : Program) (xs : List (Option Value)) (pb : PB) (h : AH) : Option OR :=
  match xs with
  | [some (.string s)] => valO pb h (some (.string s))

  | _ => none
def k_convSB (_e : TypeId) (_P : Program) (xs : List (Option Value)) (pb : PB) (h : AH) : Option OR :=
  match xs with
  | [some (.string ⟨⟨l⟩⟩)] => bif Nat.ble l.length sizeMax then
      some (.ok (some (.slice (some ⟨h.nx, 0, none⟩) l.length 0)) pb (alloc h (.cells false 1 (l.map fun b => Value.int .u8 b.toNat)))) else none
  | _ => none
def k_convBS (_P : Program) (xs : List (Option Value)) (pb : PB) (h : AH) : Option OR :=
  match xs with
  | [some s] => match sliceCells pb h 1 s with
    | some cs => valO pb h ((bytesOf cs).map mkStr)
    | none => none
  | _ => none
def k_faddr (off : Nat) (_P : Program) (xs : List (Option Value)) (pb : PB) (h : AH) : Option OR :=
  match xs with
  | [some (.pointer (some a))] => valO pb h (some (.pointer (some { a with off := a.off + off })))

  | _ => none
def k_iaddrA (n : Nat) (esz : Nat) (_P : Program) (xs : List (Option Value)) (pb : PB) (h : AH) : Option OR :=
  match xs with
  | [some (.pointer (some a)), some i] => match intOf i with
    | some i => (natLt i n).bind fun i => valO pb h (some (.pointer (some { a with off := a.off + i * esz })))
    | none => none
  | _ => none
def k_iaddrS (esz : Nat) (_P : Program) (xs : List (Option Value)) (pb : PB) (h : AH) : Option OR :=
  match xs with
  | [some (.slice (some a) n _), some i] => match intOf i with
    | some i => (natLt i n).bind fun i => valO pb h (some (.pointer (some { a with off := a.off + i * esz })))
    | none => none
  | _ => none
def k_fld (off : Nat) (sz : Option Nat) (_P : Program) (xs : List (Option Value)) (pb : PB) (h : AH) : Option OR :=
  match xs with
  | [some (.agg ⟨cs⟩)] => valO pb h (readCells cs off sz)

  | _ => none
def k_idxA (n : Nat) (esz : Nat) (sz : Option Nat) (_P : Program) (xs : List (Option Value)) (pb : PB) (h : AH) : Option OR :=
  match xs with
  | [some (.agg ⟨cs⟩), some i] => match intOf i with
    | some i => (natLt i n).bind fun i => valO pb h (readCells cs (i * esz) sz)
    | none => none
  | _ => none
def k_idxS (_P : Program) (xs : List (Option Value)) (pb : PB) (h : AH) : Option OR :=
  match xs with
  | [some (.string ⟨⟨l⟩⟩), some i] => match intOf i with
    | some i => (natLt i l.length).bind fun i => match l[i]? with
      | some b => valO pb h (some (.int .u8 b.toNat))
      | none => none
    | none => none
  | _ => none
def k_slS (lo : Bool) (hi : Bool) (_P : Program) (xs : List (Option Value)) (pb : PB) (h : AH) : Option OR :=
  match xs with
  | some (.string ⟨⟨l⟩⟩) :: bs => match optsOf lo hi false bs with
    | some (a, b, _) => match cuts l.length l.length a b none with
      | some (lk, hk, _) => valO pb h (some (mkStr ((l.drop lk).take (hk - lk))))
      | none => none
    | none => none
  | _ => none
def k_slV (esz : Nat) (lo : Bool) (hi : Bool) (mx : Bool) (_P : Program) (xs : List (Option Value)) (pb : PB) (h : AH) : Option OR :=
  match xs with
  | some (.slice a n c) :: bs => match optsOf lo hi mx bs with
    | none => none
    | some (x, y, z) => match a with
      | none => match cuts 0 0 x y z with
        | some _ => valO pb h (some (.slice none 0 0))
        | none => none
      | some a => match cuts n (bif Nat.beq c 0 then n else c - 1) x y z with
        | none => none
        | some (l, k, m) => match a.spot with
          | some 0 => bif Nat.beq c 0 then none else
            valO pb h (some (.slice (some { a with off := bif Nat.beq m l then a.off else a.off + l * esz }) (k - l) (m - l + 1)))
          | some (_ + 1) => bif mx then none else valO pb h (some (.slice (some a) 0 0))
          | none => match h.m.get a.block with
            | some (.cells _ e vs) => bif (Nat.beq e esz || Nat.beq e 0) && Nat.ble (a.off + n * esz) vs.length && Nat.ble l n then
                bif mx || Nat.blt 0 c then
                  valO pb h (some (.slice (some { a with off := bif Nat.beq m l then a.off else a.off + l * esz }) (k - l) (m - l + 1)))
                else bif Nat.beq l n then
                  bif Nat.beq e esz then valO pb h (some (.slice (some ⟨a.block, a.off + l * esz, some 1⟩) 0 0)) else none
                else valO pb h (some (.slice (some { a with off := a.off + l * esz }) (k - l) 0))
              else none
            | _ => none
  | _ => none
def k_slA (n : Nat) (esz : Nat) (lo : Bool) (hi : Bool) (mx : Bool) (_P : Program) (xs : List (Option Value)) (pb : PB) (h : AH) : Option OR :=
  match xs with
  | some (.pointer (some a)) :: bs => match optsOf lo hi mx bs, cellsAt pb h a with
    | some (x, y, z), some vs => match cuts n n x y z with
      | some (l, k, m) => bif Nat.ble (a.off + n * esz) vs.length && (match a.spot, h.m.get a.block with
          | none, some (.cells _ e _) => Nat.beq e 0
          | some 0, _ => true
          | _, _ => false) then
          valO pb h (some (.slice (some { a with off := bif Nat.beq m l then a.off else a.off + l * esz }) (k - l) (m - l + 1)))
        else none
      | none => none
    | _, _ => none
  | _ => none
def k_mkif (t : TypeId) (_P : Program) (xs : List (Option Value)) (pb : PB) (h : AH) : Option OR :=
  match xs with
  | [some v] => bif isLoc v then none else valO pb h (some (.iface t v))

  | _ => none
def k_mkfn (f : FuncId) (k : Nat) (_P : Program) (xs : List (Option Value)) (pb : PB) (h : AH) : Option OR :=
  match xs with
  | xs => match allSome xs with
    | some vs => bif noLocs vs then valO pb h (some (.func (.func f) ⟨vs.take k⟩ ⟨vs.drop k⟩)) else none
    | none => none
def k_mkmap (_P : Program) (xs : List (Option Value)) (pb : PB) (h : AH) : Option OR :=
  match xs with
  | [] => some (.ok (some (.map (some h.nx))) pb (alloc h (.map [])))

  | _ => none
def k_mkslice (esz : Nat) (bytes : Nat) (z : List Value) (_P : Program) (xs : List (Option Value)) (pb : PB) (h : AH) : Option OR :=
  match xs with
  | [some (.int _ l), some (.int _ c)] =>
    bif decide (0 ≤ l) && decide (l ≤ c) && decide (c * bytes ≤ 2147483648) && decide (c ≤ 2147483648) then
      some (.ok (some (.slice (some ⟨h.nx, 0, none⟩) l.toNat (c.toNat + 1))) pb (alloc h (.cells false esz ((List.replicate l.toNat z).flatten))))
    else none
  | _ => none
def k_lookup (ks : Bool) (ok : Bool) (z : Value) (_P : Program) (xs : List (Option Value)) (pb : PB) (h : AH) : Option OR :=
  match xs with
  | [some m, some k] => bif keyOk ks k then match (match m with
      | .map none => some none
      | .map (some r) => match h.m.get r with
        | some (.map kvs) => findKV k kvs
        | _ => none
      | _ => none : Option (Option Value)) with
    | none => none
    | some (some v) => valO pb h (some (bif ok then .tuple ⟨[v, .bool true]⟩ else v))
    | some none => valO pb h (some (bif ok then .tuple ⟨[z, .bool false]⟩ else z))
    else none
  | _ => none
def k_mapupd (ks : Bool) (_P : Program) (xs : List (Option Value)) (pb : PB) (h : AH) : Option OR :=
  match xs with
  | [some (.map (some r)), some k, some v] => bif keyOk ks k && !isLoc v then
    match h.m.get r with
    | some (.map kvs) => match findKV k kvs with
      | none => none
      | some _ => some (.ok none pb ⟨h.m.set r (some (.map (setKV k v kvs))), h.nx⟩)
    | _ => none
    else none
  | _ => none
def k_tass (t : TypeId) (ok : Bool) (z : Value) (_P : Program) (xs : List (Option Value)) (pb : PB) (h : AH) : Option OR :=
  match xs with
  | [some x] => valO pb h (tassV t ok z x)

  | _ => none
def k_ext (i : Nat) (_P : Program) (xs : List (Option Value)) (pb : PB) (h : AH) : Option OR :=
  match xs with
  | [some (.tuple ⟨vs⟩)] => valO pb h (vs[i]?)

  | _ => none
def k_call (_f : FuncId) (S : Spec) (_P : Program) (xs : List (Option Value)) (pb : PB) (h : AH) : Option OR :=
  match xs with
  | xs => match allSome xs with
    | some vs => bif noLocs vs then ofRes pb (S vs h) else none
    | none => none
def k_pcall (_f : FuncId) (S : PSpec) (_P : Program) (xs : List (Option Value)) (pb : PB) (h : AH) : Option OR :=
  match xs with
  | xs => match allSome xs with
    | some vs => bif scalL vs then (match S vs with
      | some r => ofRes pb (some (r, h))
      | none => none) else none
    | none => none
def k_callv (cs : List (FuncId × Spec)) (_P : Program) (xs : List (Option Value)) (pb : PB) (h : AH) : Option OR :=
  match xs with
  | some (.func (.func f) ⟨first⟩ ⟨cap⟩) :: xs => match allSome xs with
    | some vs => bif noLocs vs then (match findF f cs with
      | some S => ofRes pb (S (first ++ vs ++ cap) h)
      | none => none) else none
    | none => none
  | _ => none
def k_lenS (_P : Program) (xs : List (Option Value)) (pb : PB) (h : AH) : Option OR :=
  match xs with
  | [some (.string ⟨⟨l⟩⟩)] => valO pb h (some (.int .i64 l.length))

  | _ => none
def k_lenV (_P : Program) (xs : List (Option Value)) (pb : PB) (h : AH) : Option OR :=
  match xs with
  | [some (.slice _ n _)] => valO pb h (some (.int .i64 n))

  | _ => none
def k_lenA (n : Nat) (_P : Program) (xs : List (Option Value)) (pb : PB) (h : AH) : Option OR :=
  match xs with
  | [_] => valO pb h (some (.int .i64 n))

  | _ => none
def k_lenM (_P : Program) (xs : List (Option Value)) (pb : PB) (h : AH) : Option OR :=
  match xs with
  | [some m] => match m with
    | .map none => valO pb h (some (.int .i64 0))
    | .map (some r) => match h.m.get r with
      | some (.map kvs) => valO pb h (some (.int .i64 kvs.length))
      | _ => none
    | _ => none
  | _ => none
def k_append (esz : Nat) (bytes : Nat) (_P : Program) (xs : List (Option Value)) (pb : PB) (h : AH) : Option OR :=
  match xs with
  | [some s, some x] => match sliceCells pb h esz x, x with
    | some new, .slice _ k _ => evAppend pb h esz bytes s new k
    | _, _ => none
  | _ => none
def k_appendS (_P : Program) (xs : List (Option Value)) (pb : PB) (h : AH) : Option OR :=
  match xs with
  | [some s, some (.string ⟨⟨l⟩⟩)] => evAppend pb h 1 1 s (l.map fun b => Value.int .u8 b.toNat) l.length

  | _ => none
def k_copy (esz : Nat) (_P : Program) (xs : List (Option Value)) (pb : PB) (h : AH) : Option OR :=
  match xs with
  | [some (.slice d n _), some (.slice a k c)] =>
    let j := Nat.min k n
    match sliceCells pb h esz (.slice a k c) with
    | none => none
    | some src => match d with
      | none => valO pb h (some (.int .i64 0))
      | some d => match d.spot, h.m.get d.block with
        | none, some (.cells false e vs) => bif Nat.ble (d.off + j * esz) vs.length && src.all oneCell then
            some (.ok (some (.int .i64 j)) pb ⟨h.m.set d.block (some (.cells false e (setRange vs d.off (src.take (j * esz))))), h.nx⟩) else none
        | _, _ => none
  | _ => none
def k_copyS (_P : Program) (xs : List (Option Value)) (pb : PB) (h : AH) : Option OR :=
  match xs with
  | [some (.slice d n _), some (.string ⟨⟨l⟩⟩)] =>
    let j := Nat.min l.length n
    match d with
      | none => valO pb h (some (.int .i64 0))
      | some d => match d.spot, h.m.get d.block with
        | none, some (.cells false e vs) => bif Nat.ble (d.off + j) vs.length then
            some (.ok (some (.int .i64 j)) pb ⟨h.m.set d.block (some (.cells false e (setRange vs d.off ((l.take j).map fun b => Value.int .u8 b.toNat)))), h.nx⟩) else none
        | _, _ => none
  | _ => none
def k_delete (ks : Bool) (_P : Program) (xs : List (Option Value)) (pb : PB) (h : AH) : Option OR :=
  match xs with
  | [some (.map (some r)), some k] => bif keyOk ks k then
    match h.m.get r with
    | some (.map kvs) => match findKV k kvs with
      | none => none
      | some _ => some (.ok none pb ⟨h.m.set r (some (.map (delKV k kvs))), h.nx⟩)
    | _ => none
    else none
  | _ => none
def k_clearV (z : List Value) (_P : Program) (xs : List (Option Value)) (pb : PB) (h : AH) : Option OR :=
  match xs with
  | [some (.slice d n _)] => match d with
    | none => some (.ok none pb h)
    | some d => match d.spot, h.m.get d.block with
      | none, some (.cells false e vs) => bif Nat.ble (d.off + n * z.length) vs.length && z.all oneCell then
          some (.ok none pb ⟨h.m.set d.block (some (.cells false e (setRange vs d.off ((List.replicate n z).flatten)))), h.nx⟩) else none
      | _, _ => none
  | _ => none
def k_minI (_P : Program) (xs : List (Option Value)) (pb : PB) (h : AH) : Option OR :=
  match xs with
  | some (.int k x) :: ys => valO pb h ((intsOf ys).map fun ns => Value.int k (minL x ns))

  | _ => none
def k_maxI (_P : Program) (xs : List (Option Value)) (pb : PB) (h : AH) : Option OR :=
  match xs with
  | some (.int k x) :: ys => valO pb h ((intsOf ys).map fun ns => Value.int k (maxL x ns))

  | _ => none
def k_panic (_P : Program) (xs : List (Option Value)) (_pb : PB) (h : AH) : Option OR :=
  match xs with
  | [some v] => match v with
    | .iface _ _ => some (.pan v h)
    | _ => none
  | _ => none
def k_defer (f : FuncId) (D : DSpec) (_P : Program) (xs : List (Option Value)) (_pb : PB) (_h : AH) : Option OR :=
  match xs with
  | xs => match allSome xs with
    | some vs => bif noLocs vs then some (.dfr (.call f D vs)) else none
    | none => none
def k_deferv (cs : List (FuncId × DSpec)) (_P : Program) (xs : List (Option Value)) (_pb : PB) (_h : AH) : Option OR :=
  match xs with
  | some (.func (.func f) ⟨first⟩ ⟨cap⟩) :: xs => match allSome xs with
    | some vs => bif noLocs vs then (match findD f cs with
      | some D => some (.dfr (.call f D (first ++ vs ++ cap)))
      | none => none) else none
    | none => none
  | _ => none
def evM (P : Program) (op : AOp) (xs : List (Option Value)) (pb : PB) (h : AH) : Option OR :=
  (match op with
  | .mov => k_mov
  | .pick => k_pick
  | .box priv => k_box priv
  | .alloc priv zero => k_alloc priv zero
  | .build zero places => k_build zero places
  | .bslice priv esz n zero places => k_bslice priv esz n zero places
  | .load sz => k_load sz
  | .store sz => k_store sz
  | .nilc => k_nilc
  | .bin op t g1 g2 ck => k_bin op t g1 g2 ck
  | .un op => k_un op
  | .convI k => k_convI k
  | .convSame => k_convSame
  | .convSB e => k_convSB e
  | .convBS => k_convBS
  | .faddr off => k_faddr off
  | .iaddrA n esz => k_iaddrA n esz
  | .iaddrS esz => k_iaddrS esz
  | .fld off sz => k_fld off sz
  | .idxA n esz sz => k_idxA n esz sz
  | .idxS => k_idxS
  | .slS lo hi => k_slS lo hi
  | .slV esz lo hi mx => k_slV esz lo hi mx
  | .slA n esz lo hi mx => k_slA n esz lo hi mx
  | .mkif t => k_mkif t
  | .mkfn f nfirst => k_mkfn f nfirst
  | .mkmap => k_mkmap
  | .mkslice esz bytes zero => k_mkslice esz bytes zero
  | .lookup ks ok zero => k_lookup ks ok zero
  | .mapupd ks => k_mapupd ks
  | .tass t ok zero => k_tass t ok zero
  | .ext i => k_ext i
  | .call f S => k_call f S
  | .pcall f S => k_pcall f S
  | .callv cs => k_callv cs
  | .lenS => k_lenS
  | .lenV => k_lenV
  | .lenA n => k_lenA n
  | .lenM => k_lenM
  | .append esz bytes => k_append esz bytes
  | .appendS => k_appendS
  | .copy esz => k_copy esz
  | .copyS => k_copyS
  | .delete ks => k_delete ks
  | .clearV zero => k_clearV zero
  | .minI => k_minI
  | .maxI => k_maxI
  | .panic => k_panic
  | .defer f D => k_defer f D
  | .deferv cs => k_deferv cs : Program → List (Option Value) → PB → AH → Option OR) P xs pb h
/-- the same, as the kernel likes it -/
def evMf (P : Program) (op : AOp) : List (Option Value) → PB → AH → Option OR :=
  AOp.casesOn (motive := fun _ => Program → List (Option Value) → PB → AH → Option OR) op k_mov k_pick k_box k_alloc k_build k_bslice k_load k_store k_nilc k_bin k_un k_convI k_convSame k_convSB k_convBS k_faddr k_iaddrA k_iaddrS k_fld k_idxA
    k_idxS k_slS k_slV k_slA k_mkif k_mkfn k_mkmap k_mkslice k_lookup k_mapupd k_tass k_ext k_call k_pcall k_callv k_lenS k_lenV k_lenA k_lenM k_append k_appendS k_copy k_copyS k_delete k_clearV k_minI k_maxI k_panic k_defer k_deferv P
theorem evMf_eq (P : Program) (op : AOp) (xs : List (Option Value)) (pb : PB) (h : AH) : evMf P op xs pb h = evM P op xs pb h := by
  cases op <;> rfl
end Cw
