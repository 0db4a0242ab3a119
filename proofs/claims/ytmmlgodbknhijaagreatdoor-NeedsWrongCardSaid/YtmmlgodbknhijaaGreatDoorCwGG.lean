/-
  The functions that the closed run comes to: their code for the evaluator, and that it is theirs.
-/
import Derived.Test.YtmmlgodbknhijaaGreatDoorCwGF
namespace CwT
open Go Cw
set_option maxRecDepth 100000
noncomputable section
def c193 : AFn := ⟨2, (.seq (.region 0 [⟨(some 4), .mov, [.c (mkStr [])], none⟩])
  (.seq (.region 1 [⟨(some 8), .mov, [.t 0], none⟩, ⟨(some 9), .mov, [.t 1], none⟩, ⟨(some 10), .call 67 s67, [.t 8, .t 9], none⟩, ⟨(some 7), .mov, [.t 10], none⟩, ⟨(some 11), .ext 0, [.t 7], none⟩, ⟨(some 12), .ext 1, [.t 7], none⟩, ⟨(some 5), .mov, [.t 11], none⟩, ⟨(some 6), .mov, [.t 12], none⟩])
  (.seq (.seq (.region 2 [⟨(some 13), .mov, [.t 6], none⟩, ⟨(some 14), .bin .neq 38 true true 0, [.t 13, .c (.int .i64 0)], none⟩])
  (.cond (.t 14) (.region 3 [⟨(some 15), .pcall 191 p191, [.c (.int .i64 180)], none⟩])
  .skip))
  (.seq (.region 4 [⟨(some 16), .mov, [.t 5], none⟩, ⟨(some 4), .mov, [.t 16], none⟩])
  .ret)))), [.t 4]⟩
def h193 : Hints := ⟨[], callsOf [(67, .spec s67), (191, .pure p191)], [], [], []⟩
theorem hk193 : HOk prog h193 := hok_of ⟨g67, gp191, trivial⟩ trivial trivial trivial
theorem e193 : elabF prog h193 [] 193 = some c193 := by kernel_rfl
def s193 : Spec := fspec prog c193
theorem g193 : Good prog 193 s193 := good_fspec hk193 mixed e193

def c124 : AFn := ⟨3, (.seq (.region 0 [⟨(some 6), .mov, [.c (.int .i64 0)], none⟩, ⟨(some 7), .mov, [.c (.int .i64 0)], none⟩])
  (.seq (.block 0 (.seq (.region 1 [⟨(some 10), .mov, [.t 0], none⟩, ⟨(some 11), .lenS, [.t 10], none⟩, ⟨(some 12), .bin .neq 3 true true 0, [.t 11, .c (.int .i64 64)], none⟩, ⟨(some 9), .mov, [.t 12], none⟩])
  (.cond (.t 9) (.seq (.region 2 [⟨(some 6), .mov, [.c (.int .i64 0)], none⟩, ⟨(some 7), .mov, [.c (.int .i64 4)], none⟩])
  .ret)
  (.seq (.region 3 [⟨(some 14), .mov, [.t 2], none⟩, ⟨(some 15), .pcall 196 p196, [.t 14], none⟩, ⟨(some 16), .un .not, [.t 15], none⟩, ⟨(some 17), .mov, [.t 16], none⟩, ⟨(some 18), .mov, [.t 1], (some (17, false))⟩, ⟨(some 19), .mov, [.t 2], (some (17, false))⟩, ⟨(some 20), .pcall 197 p197, [.t 18, .t 19], (some (17, false))⟩, ⟨(some 21), .un .not, [.t 20], (some (17, false))⟩, ⟨(some 22), .pick, [.t 17, .c (.bool true), .t 21], none⟩, ⟨(some 13), .mov, [.t 22], none⟩])
  (.cond (.t 13) (.seq (.region 4 [⟨(some 6), .mov, [.c (.int .i64 0)], none⟩, ⟨(some 7), .mov, [.c (.int .i64 1)], none⟩])
  .ret)
  .skip)))))
  (.seq (.region 5 [⟨(some 8), .mov, [.c (.int .i64 0)], none⟩])
  (.seq (.seq (.region 6 [⟨(some 23), .mov, [.t 2], none⟩])
  (.block 1 (.seq (.block 4 (.seq (.block 3 (.seq (.block 2 (.seq (.seq (.seq (.region 7 [⟨(some 25), .bin .eql 3 true true 0, [.t 23, .c (.int .i64 4)], none⟩, ⟨(some 24), .mov, [.t 25], none⟩])
  (.cond (.t 24) (.exit 2)
  .skip))
  (.seq (.region 8 [⟨(some 27), .bin .eql 3 true true 0, [.t 23, .c (.int .i64 2)], none⟩, ⟨(some 26), .mov, [.t 27], none⟩])
  (.cond (.t 26) (.exit 3)
  .skip)))
  (.exit 4)))
  (.draw 9 [⟨(some 28), .mov, [.t 0], none⟩, ⟨(some 29), .mov, [.t 1], none⟩, ⟨(some 30), .bin .add 3 true true 0, [.t 29, .c (.int .i64 3)], none⟩, ⟨(some 31), .idxS, [.t 28, .t 30], none⟩, ⟨(some 32), .convI .i64, [.t 31], none⟩, ⟨(some 33), .bin .shl 3 true true 0, [.t 32, .c (.int .u64 24)], none⟩, ⟨(some 34), .mov, [.t 0], none⟩, ⟨(some 35), .mov, [.t 1], none⟩, ⟨(some 36), .bin .add 3 true true 0, [.t 35, .c (.int .i64 2)], none⟩, ⟨(some 37), .idxS, [.t 34, .t 36], none⟩, ⟨(some 38), .convI .i64, [.t 37], none⟩, ⟨(some 39), .bin .shl 3 true true 0, [.t 38, .c (.int .u64 16)], none⟩, ⟨(some 40), .bin .or 3 false true 0, [.t 33, .t 39], none⟩, ⟨(some 8), .mov, [.t 40], none⟩] [([1, 2, 6, 7, 8, 9, 10, 11], []), ([0, 6, 7, 8, 9, 10, 11], []), ([0, 6, 7, 8, 9, 10, 11], []), ([6, 7, 8, 9, 10, 11], []), ([6, 7, 8, 9, 10, 11], []), ([6, 7, 8, 9, 10, 11], []), ([0, 1, 2, 3, 4, 5, 7, 8], []), ([0, 1, 2, 3, 4, 5, 6], []), ([0, 1, 2, 3, 4, 5, 6], []), ([0, 1, 2, 3, 4, 5], []), ([0, 1, 2, 3, 4, 5], []), ([0, 1, 2, 3, 4, 5], []), ([], []), ([], [])])))
  (.region 10 [⟨(some 41), .mov, [.t 8], none⟩, ⟨(some 42), .mov, [.t 0], none⟩, ⟨(some 43), .mov, [.t 1], none⟩, ⟨(some 44), .bin .add 3 true true 0, [.t 43, .c (.int .i64 1)], none⟩, ⟨(some 45), .idxS, [.t 42, .t 44], none⟩, ⟨(some 46), .convI .i64, [.t 45], none⟩, ⟨(some 47), .bin .shl 3 true true 0, [.t 46, .c (.int .u64 8)], none⟩, ⟨(some 48), .bin .or 3 false true 0, [.t 41, .t 47], none⟩, ⟨(some 8), .mov, [.t 48], none⟩])))
  (.seq (.region 11 [⟨(some 49), .mov, [.t 8], none⟩, ⟨(some 50), .mov, [.t 0], none⟩, ⟨(some 51), .mov, [.t 1], none⟩, ⟨(some 52), .idxS, [.t 50, .t 51], none⟩, ⟨(some 53), .convI .i64, [.t 52], none⟩, ⟨(some 54), .bin .or 3 false true 0, [.t 49, .t 53], none⟩, ⟨(some 8), .mov, [.t 54], none⟩])
  (.exit 1)))))
  (.seq (.region 12 [⟨(some 55), .mov, [.t 8], none⟩, ⟨(some 6), .mov, [.t 55], none⟩, ⟨(some 7), .mov, [.c (.int .i64 0)], none⟩])
  .ret))))), [.t 6, .t 7]⟩
def h124 : Hints := ⟨[], callsOf [(196, .pure p196), (197, .pure p197)], [], [], []⟩
theorem hk124 : HOk prog h124 := hok_of ⟨gp196, gp197, trivial⟩ trivial trivial trivial
theorem e124 : elabF prog h124 [] 124 = some c124 := by kernel_rfl
def s124 : Spec := fspec prog c124
theorem g124 : Good prog 124 s124 := good_fspec hk124 mixed e124
def t124 : List (List Value × Res) := [([(mkStr [2, 1, 0, 0, 1, 0, 1, 0, 0, 0, 0, 0, 0, 0, 0, 0, 0, 0, 0, 0, 0, 0, 0, 0, 0, 0, 0, 0, 0, 0, 0, 0, 0, 0, 0, 0, 0, 0, 0, 0, 0, 0, 0, 0, 0, 0, 0, 0, 0, 0, 0, 0, 0, 0, 0, 0, 0, 0, 0, 0, 0, 0, 0, 0]), (.int .i64 0), (.int .i64 1)], (.ret (.tuple ⟨[(.int .i64 2), (.int .i64 0)]⟩))),
  ([(mkStr [2, 1, 0, 0, 1, 0, 1, 0, 0, 0, 0, 0, 0, 0, 0, 0, 0, 0, 0, 0, 0, 0, 0, 0, 0, 0, 0, 0, 0, 0, 0, 0, 0, 0, 0, 0, 0, 0, 0, 0, 0, 0, 0, 0, 0, 0, 0, 0, 0, 0, 0, 0, 0, 0, 0, 0, 0, 0, 0, 0, 0, 0, 0, 0]), (.int .i64 1), (.int .i64 1)], (.ret (.tuple ⟨[(.int .i64 1), (.int .i64 0)]⟩))),
  ([(mkStr [2, 1, 0, 0, 1, 0, 1, 0, 0, 0, 0, 0, 0, 0, 0, 0, 0, 0, 0, 0, 0, 0, 0, 0, 0, 0, 0, 0, 0, 0, 0, 0, 0, 0, 0, 0, 0, 0, 0, 0, 0, 0, 0, 0, 0, 0, 0, 0, 0, 0, 0, 0, 0, 0, 0, 0, 0, 0, 0, 0, 0, 0, 0, 0]), (.int .i64 10), (.int .i64 2)], (.ret (.tuple ⟨[(.int .i64 0), (.int .i64 0)]⟩))),
  ([(mkStr [2, 1, 0, 0, 1, 0, 1, 0, 0, 0, 0, 0, 0, 0, 0, 0, 0, 0, 0, 0, 0, 0, 0, 0, 0, 0, 0, 0, 0, 0, 0, 0, 0, 0, 0, 0, 0, 0, 0, 0, 0, 0, 0, 0, 0, 0, 0, 0, 0, 0, 0, 0, 0, 0, 0, 0, 0, 0, 0, 0, 0, 0, 0, 0]), (.int .i64 12), (.int .i64 2)], (.ret (.tuple ⟨[(.int .i64 0), (.int .i64 0)]⟩))),
  ([(mkStr [2, 1, 0, 0, 1, 0, 1, 0, 0, 0, 0, 0, 0, 0, 0, 0, 0, 0, 0, 0, 0, 0, 0, 0, 0, 0, 0, 0, 0, 0, 0, 0, 0, 0, 0, 0, 0, 0, 0, 0, 0, 0, 0, 0, 0, 0, 0, 0, 0, 0, 0, 0, 0, 0, 0, 0, 0, 0, 0, 0, 0, 0, 0, 0]), (.int .i64 14), (.int .i64 2)], (.ret (.tuple ⟨[(.int .i64 0), (.int .i64 0)]⟩))),
  ([(mkStr [2, 1, 0, 0, 1, 0, 1, 0, 0, 0, 0, 0, 0, 0, 0, 0, 0, 0, 0, 0, 0, 0, 0, 0, 0, 0, 0, 0, 0, 0, 0, 0, 0, 0, 0, 0, 0, 0, 0, 0, 0, 0, 0, 0, 0, 0, 0, 0, 0, 0, 0, 0, 0, 0, 0, 0, 0, 0, 0, 0, 0, 0, 0, 0]), (.int .i64 16), (.int .i64 2)], (.ret (.tuple ⟨[(.int .i64 0), (.int .i64 0)]⟩))),
  ([(mkStr [2, 1, 0, 0, 1, 0, 1, 0, 0, 0, 0, 0, 0, 0, 0, 0, 0, 0, 0, 0, 0, 0, 0, 0, 0, 0, 0, 0, 0, 0, 0, 0, 0, 0, 0, 0, 0, 0, 0, 0, 0, 0, 0, 0, 0, 0, 0, 0, 0, 0, 0, 0, 0, 0, 0, 0, 0, 0, 0, 0, 0, 0, 0, 0]), (.int .i64 18), (.int .i64 2)], (.ret (.tuple ⟨[(.int .i64 0), (.int .i64 0)]⟩))),
  ([(mkStr [2, 1, 0, 0, 1, 0, 1, 0, 0, 0, 0, 0, 0, 0, 0, 0, 0, 0, 0, 0, 0, 0, 0, 0, 0, 0, 0, 0, 0, 0, 0, 0, 0, 0, 0, 0, 0, 0, 0, 0, 0, 0, 0, 0, 0, 0, 0, 0, 0, 0, 0, 0, 0, 0, 0, 0, 0, 0, 0, 0, 0, 0, 0, 0]), (.int .i64 2), (.int .i64 2)], (.ret (.tuple ⟨[(.int .i64 0), (.int .i64 0)]⟩))),
  ([(mkStr [2, 1, 0, 0, 1, 0, 1, 0, 0, 0, 0, 0, 0, 0, 0, 0, 0, 0, 0, 0, 0, 0, 0, 0, 0, 0, 0, 0, 0, 0, 0, 0, 0, 0, 0, 0, 0, 0, 0, 0, 0, 0, 0, 0, 0, 0, 0, 0, 0, 0, 0, 0, 0, 0, 0, 0, 0, 0, 0, 0, 0, 0, 0, 0]), (.int .i64 20), (.int .i64 2)], (.ret (.tuple ⟨[(.int .i64 0), (.int .i64 0)]⟩))),
  ([(mkStr [2, 1, 0, 0, 1, 0, 1, 0, 0, 0, 0, 0, 0, 0, 0, 0, 0, 0, 0, 0, 0, 0, 0, 0, 0, 0, 0, 0, 0, 0, 0, 0, 0, 0, 0, 0, 0, 0, 0, 0, 0, 0, 0, 0, 0, 0, 0, 0, 0, 0, 0, 0, 0, 0, 0, 0, 0, 0, 0, 0, 0, 0, 0, 0]), (.int .i64 22), (.int .i64 2)], (.ret (.tuple ⟨[(.int .i64 0), (.int .i64 0)]⟩))),
  ([(mkStr [2, 1, 0, 0, 1, 0, 1, 0, 0, 0, 0, 0, 0, 0, 0, 0, 0, 0, 0, 0, 0, 0, 0, 0, 0, 0, 0, 0, 0, 0, 0, 0, 0, 0, 0, 0, 0, 0, 0, 0, 0, 0, 0, 0, 0, 0, 0, 0, 0, 0, 0, 0, 0, 0, 0, 0, 0, 0, 0, 0, 0, 0, 0, 0]), (.int .i64 24), (.int .i64 2)], (.ret (.tuple ⟨[(.int .i64 0), (.int .i64 0)]⟩))),
  ([(mkStr [2, 1, 0, 0, 1, 0, 1, 0, 0, 0, 0, 0, 0, 0, 0, 0, 0, 0, 0, 0, 0, 0, 0, 0, 0, 0, 0, 0, 0, 0, 0, 0, 0, 0, 0, 0, 0, 0, 0, 0, 0, 0, 0, 0, 0, 0, 0, 0, 0, 0, 0, 0, 0, 0, 0, 0, 0, 0, 0, 0, 0, 0, 0, 0]), (.int .i64 4), (.int .i64 2)], (.ret (.tuple ⟨[(.int .i64 1), (.int .i64 0)]⟩))),
  ([(mkStr [2, 1, 0, 0, 1, 0, 1, 0, 0, 0, 0, 0, 0, 0, 0, 0, 0, 0, 0, 0, 0, 0, 0, 0, 0, 0, 0, 0, 0, 0, 0, 0, 0, 0, 0, 0, 0, 0, 0, 0, 0, 0, 0, 0, 0, 0, 0, 0, 0, 0, 0, 0, 0, 0, 0, 0, 0, 0, 0, 0, 0, 0, 0, 0]), (.int .i64 6), (.int .i64 2)], (.ret (.tuple ⟨[(.int .i64 1), (.int .i64 0)]⟩))),
  ([(mkStr [2, 1, 0, 0, 1, 0, 1, 0, 0, 0, 0, 0, 0, 0, 0, 0, 0, 0, 0, 0, 0, 0, 0, 0, 0, 0, 0, 0, 0, 0, 0, 0, 0, 0, 0, 0, 0, 0, 0, 0, 0, 0, 0, 0, 0, 0, 0, 0, 0, 0, 0, 0, 0, 0, 0, 0, 0, 0, 0, 0, 0, 0, 0, 0]), (.int .i64 8), (.int .i64 2)], (.ret (.tuple ⟨[(.int .i64 0), (.int .i64 0)]⟩)))]
def p124 : PSpec := tab t124
theorem k124 : tabOk s124 t124 = true := by kernel_rfl
theorem gp124 : GoodP prog 124 p124 := goodP_tab g124 k124

def c260 : AFn := ⟨3, (.seq (.region 0 [⟨(some 5), .mov, [.c (.int .i64 0)], none⟩])
  (.seq (.region 1 [⟨(some 9), .load none, [.t 2], none⟩, ⟨(some 10), .mov, [.t 0], none⟩, ⟨(some 11), .mov, [.t 1], none⟩, ⟨(some 12), .pcall 124 p124, [.t 9, .t 10, .t 11], none⟩, ⟨(some 8), .mov, [.t 12], none⟩, ⟨(some 13), .ext 0, [.t 8], none⟩, ⟨(some 14), .ext 1, [.t 8], none⟩, ⟨(some 6), .mov, [.t 13], none⟩, ⟨(some 7), .mov, [.t 14], none⟩])
  (.seq (.region 2 [⟨(some 15), .mov, [.t 6], none⟩, ⟨(some 5), .mov, [.t 15], none⟩])
  .ret))), [.t 5]⟩
def h260 : Hints := ⟨[], callsOf [(124, .pure p124)], [], [], []⟩
theorem hk260 : HOk prog h260 := hok_of ⟨gp124, trivial⟩ trivial trivial trivial
theorem e260 : elabF prog h260 [] 260 = some c260 := by kernel_rfl
def s260 : Spec := fspec prog c260
theorem g260 : Good prog 260 s260 := good_fspec hk260 mixed e260

def c192 : AFn := ⟨2, (.seq (.region 0 [⟨(some 2), .box (some 2), [.t 0], none⟩, ⟨(some 3), .box none, [.t 1], none⟩, ⟨(some 4), .alloc (some 4) (.agg ⟨[(.int .i64 0), (.int .i64 0), (.int .i64 0), (.int .i64 0), (.int .i64 0), (.int .i64 0), (.int .i64 0), (.int .i64 0), (.int .i64 0), (.int .i64 0), (.int .i64 0), (.int .i64 0), (.int .i64 0), (.int .i64 0)]⟩), [], none⟩, ⟨(some 5), .mov, [.c (.int .i64 0)], none⟩])
  (.seq (.seq (.region 1 [⟨(some 12), .load (some 3), [.t 2], none⟩, ⟨(some 13), .pcall 89 p89, [.t 12], none⟩, ⟨(some 6), .mov, [.t 13], none⟩])
  (.seq (.region 2 [⟨(some 14), .mov, [.t 6], none⟩, ⟨(some 15), .bin .neq 38 true true 0, [.t 14, .c (.int .i64 0)], none⟩])
  (.cond (.t 15) (.seq (.region 3 [⟨(some 16), .build [(.int .i64 0), (.int .i64 0), (.int .i64 0), (.int .i64 0), (.int .i64 0), (.int .i64 0), (.int .i64 0), (.int .i64 0), (.int .i64 0), (.int .i64 0), (.int .i64 0), (.int .i64 0), (.int .i64 0), (.int .i64 0)] [], [], none⟩, ⟨(some 17), .mov, [.t 6], none⟩, ⟨none, .store 14, [.t 4, .t 16], none⟩, ⟨(some 5), .mov, [.t 17], none⟩])
  .ret)
  .skip)))
  (.seq (.seq (.region 4 [⟨(some 18), .load none, [.t 3], none⟩, ⟨(some 19), .lenS, [.t 18], none⟩, ⟨(some 20), .bin .neq 3 true true 0, [.t 19, .c (.int .i64 64)], none⟩])
  (.cond (.t 20) (.seq (.region 5 [⟨(some 21), .build [(.int .i64 0), (.int .i64 0), (.int .i64 0), (.int .i64 0), (.int .i64 0), (.int .i64 0), (.int .i64 0), (.int .i64 0), (.int .i64 0), (.int .i64 0), (.int .i64 0), (.int .i64 0), (.int .i64 0), (.int .i64 0)] [], [], none⟩, ⟨none, .store 14, [.t 4, .t 21], none⟩, ⟨(some 5), .mov, [.c (.int .i64 60)], none⟩])
  .ret)
  .skip))
  (.seq (.region 6 [⟨(some 22), .mkfn 260 0, [.t 3], none⟩, ⟨(some 7), .mov, [.t 22], none⟩])
  (.seq (.region 7 [⟨(some 23), .mov, [.t 7], none⟩, ⟨(some 24), .callv [(260, s260)], [.t 23, .c (.int .i64 0), .c (.int .i64 1)], none⟩, ⟨(some 25), .mov, [.t 7], none⟩, ⟨(some 26), .callv [(260, s260)], [.t 25, .c (.int .i64 1), .c (.int .i64 1)], none⟩, ⟨(some 27), .mov, [.t 7], none⟩, ⟨(some 28), .callv [(260, s260)], [.t 27, .c (.int .i64 2), .c (.int .i64 2)], none⟩, ⟨(some 29), .mov, [.t 7], none⟩, ⟨(some 30), .callv [(260, s260)], [.t 29, .c (.int .i64 4), .c (.int .i64 2)], none⟩, ⟨(some 31), .mov, [.t 7], none⟩, ⟨(some 32), .callv [(260, s260)], [.t 31, .c (.int .i64 6), .c (.int .i64 2)], none⟩, ⟨(some 33), .mov, [.t 7], none⟩, ⟨(some 34), .callv [(260, s260)], [.t 33, .c (.int .i64 24), .c (.int .i64 2)], none⟩, ⟨(some 35), .build [(.int .i64 0), (.int .i64 0), (.int .i64 0), (.int .i64 0), (.int .i64 0), (.int .i64 0), (.int .i64 0), (.int .i64 0), (.int .i64 0), (.int .i64 0), (.int .i64 0), (.int .i64 0), (.int .i64 0), (.int .i64 0)] [(0, 1), (1, 1), (2, 1), (3, 1), (4, 1), (13, 1)], [.t 24, .t 26, .t 28, .t 30, .t 32, .t 34], none⟩, ⟨(some 8), .alloc (some 8) (.agg ⟨[(.int .i64 0), (.int .i64 0), (.int .i64 0), (.int .i64 0), (.int .i64 0), (.int .i64 0), (.int .i64 0), (.int .i64 0), (.int .i64 0), (.int .i64 0), (.int .i64 0), (.int .i64 0), (.int .i64 0), (.int .i64 0)]⟩), [], none⟩, ⟨none, .store 14, [.t 8, .t 35], none⟩])
  (.seq (.seq (.region 8 [⟨(some 36), .mov, [.c (.int .i64 0)], none⟩])
  (.block 0 (.loop [2, 3, 4, 7, 8, 36] [2, 4, 8] (.seq (.region 9 [⟨(some 37), .bin .lss 3 true true 0, [.t 36, .c (.int .i64 8)], none⟩])
  (.seq (.cond (.t 37) .skip
  (.exit 0))
  (.seq (.block 1 (.seq (.region 10 [⟨(some 38), .mov, [.t 36], none⟩, ⟨(some 9), .mov, [.t 38], none⟩])
  (.region 11 [⟨(some 39), .mov, [.t 9], none⟩, ⟨(some 40), .mov, [.t 7], none⟩, ⟨(some 41), .mov, [.t 9], none⟩, ⟨(some 42), .bin .mul 3 true true 0, [.c (.int .i64 2), .t 41], none⟩, ⟨(some 43), .bin .add 3 true true 0, [.c (.int .i64 8), .t 42], none⟩, ⟨(some 44), .callv [(260, s260)], [.t 40, .t 43, .c (.int .i64 2)], none⟩, ⟨(some 45), .faddr 5, [.t 8], none⟩, ⟨(some 46), .iaddrA 8 1, [.t 45, .t 39], none⟩, ⟨none, .store 1, [.t 46, .t 44], none⟩])))
  (.region 12 [⟨(some 47), .bin .add 3 true true 0, [.t 36, .c (.int .i64 1)], none⟩, ⟨(some 36), .mov, [.t 47], none⟩])))))))
  (.seq (.seq (.region 13 [⟨(some 49), .load (some 3), [.t 2], none⟩, ⟨(some 50), .load (some 14), [.t 8], none⟩, ⟨(some 51), .pcall 116 p116, [.t 49, .t 50], none⟩, ⟨(some 48), .mov, [.t 51], none⟩, ⟨(some 52), .ext 0, [.t 48], none⟩, ⟨(some 53), .ext 1, [.t 48], none⟩, ⟨(some 10), .mov, [.t 52], none⟩, ⟨(some 11), .mov, [.t 53], none⟩])
  (.seq (.region 14 [⟨(some 54), .mov, [.t 11], none⟩, ⟨(some 55), .bin .neq 38 true true 0, [.t 54, .c (.int .i64 0)], none⟩, ⟨(some 56), .mov, [.t 55], none⟩, ⟨(some 57), .mov, [.t 10], (some (56, false))⟩, ⟨(some 58), .load none, [.t 3], (some (56, false))⟩, ⟨(some 59), .bin .neq 9 false true 0, [.t 57, .t 58], (some (56, false))⟩, ⟨(some 60), .pick, [.t 56, .c (.bool true), .t 59], none⟩])
  (.cond (.t 60) (.seq (.region 15 [⟨(some 61), .build [(.int .i64 0), (.int .i64 0), (.int .i64 0), (.int .i64 0), (.int .i64 0), (.int .i64 0), (.int .i64 0), (.int .i64 0), (.int .i64 0), (.int .i64 0), (.int .i64 0), (.int .i64 0), (.int .i64 0), (.int .i64 0)] [], [], none⟩, ⟨none, .store 14, [.t 4, .t 61], none⟩, ⟨(some 5), .mov, [.c (.int .i64 60)], none⟩])
  .ret)
  .skip)))
  (.seq (.region 16 [⟨(some 62), .load (some 14), [.t 8], none⟩, ⟨none, .store 14, [.t 4, .t 62], none⟩, ⟨(some 5), .mov, [.c (.int .i64 0)], none⟩])
  .ret)))))))), [.cell 4 (some 14), .t 5]⟩
def h192 : Hints := ⟨[2, 4, 8], callsOf [(89, .pure p89), (116, .pure p116)], [(260, s260)], [], []⟩
theorem hk192 : HOk prog h192 := hok_of ⟨gp89, gp116, trivial⟩ ⟨g260, trivial⟩ trivial trivial
theorem e192 : elabF prog h192 [([2, 3, 4, 7, 8, 36], [2, 4, 8])] 192 = some c192 := by kernel_rfl
def s192 : Spec := fspec prog c192
theorem g192 : Good prog 192 s192 := good_fspec hk192 mixed e192
def t192 : List (List Value × Res) := [([(.agg ⟨[(.int .i64 1), (.int .i64 2), (.int .i64 3)]⟩), (mkStr [2, 1, 0, 0, 1, 0, 1, 0, 0, 0, 0, 0, 0, 0, 0, 0, 0, 0, 0, 0, 0, 0, 0, 0, 0, 0, 0, 0, 0, 0, 0, 0, 0, 0, 0, 0, 0, 0, 0, 0, 0, 0, 0, 0, 0, 0, 0, 0, 0, 0, 0, 0, 0, 0, 0, 0, 0, 0, 0, 0, 0, 0, 0, 0])], (.ret (.tuple ⟨[(.agg ⟨[(.int .i64 2), (.int .i64 1), (.int .i64 0), (.int .i64 1), (.int .i64 1), (.int .i64 0), (.int .i64 0), (.int .i64 0), (.int .i64 0), (.int .i64 0), (.int .i64 0), (.int .i64 0), (.int .i64 0), (.int .i64 0)]⟩), (.int .i64 0)]⟩)))]
def p192 : PSpec := tab t192
theorem k192 : tabOk s192 t192 = true := by kernel_rfl
theorem gp192 : GoodP prog 192 p192 := goodP_tab g192 k192

def c120 : AFn := ⟨3, (.seq (.region 0 [⟨(some 4), .box (some 4), [.t 1], none⟩, ⟨(some 6), .alloc (some 6) (.agg ⟨[(.int .i64 0), (.int .i64 0), (.int .i64 0), (.int .i64 0), (.int .i64 0), (.int .i64 0), (.int .i64 0), (.int .i64 0), (.int .i64 0), (.int .i64 0), (.int .i64 0), (.int .i64 0), (.int .i64 0), (.int .i64 0)]⟩), [], none⟩, ⟨(some 7), .mov, [.c (.int .i64 0)], none⟩])
  (.seq (.seq (.region 1 [⟨(some 13), .mov, [.t 0], none⟩, ⟨(some 14), .bin .eql 26 true true 1, [.t 13, .c (.pointer none)], none⟩])
  (.cond (.t 14) (.region 2 [⟨(some 15), .pcall 191 p191, [.c (.int .i64 5)], none⟩])
  .skip))
  (.seq (.region 3 [⟨(some 17), .load (some 3), [.t 4], none⟩, ⟨(some 18), .mov, [.t 2], none⟩, ⟨(some 19), .pcall 115 p115, [.t 17, .t 18], none⟩, ⟨(some 16), .mov, [.t 19], none⟩, ⟨(some 20), .ext 0, [.t 16], none⟩, ⟨(some 21), .ext 1, [.t 16], none⟩, ⟨(some 22), .ext 2, [.t 16], none⟩, ⟨(some 23), .ext 3, [.t 16], none⟩, ⟨(some 8), .mov, [.t 20], none⟩, ⟨(some 9), .mov, [.t 21], none⟩, ⟨(some 10), .mov, [.t 22], none⟩, ⟨(some 11), .mov, [.t 23], none⟩])
  (.seq (.region 4 [⟨(some 24), .mov, [.t 11], none⟩, ⟨(some 25), .pcall 191 p191, [.t 24], none⟩])
  (.seq (.draw 5 [⟨(some 27), .load (some 3), [.t 4], none⟩, ⟨(some 28), .mov, [.t 0], none⟩, ⟨(some 29), .mov, [.t 8], none⟩, ⟨(some 30), .call 193 s193, [.t 28, .t 29], none⟩, ⟨(some 31), .pcall 192 p192, [.t 27, .t 30], none⟩, ⟨(some 26), .mov, [.t 31], none⟩, ⟨(some 32), .ext 0, [.t 26], none⟩, ⟨(some 33), .ext 1, [.t 26], none⟩, ⟨(some 12), .alloc (some 12) (.agg ⟨[(.int .i64 0), (.int .i64 0), (.int .i64 0), (.int .i64 0), (.int .i64 0), (.int .i64 0), (.int .i64 0), (.int .i64 0), (.int .i64 0), (.int .i64 0), (.int .i64 0), (.int .i64 0), (.int .i64 0), (.int .i64 0)]⟩), [], none⟩, ⟨none, .store 14, [.t 12, .t 32], none⟩, ⟨(some 11), .mov, [.t 33], none⟩] [([1, 2, 3, 8], [4]), ([0, 2, 8], []), ([0, 1, 8], []), ([0, 8], []), ([8], []), ([8], []), ([7, 8], []), ([6, 8, 9], []), ([0, 1, 2, 3, 4, 5, 6, 7], [3]), ([7], []), ([], [])])
  (.seq (.seq (.region 6 [⟨(some 34), .mov, [.t 11], none⟩, ⟨(some 35), .bin .neq 38 true true 0, [.t 34, .c (.int .i64 0)], none⟩])
  (.cond (.t 35) (.region 7 [⟨(some 36), .pcall 191 p191, [.c (.int .i64 180)], none⟩])
  .skip))
  (.seq (.region 8 [⟨(some 37), .load (some 14), [.t 12], none⟩, ⟨(some 38), .mov, [.t 8], none⟩, ⟨none, .store 14, [.t 6, .t 37], none⟩, ⟨(some 7), .mov, [.t 38], none⟩])
  .ret))))))), [.cell 6 (some 14), .t 7]⟩
def h120 : Hints := ⟨[4, 6, 12], callsOf [(115, .pure p115), (191, .pure p191), (192, .pure p192), (193, .spec s193)], [], [], []⟩
theorem hk120 : HOk prog h120 := hok_of ⟨gp115, gp191, gp192, g193, trivial⟩ trivial trivial trivial
theorem e120 : elabF prog h120 [] 120 = some c120 := by kernel_rfl
def s120 : Spec := fspec prog c120
theorem g120 : Good prog 120 s120 := good_fspec hk120 mixed e120

def c119 : AFn := ⟨1, (.seq (.region 0 [⟨(some 2), .mov, [.t 5], none⟩])
  (.seq (.region 1 [⟨(some 6), .mov, [.t 2], none⟩, ⟨(some 7), .bin .neq 20 true true 4, [.t 6, .c .nilIface], none⟩])
  (.cond (.t 7) (.seq (.region 2 [⟨(some 9), .mov, [.t 2], none⟩, ⟨(some 10), .tass 304 true (.int .i64 0), [.t 9], none⟩, ⟨(some 8), .mov, [.t 10], none⟩, ⟨(some 11), .ext 0, [.t 8], none⟩, ⟨(some 12), .ext 1, [.t 8], none⟩, ⟨(some 3), .mov, [.t 11], none⟩, ⟨(some 4), .mov, [.t 12], none⟩])
  (.seq (.seq (.region 3 [⟨(some 13), .mov, [.t 4], none⟩, ⟨(some 14), .un .not, [.t 13], none⟩])
  (.cond (.t 14) (.region 4 [⟨(some 15), .mov, [.t 2], none⟩, ⟨none, .panic, [.t 15], none⟩])
  .skip))
  (.region 5 [⟨(some 16), .mov, [.t 0], none⟩, ⟨(some 17), .mov, [.t 3], none⟩, ⟨(some 18), .nilc, [.t 16], none⟩, ⟨none, .store 1, [.t 18, .t 17], none⟩])))
  .skip))), []⟩
def h119 : Hints := ⟨[], callsOf [], [], [], []⟩
theorem hk119 : HOk prog h119 := hok_of trivial trivial trivial trivial
theorem e119 : elabD prog h119 [] 119 = some (c119, 5) := by kernel_rfl
def d119 : DSpec := fdefer prog c119 5
theorem g119 : GoodD prog 119 d119 := good_fdefer hk119 mixed (by kernel_rfl) e119

def c65 : AFn := ⟨3, (.seq (.region 0 [⟨(some 4), .box (some 4), [.t 1], none⟩, ⟨(some 6), .alloc (some 6) (.agg ⟨[(.int .i64 0), (.int .i64 0), (.int .i64 0), (.int .i64 0), (.int .i64 0), (.int .i64 0), (.int .i64 0), (.int .i64 0), (.int .i64 0), (.int .i64 0), (.int .i64 0), (.int .i64 0), (.int .i64 0), (.int .i64 0)]⟩), [], none⟩, ⟨(some 7), .alloc none (.int .i64 0), [], none⟩])
  (.seq (.region 1 [⟨none, .defer 119 d119, [.t 7], none⟩])
  (.seq (.region 2 [⟨(some 9), .mov, [.t 0], none⟩, ⟨(some 10), .load (some 3), [.t 4], none⟩, ⟨(some 11), .mov, [.t 2], none⟩, ⟨(some 12), .call 120 s120, [.t 9, .t 10, .t 11], none⟩, ⟨(some 8), .mov, [.t 12], none⟩, ⟨(some 13), .ext 0, [.t 8], none⟩, ⟨(some 14), .ext 1, [.t 8], none⟩, ⟨none, .store 14, [.t 6, .t 13], none⟩])
  (.seq (.region 3 [⟨(some 15), .load (some 14), [.t 6], none⟩, ⟨none, .store 14, [.t 6, .t 15], none⟩, ⟨none, .store 1, [.t 7, .c (.int .i64 0)], none⟩])
  .ret)))), [.cell 6 (some 14), .cell 7 none]⟩
def h65 : Hints := ⟨[4, 6], callsOf [(119, .dspec d119), (120, .spec s120)], [], [], []⟩
theorem hk65 : HOk prog h65 := hok_of ⟨g119, g120, trivial⟩ trivial trivial trivial
theorem e65 : elabF prog h65 [] 65 = some c65 := by kernel_rfl
def s65 : Spec := fspec prog c65
theorem g65 : Good prog 65 s65 := good_fspec hk65 mixed e65

def c233 : AFn := ⟨2, (.seq (.region 0 [⟨(some 4), .alloc (some 4) (.agg ⟨[(.int .i64 0), (.int .i64 0), (.int .i64 0), (.int .i64 0), (.int .i64 0), (.int .i64 0), (.int .i64 0), (.int .i64 0), (.int .i64 0), (.int .i64 0), (.int .i64 0), (.int .i64 0), (.int .i64 0), (.int .i64 0)]⟩), [], none⟩])
  (.seq (.seq (.region 1 [⟨(some 7), .mov, [.t 1], none⟩, ⟨(some 8), .bin .lss 3 true true 0, [.t 7, .c (.int .i64 1)], none⟩, ⟨(some 9), .mov, [.t 8], none⟩, ⟨(some 10), .mov, [.t 1], (some (9, false))⟩, ⟨(some 11), .mov, [.t 0], (some (9, false))⟩, ⟨(some 12), .nilc, [.t 11], (some (9, false))⟩, ⟨(some 13), .faddr 1, [.t 12], (some (9, false))⟩, ⟨(some 14), .load (some 3), [.t 13], (some (9, false))⟩, ⟨(some 15), .pcall 179 p179, [.t 14], (some (9, false))⟩, ⟨(some 16), .bin .gtr 3 false true 0, [.t 10, .t 15], (some (9, false))⟩, ⟨(some 17), .pick, [.t 9, .c (.bool true), .t 16], none⟩])
  (.cond (.t 17) (.region 2 [⟨(some 18), .pcall 94 p94, [.c (.int .i64 180)], none⟩])
  .skip))
  (.seq (.region 3 [⟨(some 19), .mov, [.t 0], none⟩, ⟨(some 20), .mov, [.t 0], none⟩, ⟨(some 21), .nilc, [.t 20], none⟩, ⟨(some 22), .faddr 1, [.t 21], none⟩, ⟨(some 23), .faddr 0, [.t 22], none⟩, ⟨(some 24), .load none, [.t 23], none⟩, ⟨(some 25), .mov, [.t 1], none⟩, ⟨(some 26), .bin .add 3 false true 0, [.t 24, .t 25], none⟩, ⟨(some 27), .bin .sub 3 true true 0, [.t 26, .c (.int .i64 1)], none⟩, ⟨(some 28), .call 274 s274, [.t 19, .t 27], none⟩])
  (.seq (.draw 4 [⟨(some 30), .mov, [.t 0], none⟩, ⟨(some 31), .nilc, [.t 30], none⟩, ⟨(some 32), .faddr 0, [.t 31], none⟩, ⟨(some 33), .load none, [.t 32], none⟩, ⟨(some 34), .mov, [.t 0], none⟩, ⟨(some 35), .nilc, [.t 34], none⟩, ⟨(some 36), .faddr 1, [.t 35], none⟩, ⟨(some 37), .load (some 3), [.t 36], none⟩, ⟨(some 38), .mov, [.t 1], none⟩, ⟨(some 39), .call 65 s65, [.t 33, .t 37, .t 38], none⟩, ⟨(some 29), .mov, [.t 39], none⟩, ⟨(some 40), .ext 0, [.t 29], none⟩, ⟨(some 41), .ext 1, [.t 29], none⟩, ⟨(some 5), .alloc (some 5) (.agg ⟨[(.int .i64 0), (.int .i64 0), (.int .i64 0), (.int .i64 0), (.int .i64 0), (.int .i64 0), (.int .i64 0), (.int .i64 0), (.int .i64 0), (.int .i64 0), (.int .i64 0), (.int .i64 0), (.int .i64 0), (.int .i64 0)]⟩), [], none⟩, ⟨none, .store 14, [.t 5, .t 40], none⟩, ⟨(some 6), .mov, [.t 41], none⟩] [([4, 5, 6, 7, 8, 13], []), ([4, 5, 6, 7, 8, 13], []), ([4, 5, 6, 7, 8, 13], []), ([4, 5, 6, 7, 8, 13], []), ([0, 1, 2, 3, 8, 13], []), ([0, 1, 2, 3, 8, 13], []), ([0, 1, 2, 3, 8, 13], []), ([0, 1, 2, 3, 8, 13], []), ([0, 1, 2, 3, 4, 5, 6, 7, 13], []), ([13], []), ([13], []), ([12, 13], []), ([11, 13, 14], []), ([0, 1, 2, 3, 4, 5, 6, 7, 8, 9, 10, 11, 12], [9]), ([12], []), ([], [])])
  (.seq (.seq (.region 5 [⟨(some 42), .mov, [.t 6], none⟩, ⟨(some 43), .bin .neq 38 true true 0, [.t 42, .c (.int .i64 0)], none⟩])
  (.cond (.t 43) (.region 6 [⟨(some 44), .pcall 94 p94, [.c (.int .i64 180)], none⟩])
  .skip))
  (.seq (.region 7 [⟨(some 45), .load (some 14), [.t 5], none⟩, ⟨none, .store 14, [.t 4, .t 45], none⟩])
  .ret)))))), [.cell 4 (some 14)]⟩
def h233 : Hints := ⟨[4, 5], callsOf [(65, .spec s65), (94, .pure p94), (179, .pure p179), (274, .spec s274)], [], [], []⟩
theorem hk233 : HOk prog h233 := hok_of ⟨g65, gp94, gp179, g274, trivial⟩ trivial trivial trivial
theorem e233 : elabF prog h233 [] 233 = some c233 := by kernel_rfl
def s233 : Spec := fspec prog c233
theorem g233 : Good prog 233 s233 := good_fspec hk233 mixed e233

def c121 : AFn := ⟨3, (.seq (.region 0 [⟨(some 4), .box (some 4), [.t 1], none⟩, ⟨(some 5), .box (some 5), [.t 2], none⟩, ⟨(some 6), .mov, [.c (.slice none 0 0)], none⟩])
  (.seq (.seq (.region 1 [⟨(some 10), .mov, [.t 0], none⟩, ⟨(some 11), .bin .eql 26 true true 1, [.t 10, .c (.pointer none)], none⟩])
  (.cond (.t 11) (.region 2 [⟨(some 12), .pcall 191 p191, [.c (.int .i64 5)], none⟩])
  .skip))
  (.seq (.region 3 [⟨(some 13), .load (some 3), [.t 4], none⟩, ⟨(some 14), .pcall 89 p89, [.t 13], none⟩, ⟨(some 15), .pcall 191 p191, [.t 14], none⟩])
  (.seq (.seq (.region 4 [⟨(some 16), .load (some 3), [.t 4], none⟩, ⟨(some 17), .load (some 14), [.t 5], none⟩, ⟨(some 18), .pcall 185 p185, [.t 16, .t 17], none⟩, ⟨(some 19), .bin .neq 38 true true 0, [.t 18, .c (.int .i64 0)], none⟩])
  (.cond (.t 19) (.region 5 [⟨(some 20), .pcall 191 p191, [.c (.int .i64 180)], none⟩])
  .skip))
  (.seq (.region 6 [⟨(some 21), .mkslice 1 8 [(.int .i64 0)], [.c (.int .i64 40), .c (.int .i64 40)], none⟩, ⟨(some 7), .mov, [.t 21], none⟩])
  (.seq (.region 7 [⟨(some 22), .mov, [.t 7], none⟩, ⟨(some 23), .faddr 5, [.t 5], none⟩, ⟨(some 24), .slA 8 1 false false false, [.t 23], none⟩, ⟨(some 25), .copy 1, [.t 22, .t 24], none⟩])
  (.seq (.seq (.region 8 [⟨(some 26), .faddr 13, [.t 5], none⟩, ⟨(some 27), .load none, [.t 26], none⟩, ⟨(some 28), .bin .gtr 3 true true 0, [.t 27, .c (.int .i64 0)], none⟩])
  (.cond (.t 28) (.seq (.draw 9 [⟨(some 30), .load (some 3), [.t 4], none⟩, ⟨(some 31), .mov, [.t 0], none⟩, ⟨(some 32), .faddr 13, [.t 5], none⟩, ⟨(some 33), .load none, [.t 32], none⟩, ⟨(some 34), .call 193 s193, [.t 31, .t 33], none⟩, ⟨(some 35), .call 194 sNone, [.t 30, .t 34], none⟩, ⟨(some 29), .mov, [.t 35], none⟩, ⟨(some 36), .ext 0, [.t 29], none⟩, ⟨(some 37), .ext 1, [.t 29], none⟩, ⟨(some 8), .mov, [.t 36], none⟩, ⟨(some 9), .mov, [.t 37], none⟩] [([1, 2, 3, 4], [5]), ([0, 2, 3], []), ([0, 1], []), ([0, 1], []), ([0], []), ([], []), ([], []), ([8], []), ([7, 9], []), ([8], []), ([], [])])
  (.seq (.seq (.region 10 [⟨(some 38), .mov, [.t 9], none⟩, ⟨(some 39), .bin .neq 38 true true 0, [.t 38, .c (.int .i64 0)], none⟩])
  (.cond (.t 39) (.region 11 [⟨(some 40), .pcall 191 p191, [.c (.int .i64 180)], none⟩])
  .skip))
  (.region 12 [⟨(some 41), .mov, [.t 7], none⟩, ⟨(some 42), .slV 1 true false false, [.t 41, .c (.int .i64 8)], none⟩, ⟨(some 43), .mov, [.t 8], none⟩, ⟨(some 44), .copy 1, [.t 42, .t 43], none⟩])))
  .skip))
  (.seq (.region 13 [⟨(some 45), .mov, [.t 7], none⟩, ⟨(some 6), .mov, [.t 45], none⟩])
  .ret)))))))), [.t 6]⟩
def h121 : Hints := ⟨[4, 5], callsOf [(89, .pure p89), (185, .pure p185), (191, .pure p191), (193, .spec s193), (194, .spec sNone)], [], [], []⟩
theorem hk121 : HOk prog h121 := hok_of ⟨gp89, gp185, gp191, g193, good_none _ _, trivial⟩ trivial trivial trivial
theorem e121 : elabF prog h121 [] 121 = some c121 := by kernel_rfl
def s121 : Spec := fspec prog c121
theorem g121 : Good prog 121 s121 := good_fspec hk121 mixed e121

def c66 : AFn := ⟨3, (.seq (.region 0 [⟨(some 4), .box (some 4), [.t 1], none⟩, ⟨(some 5), .box (some 5), [.t 2], none⟩, ⟨(some 6), .mov, [.c (.slice none 0 0)], none⟩, ⟨(some 7), .alloc none (.int .i64 0), [], none⟩])
  (.seq (.region 1 [⟨none, .defer 119 d119, [.t 7], none⟩])
  (.seq (.region 2 [⟨(some 8), .mov, [.t 0], none⟩, ⟨(some 9), .load (some 3), [.t 4], none⟩, ⟨(some 10), .load (some 14), [.t 5], none⟩, ⟨(some 11), .call 121 s121, [.t 8, .t 9, .t 10], none⟩, ⟨(some 6), .mov, [.t 11], none⟩, ⟨none, .store 1, [.t 7, .c (.int .i64 0)], none⟩])
  .ret))), [.t 6, .cell 7 none]⟩
def h66 : Hints := ⟨[4, 5], callsOf [(119, .dspec d119), (121, .spec s121)], [], [], []⟩
theorem hk66 : HOk prog h66 := hok_of ⟨g119, g121, trivial⟩ trivial trivial trivial
theorem e66 : elabF prog h66 [] 66 = some c66 := by kernel_rfl
def s66 : Spec := fspec prog c66
theorem g66 : Good prog 66 s66 := good_fspec hk66 mixed e66

def c31 : AFn := ⟨3, (.seq (.region 0 [⟨(some 4), .box (some 4), [.t 1], none⟩, ⟨(some 6), .mov, [.c (.pointer none)], none⟩, ⟨(some 7), .mov, [.c (.int .i64 0)], none⟩])
  (.seq (.region 1 [⟨(some 18), .mov, [.t 0], none⟩, ⟨(some 19), .load (some 3), [.t 4], none⟩, ⟨(some 20), .mov, [.t 2], none⟩, ⟨(some 21), .call 65 s65, [.t 18, .t 19, .t 20], none⟩, ⟨(some 17), .mov, [.t 21], none⟩, ⟨(some 22), .ext 0, [.t 17], none⟩, ⟨(some 23), .ext 1, [.t 17], none⟩, ⟨(some 8), .alloc (some 8) (.agg ⟨[(.int .i64 0), (.int .i64 0), (.int .i64 0), (.int .i64 0), (.int .i64 0), (.int .i64 0), (.int .i64 0), (.int .i64 0), (.int .i64 0), (.int .i64 0), (.int .i64 0), (.int .i64 0), (.int .i64 0), (.int .i64 0)]⟩), [], none⟩, ⟨none, .store 14, [.t 8, .t 22], none⟩, ⟨(some 9), .mov, [.t 23], none⟩])
  (.seq (.seq (.region 2 [⟨(some 24), .mov, [.t 9], none⟩, ⟨(some 25), .bin .neq 38 true true 0, [.t 24, .c (.int .i64 0)], none⟩])
  (.cond (.t 25) (.seq (.region 3 [⟨(some 26), .mov, [.t 9], none⟩, ⟨(some 6), .mov, [.c (.pointer none)], none⟩, ⟨(some 7), .mov, [.t 26], none⟩])
  .ret)
  .skip))
  (.seq (.region 4 [⟨(some 28), .mov, [.t 0], none⟩, ⟨(some 29), .load (some 3), [.t 4], none⟩, ⟨(some 30), .load (some 14), [.t 8], none⟩, ⟨(some 31), .call 66 s66, [.t 28, .t 29, .t 30], none⟩, ⟨(some 27), .mov, [.t 31], none⟩, ⟨(some 32), .ext 0, [.t 27], none⟩, ⟨(some 33), .ext 1, [.t 27], none⟩, ⟨(some 10), .mov, [.t 32], none⟩, ⟨(some 9), .mov, [.t 33], none⟩])
  (.seq (.block 0 (.seq (.region 5 [⟨(some 35), .mov, [.t 9], none⟩, ⟨(some 36), .bin .neq 38 true true 0, [.t 35, .c (.int .i64 0)], none⟩, ⟨(some 34), .mov, [.t 36], none⟩])
  (.cond (.t 34) (.seq (.region 6 [⟨(some 37), .mov, [.t 9], none⟩, ⟨(some 6), .mov, [.c (.pointer none)], none⟩, ⟨(some 7), .mov, [.t 37], none⟩])
  .ret)
  (.seq (.region 7 [⟨(some 39), .faddr 0, [.t 8], none⟩, ⟨(some 40), .load none, [.t 39], none⟩, ⟨(some 41), .bin .neq 3 true true 0, [.t 40, .c (.int .i64 2)], none⟩, ⟨(some 38), .mov, [.t 41], none⟩])
  (.cond (.t 38) (.seq (.region 8 [⟨(some 6), .mov, [.c (.pointer none)], none⟩, ⟨(some 7), .mov, [.c (.int .i64 103)], none⟩])
  .ret)
  .skip)))))
  (.seq (.region 9 [⟨(some 42), .load (some 14), [.t 8], none⟩, ⟨(some 43), .build [(.int .i64 0), (.int .i64 0), (.int .i64 0), (.int .i64 0), (.int .i64 0), (.int .i64 0), (.int .i64 0), (.int .i64 0), (.int .i64 0), (.int .i64 0), (.int .i64 0), (.int .i64 0), (.int .i64 0), (.int .i64 0), (.slice none 0 0), (.slice none 0 0)] [(0, 14)], [.t 42], none⟩, ⟨(some 44), .box none, [.t 43], none⟩, ⟨(some 11), .mov, [.t 44], none⟩])
  (.seq (.seq (.region 10 [⟨(some 45), .mov, [.t 10], none⟩, ⟨(some 46), .faddr 2, [.t 8], none⟩, ⟨(some 47), .load none, [.t 46], none⟩, ⟨(some 48), .bin .quo 3 true true 0, [.t 47, .c (.int .i64 64)], none⟩, ⟨(some 49), .slV 1 false true false, [.t 45, .t 48], none⟩, ⟨(some 50), .lenV, [.t 49], none⟩, ⟨(some 51), .mov, [.c (.int .i64 0)], none⟩])
  (.block 1 (.loop [0, 11, 49, 50, 51] [] (.seq (.region 11 [⟨(some 52), .bin .lss 3 false true 0, [.t 51, .t 50], none⟩])
  (.seq (.cond (.t 52) .skip
  (.exit 1))
  (.seq (.block 2 (.seq (.region 12 [⟨(some 53), .iaddrS 1, [.t 49, .t 51], none⟩, ⟨(some 54), .load none, [.t 53], none⟩, ⟨(some 13), .mov, [.t 54], none⟩])
  (.seq (.seq (.region 13 [⟨(some 55), .mov, [.t 13], none⟩, ⟨(some 56), .bin .eql 3 true true 0, [.t 55, .c (.int .i64 0)], none⟩])
  (.cond (.t 56) (.exit 2)
  .skip))
  (.seq (.region 14 [⟨(some 58), .mov, [.t 0], none⟩, ⟨(some 59), .mov, [.t 13], none⟩, ⟨(some 60), .call 67 s67, [.t 58, .t 59], none⟩, ⟨(some 57), .mov, [.t 60], none⟩, ⟨(some 61), .ext 0, [.t 57], none⟩, ⟨(some 62), .ext 1, [.t 57], none⟩, ⟨(some 14), .mov, [.t 61], none⟩, ⟨(some 15), .mov, [.t 62], none⟩])
  (.seq (.seq (.region 15 [⟨(some 63), .mov, [.t 15], none⟩, ⟨(some 64), .bin .neq 38 true true 0, [.t 63, .c (.int .i64 0)], none⟩])
  (.cond (.t 64) (.seq (.region 16 [⟨(some 6), .mov, [.c (.pointer none)], none⟩, ⟨(some 7), .mov, [.c (.int .i64 180)], none⟩])
  .ret)
  .skip))
  (.seq (.region 17 [⟨(some 66), .mov, [.t 14], none⟩, ⟨(some 67), .call 68 sNone, [.t 66], none⟩, ⟨(some 65), .mov, [.t 67], none⟩, ⟨(some 68), .ext 0, [.t 65], none⟩, ⟨(some 69), .ext 1, [.t 65], none⟩, ⟨(some 16), .alloc (some 16) (.agg ⟨[(.int .i64 0), (mkStr []), (.int .i64 0), (mkStr []), (.int .i64 0), (mkStr []), (.int .i64 0), (mkStr [])]⟩), [], none⟩, ⟨none, .store 8, [.t 16, .t 68], none⟩, ⟨(some 15), .mov, [.t 69], none⟩])
  (.seq (.seq (.region 18 [⟨(some 70), .mov, [.t 15], none⟩, ⟨(some 71), .bin .neq 38 true true 0, [.t 70, .c (.int .i64 0)], none⟩])
  (.cond (.t 71) (.seq (.region 19 [⟨(some 6), .mov, [.c (.pointer none)], none⟩, ⟨(some 7), .mov, [.c (.int .i64 180)], none⟩])
  .ret)
  .skip))
  (.draw 20 [⟨(some 72), .mov, [.t 11], none⟩, ⟨(some 73), .mov, [.t 11], none⟩, ⟨(some 74), .mov, [.t 11], none⟩, ⟨(some 75), .nilc, [.t 74], none⟩, ⟨(some 76), .faddr 14, [.t 75], none⟩, ⟨(some 77), .load none, [.t 76], none⟩, ⟨(some 78), .mov, [.t 13], none⟩, ⟨(some 79), .bslice (some 79) 1 1 [(.int .i64 0)] [(0, 1)], [.t 78], none⟩, ⟨(some 80), .append 1 8, [.t 77, .t 79], none⟩, ⟨(some 81), .mov, [.t 11], none⟩, ⟨(some 82), .nilc, [.t 81], none⟩, ⟨(some 83), .faddr 15, [.t 82], none⟩, ⟨(some 84), .load none, [.t 83], none⟩, ⟨(some 85), .load (some 8), [.t 16], none⟩, ⟨(some 86), .bslice (some 86) 8 1 [(.int .i64 0), (mkStr []), (.int .i64 0), (mkStr []), (.int .i64 0), (mkStr []), (.int .i64 0), (mkStr [])] [(0, 8)], [.t 85], none⟩, ⟨(some 87), .append 8 96, [.t 84, .t 86], none⟩, ⟨(some 88), .nilc, [.t 72], none⟩, ⟨(some 89), .faddr 14, [.t 88], none⟩, ⟨none, .store 1, [.t 89, .t 80], none⟩, ⟨(some 90), .nilc, [.t 73], none⟩, ⟨(some 91), .faddr 15, [.t 90], none⟩, ⟨none, .store 1, [.t 91, .t 87], none⟩] [([1, 2, 3, 4, 5, 6, 7, 8, 9, 10, 11, 12, 13, 14, 15], []), ([0, 2, 3, 4, 5, 6, 7, 8, 9, 10, 11, 12, 13, 14, 15, 16, 17, 18], []), ([0, 1, 6, 7, 9, 10, 11, 12, 13, 14], []), ([0, 1, 6, 7, 9, 10, 11, 12, 13, 14], []), ([0, 1, 6, 7, 9, 10, 11, 12, 13, 14], []), ([0, 1, 6, 7, 9, 10, 11, 12, 13, 14], []), ([0, 1, 2, 3, 4, 5, 9, 10, 11, 12, 13, 14], []), ([0, 1, 2, 3, 4, 5, 9, 10, 11, 12, 13, 14], []), ([0, 1, 9, 10, 11, 12, 13, 14], []), ([0, 1, 2, 3, 4, 5, 6, 7, 8, 13, 14], []), ([0, 1, 2, 3, 4, 5, 6, 7, 8, 13, 14], []), ([0, 1, 2, 3, 4, 5, 6, 7, 8, 13, 14], []), ([0, 1, 2, 3, 4, 5, 6, 7, 8, 13, 14], [8]), ([0, 1, 2, 3, 4, 5, 6, 7, 8, 9, 10, 11, 12], [8]), ([0, 1, 2, 3, 4, 5, 6, 7, 8, 9, 10, 11, 12], [8]), ([0, 1], []), ([1], []), ([1], []), ([1], []), ([], []), ([], []), ([], [])]))))))))
  (.region 21 [⟨(some 92), .bin .add 3 true true 0, [.t 51, .c (.int .i64 1)], none⟩, ⟨(some 51), .mov, [.t 92], none⟩])))))))
  (.seq (.region 22 [⟨(some 93), .mov, [.t 11], none⟩, ⟨(some 6), .mov, [.t 93], none⟩, ⟨(some 7), .mov, [.c (.int .i64 0)], none⟩])
  .ret)))))))), [.t 6, .t 7]⟩
def h31 : Hints := ⟨[4, 8, 16, 79, 86], callsOf [(65, .spec s65), (66, .spec s66), (67, .spec s67), (68, .spec sNone)], [], [], []⟩
theorem hk31 : HOk prog h31 := hok_of ⟨g65, g66, g67, good_none _ _, trivial⟩ trivial trivial trivial
theorem e31 : elabF prog h31 [([0, 11, 49, 50, 51], [])] 31 = some c31 := by kernel_rfl
def s31 : Spec := fspec prog c31
theorem g31 : Good prog 31 s31 := good_fspec hk31 mixed e31

def c270 : AFn := ⟨2, (.seq (.region 0 [⟨(some 4), .mov, [.c (.int .i64 0)], none⟩])
  (.seq (.region 1 [⟨(some 5), .mov, [.c (.int .i64 1)], none⟩])
  (.seq (.seq (.region 2 [⟨(some 8), .mov, [.t 1], none⟩, ⟨(some 9), .lenV, [.t 8], none⟩, ⟨(some 10), .mov, [.c (.int .i64 0)], none⟩])
  (.block 0 (.loop [0, 5, 8, 9, 10] [] (.seq (.region 3 [⟨(some 11), .bin .lss 3 false true 0, [.t 10, .t 9], none⟩])
  (.seq (.cond (.t 11) .skip
  (.exit 0))
  (.seq (.block 1 (.seq (.region 4 [⟨(some 12), .iaddrS 1, [.t 8, .t 10], none⟩, ⟨(some 13), .load none, [.t 12], none⟩, ⟨(some 7), .mov, [.t 13], none⟩])
  (.seq (.seq (.region 5 [⟨(some 14), .mov, [.t 0], none⟩, ⟨(some 15), .mov, [.t 5], none⟩, ⟨(some 16), .call 233 s233, [.t 14, .t 15], none⟩, ⟨(some 17), .fld 0 none, [.t 16], none⟩, ⟨(some 18), .bin .neq 3 true true 0, [.t 17, .c (.int .i64 2)], none⟩])
  (.cond (.t 18) (.region 6 [⟨(some 19), .pcall 94 p94, [.c (.int .i64 103)], none⟩])
  .skip))
  (.seq (.region 7 [⟨(some 20), .mov, [.t 0], none⟩, ⟨(some 21), .mov, [.t 5], none⟩, ⟨(some 22), .mov, [.t 7], none⟩, ⟨(some 23), .call 271 sNone, [.t 20, .t 21, .t 22], none⟩, ⟨(some 5), .mov, [.t 23], none⟩])
  (.seq (.region 8 [⟨(some 24), .mov, [.t 5], none⟩, ⟨(some 25), .bin .eql 3 true true 0, [.t 24, .c (.int .i64 0)], none⟩])
  (.cond (.t 25) (.region 9 [⟨(some 26), .pcall 94 p94, [.c (.int .i64 100)], none⟩])
  .skip))))))
  (.region 10 [⟨(some 27), .bin .add 3 true true 0, [.t 10, .c (.int .i64 1)], none⟩, ⟨(some 10), .mov, [.t 27], none⟩])))))))
  (.seq (.region 11 [⟨(some 28), .mov, [.t 5], none⟩, ⟨(some 4), .mov, [.t 28], none⟩])
  .ret)))), [.t 4]⟩
def h270 : Hints := ⟨[], callsOf [(94, .pure p94), (233, .spec s233), (271, .spec sNone)], [], [], []⟩
theorem hk270 : HOk prog h270 := hok_of ⟨gp94, g233, good_none _ _, trivial⟩ trivial trivial trivial
theorem e270 : elabF prog h270 [([0, 5, 8, 9, 10], [])] 270 = some c270 := by kernel_rfl
def s270 : Spec := fspec prog c270
theorem g270 : Good prog 270 s270 := good_fspec hk270 mixed e270
end
end CwT
