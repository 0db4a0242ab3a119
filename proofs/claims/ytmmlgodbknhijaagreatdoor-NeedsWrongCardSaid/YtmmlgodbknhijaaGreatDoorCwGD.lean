/-
  The functions that the closed run comes to: their code for the evaluator, and that it is theirs.
-/
import Derived.Test.YtmmlgodbknhijaaGreatDoorCwGC
namespace CwT
open Go Cw
set_option maxRecDepth 100000
noncomputable section
def c62 : AFn := ⟨1, (.seq (.region 0 [⟨(some 2), .mov, [.c (.int .i64 0)], none⟩])
  (.seq (.region 1 [⟨(some 3), .mov, [.t 0], none⟩, ⟨(some 4), .nilc, [.t 3], none⟩, ⟨(some 5), .faddr 0, [.t 4], none⟩, ⟨(some 6), .load none, [.t 5], none⟩, ⟨(some 7), .lenV, [.t 6], none⟩, ⟨(some 2), .mov, [.t 7], none⟩])
  .ret)), [.t 2]⟩
def h62 : Hints := ⟨[], callsOf [], [], [], []⟩
theorem hk62 : HOk prog h62 := hok_of trivial trivial trivial trivial
theorem e62 : elabF prog h62 [] 62 = some c62 := by kernel_rfl
def s62 : Spec := fspec prog c62
theorem g62 : Good prog 62 s62 := good_fspec hk62 mixed e62

def c117 : AFn := ⟨3, (.seq (.region 0 [⟨(some 6), .mov, [.c (.int .i64 0)], none⟩])
  (.seq (.block 0 (.seq (.region 1 [⟨(some 8), .mov, [.t 1], none⟩, ⟨(some 9), .bin .lss 3 true true 0, [.t 8, .c (.int .i64 0)], none⟩, ⟨(some 10), .mov, [.t 9], none⟩, ⟨(some 11), .mov, [.t 1], (some (10, false))⟩, ⟨(some 12), .mov, [.t 0], (some (10, false))⟩, ⟨(some 13), .nilc, [.t 12], (some (10, false))⟩, ⟨(some 14), .faddr 0, [.t 13], (some (10, false))⟩, ⟨(some 15), .load none, [.t 14], (some (10, false))⟩, ⟨(some 16), .lenV, [.t 15], (some (10, false))⟩, ⟨(some 17), .bin .geq 3 false true 0, [.t 11, .t 16], (some (10, false))⟩, ⟨(some 18), .pick, [.t 10, .c (.bool true), .t 17], none⟩, ⟨(some 7), .mov, [.t 18], none⟩])
  (.cond (.t 7) (.seq (.region 2 [⟨(some 6), .mov, [.c (.int .i64 1)], none⟩])
  .ret)
  (.seq (.region 3 [⟨(some 20), .mov, [.t 2], none⟩, ⟨(some 21), .lenS, [.t 20], none⟩, ⟨(some 22), .bin .neq 3 true true 0, [.t 21, .c (.int .i64 64)], none⟩, ⟨(some 19), .mov, [.t 22], none⟩])
  (.cond (.t 19) (.seq (.region 4 [⟨(some 6), .mov, [.c (.int .i64 3)], none⟩])
  .ret)
  .skip)))))
  (.seq (.region 5 [⟨(some 6), .mov, [.c (.int .i64 0)], none⟩])
  .ret))), [.t 6]⟩
def h117 : Hints := ⟨[], callsOf [], [], [], []⟩
theorem hk117 : HOk prog h117 := hok_of trivial trivial trivial trivial
theorem e117 : elabF prog h117 [] 117 = some c117 := by kernel_rfl
def s117 : Spec := fspec prog c117
theorem g117 : Good prog 117 s117 := good_fspec hk117 mixed e117

def c63 : AFn := ⟨3, (.seq (.region 0 [⟨(some 6), .mov, [.c (.int .i64 0)], none⟩])
  (.seq (.region 1 [⟨(some 8), .mov, [.t 0], none⟩, ⟨(some 9), .mov, [.t 1], none⟩, ⟨(some 10), .mov, [.t 2], none⟩, ⟨(some 11), .call 117 s117, [.t 8, .t 9, .t 10], none⟩, ⟨(some 7), .mov, [.t 11], none⟩])
  (.seq (.seq (.region 2 [⟨(some 12), .mov, [.t 7], none⟩, ⟨(some 13), .bin .eql 38 true true 0, [.t 12, .c (.int .i64 0)], none⟩])
  (.cond (.t 13) (.region 3 [⟨(some 14), .mov, [.t 0], none⟩, ⟨(some 15), .nilc, [.t 14], none⟩, ⟨(some 16), .faddr 0, [.t 15], none⟩, ⟨(some 17), .load none, [.t 16], none⟩, ⟨(some 18), .mov, [.t 1], none⟩, ⟨(some 19), .mov, [.t 2], none⟩, ⟨(some 20), .iaddrS 1, [.t 17, .t 18], none⟩, ⟨none, .store 1, [.t 20, .t 19], none⟩])
  .skip))
  (.seq (.region 4 [⟨(some 21), .mov, [.t 7], none⟩, ⟨(some 6), .mov, [.t 21], none⟩])
  .ret)))), [.t 6]⟩
def h63 : Hints := ⟨[], callsOf [(117, .spec s117)], [], [], []⟩
theorem hk63 : HOk prog h63 := hok_of ⟨g117, trivial⟩ trivial trivial trivial
theorem e63 : elabF prog h63 [] 63 = some c63 := by kernel_rfl
def s63 : Spec := fspec prog c63
theorem g63 : Good prog 63 s63 := good_fspec hk63 mixed e63

def c28 : AFn := ⟨2, (.seq (.region 0 [⟨(some 3), .box (some 3), [.t 1], none⟩, ⟨(some 4), .mov, [.c (.int .i64 0)], none⟩])
  (.seq (.seq (.region 1 [⟨(some 9), .mov, [.t 0], none⟩, ⟨(some 10), .bin .eql 25 true true 1, [.t 9, .c (.pointer none)], none⟩])
  (.cond (.t 10) (.seq (.region 2 [⟨(some 4), .mov, [.c (.int .i64 5)], none⟩])
  .ret)
  .skip))
  (.seq (.region 3 [⟨(some 12), .load (some 3), [.t 3], none⟩, ⟨(some 13), .call 61 s61, [.t 12], none⟩, ⟨(some 11), .mov, [.t 13], none⟩, ⟨(some 14), .ext 0, [.t 11], none⟩, ⟨(some 15), .ext 1, [.t 11], none⟩, ⟨(some 5), .mov, [.t 14], none⟩, ⟨(some 6), .mov, [.t 15], none⟩])
  (.seq (.block 0 (.seq (.region 4 [⟨(some 17), .mov, [.t 6], none⟩, ⟨(some 18), .bin .neq 38 true true 0, [.t 17, .c (.int .i64 0)], none⟩, ⟨(some 16), .mov, [.t 18], none⟩])
  (.cond (.t 16) (.seq (.region 5 [⟨(some 19), .mov, [.t 6], none⟩, ⟨(some 4), .mov, [.t 19], none⟩])
  .ret)
  (.seq (.region 6 [⟨(some 21), .mov, [.t 5], none⟩, ⟨(some 22), .lenV, [.t 21], none⟩, ⟨(some 23), .mov, [.t 0], none⟩, ⟨(some 24), .call 62 s62, [.t 23], none⟩, ⟨(some 25), .bin .neq 3 false true 0, [.t 22, .t 24], none⟩, ⟨(some 20), .mov, [.t 25], none⟩])
  (.cond (.t 20) (.seq (.region 7 [⟨(some 4), .mov, [.c (.int .i64 4)], none⟩])
  .ret)
  .skip)))))
  (.seq (.seq (.region 8 [⟨(some 26), .mov, [.t 5], none⟩, ⟨(some 27), .lenV, [.t 26], none⟩, ⟨(some 28), .mov, [.c (.int .i64 0)], none⟩])
  (.block 1 (.loop [0, 26, 27, 28] [] (.seq (.region 9 [⟨(some 29), .bin .lss 3 false true 0, [.t 28, .t 27], none⟩])
  (.seq (.cond (.t 29) .skip
  (.exit 1))
  (.seq (.block 2 (.seq (.region 10 [⟨(some 30), .mov, [.t 28], none⟩, ⟨(some 31), .iaddrS 1, [.t 26, .t 28], none⟩, ⟨(some 32), .load none, [.t 31], none⟩, ⟨(some 7), .mov, [.t 30], none⟩, ⟨(some 8), .mov, [.t 32], none⟩])
  (.region 11 [⟨(some 33), .mov, [.t 0], none⟩, ⟨(some 34), .mov, [.t 7], none⟩, ⟨(some 35), .mov, [.t 8], none⟩, ⟨(some 36), .call 63 s63, [.t 33, .t 34, .t 35], none⟩])))
  (.region 12 [⟨(some 37), .bin .add 3 true true 0, [.t 28, .c (.int .i64 1)], none⟩, ⟨(some 28), .mov, [.t 37], none⟩])))))))
  (.seq (.region 13 [⟨(some 4), .mov, [.c (.int .i64 0)], none⟩])
  .ret)))))), [.t 4]⟩
def h28 : Hints := ⟨[3], callsOf [(61, .spec s61), (62, .spec s62), (63, .spec s63)], [], [], []⟩
theorem hk28 : HOk prog h28 := hok_of ⟨g61, g62, g63, trivial⟩ trivial trivial trivial
theorem e28 : elabF prog h28 [([0, 26, 27, 28], [])] 28 = some c28 := by kernel_rfl
def s28 : Spec := fspec prog c28
theorem g28 : Good prog 28 s28 := good_fspec hk28 mixed e28

def c41 : AFn := ⟨0, (.seq (.region 0 [⟨(some 0), .mov, [.c (.pointer none)], none⟩])
  (.seq (.region 1 [⟨(some 1), .build [(.slice none 0 0), (.int .i64 0)] [], [], none⟩, ⟨(some 2), .box none, [.t 1], none⟩, ⟨(some 0), .mov, [.t 2], none⟩])
  .ret)), [.t 0]⟩
def h41 : Hints := ⟨[], callsOf [], [], [], []⟩
theorem hk41 : HOk prog h41 := hok_of trivial trivial trivial trivial
theorem e41 : elabF prog h41 [] 41 = some c41 := by kernel_rfl
def s41 : Spec := fspec prog c41
theorem g41 : Good prog 41 s41 := good_fspec hk41 mixed e41

def c14 : AFn := ⟨3, (.seq (.region 0 [⟨(some 6), .mov, [.c (.pointer none)], none⟩, ⟨(some 7), .mov, [.c (.int .i64 0)], none⟩])
  (.seq (.block 0 (.seq (.region 1 [⟨(some 9), .mov, [.t 0], none⟩, ⟨(some 10), .bin .eql 25 true true 1, [.t 9, .c (.pointer none)], none⟩, ⟨(some 8), .mov, [.t 10], none⟩])
  (.cond (.t 8) (.seq (.region 2 [⟨(some 6), .mov, [.c (.pointer none)], none⟩, ⟨(some 7), .mov, [.c (.int .i64 5)], none⟩])
  .ret)
  (.seq (.region 3 [⟨(some 12), .mov, [.t 1], none⟩, ⟨(some 13), .bin .lss 3 true true 0, [.t 12, .c (.int .i64 0)], none⟩, ⟨(some 14), .mov, [.t 13], none⟩, ⟨(some 15), .mov, [.t 1], (some (14, false))⟩, ⟨(some 16), .bin .geq 3 true true 0, [.t 15, .c (.int .i64 2)], (some (14, false))⟩, ⟨(some 17), .pick, [.t 14, .c (.bool true), .t 16], none⟩, ⟨(some 18), .mov, [.t 17], none⟩, ⟨(some 19), .mov, [.t 2], (some (18, false))⟩, ⟨(some 20), .bin .lss 3 true true 0, [.t 19, .c (.int .i64 0)], (some (18, false))⟩, ⟨(some 21), .pick, [.t 18, .c (.bool true), .t 20], none⟩, ⟨(some 22), .mov, [.t 21], none⟩, ⟨(some 23), .mov, [.t 2], (some (22, false))⟩, ⟨(some 24), .bin .gtr 3 true true 0, [.t 23, .c (.int .i64 4294967295)], (some (22, false))⟩, ⟨(some 25), .pick, [.t 22, .c (.bool true), .t 24], none⟩, ⟨(some 11), .mov, [.t 25], none⟩])
  (.cond (.t 11) (.seq (.region 4 [⟨(some 6), .mov, [.c (.pointer none)], none⟩, ⟨(some 7), .mov, [.c (.int .i64 1)], none⟩])
  .ret)
  .skip)))))
  (.seq (.region 5 [⟨(some 26), .call 41 s41, [], none⟩, ⟨(some 27), .mov, [.t 0], none⟩, ⟨(some 28), .mov, [.t 1], none⟩, ⟨(some 29), .mov, [.t 2], none⟩, ⟨(some 30), .mkmap, [], none⟩, ⟨(some 31), .build [(.pointer none), (.pointer none), (.int .i64 0), (.int .i64 0), (.map none)] [(0, 1), (1, 1), (2, 1), (3, 1), (4, 1)], [.t 26, .t 27, .t 28, .t 29, .t 30], none⟩, ⟨(some 32), .box none, [.t 31], none⟩, ⟨(some 6), .mov, [.t 32], none⟩, ⟨(some 7), .mov, [.c (.int .i64 0)], none⟩])
  .ret))), [.t 6, .t 7]⟩
def h14 : Hints := ⟨[], callsOf [(41, .spec s41)], [], [], []⟩
theorem hk14 : HOk prog h14 := hok_of ⟨g41, trivial⟩ trivial trivial trivial
theorem e14 : elabF prog h14 [] 14 = some c14 := by kernel_rfl
def s14 : Spec := fspec prog c14
theorem g14 : Good prog 14 s14 := good_fspec hk14 mixed e14

def c45 : AFn := ⟨1, (.seq (.region 0 [⟨(some 1), .box (some 1), [.t 0], none⟩, ⟨(some 2), .mov, [.c (.pointer none)], none⟩, ⟨(some 3), .mov, [.c (.pointer none)], none⟩])
  (.seq (.region 1 [⟨(some 8), .load (some 3), [.t 1], none⟩, ⟨(some 9), .pcall 27 p27, [.t 8], none⟩, ⟨(some 10), .call 26 s26, [.t 9], none⟩, ⟨(some 7), .mov, [.t 10], none⟩, ⟨(some 11), .ext 0, [.t 7], none⟩, ⟨(some 12), .ext 1, [.t 7], none⟩, ⟨(some 4), .mov, [.t 11], none⟩, ⟨(some 5), .mov, [.t 12], none⟩])
  (.seq (.seq (.region 2 [⟨(some 13), .mov, [.t 4], none⟩, ⟨(some 14), .bin .eql 25 true true 1, [.t 13, .c (.pointer none)], none⟩, ⟨(some 15), .mov, [.t 14], none⟩, ⟨(some 16), .mov, [.t 5], (some (15, false))⟩, ⟨(some 17), .bin .neq 38 true true 0, [.t 16, .c (.int .i64 0)], (some (15, false))⟩, ⟨(some 18), .pick, [.t 15, .c (.bool true), .t 17], none⟩, ⟨(some 19), .mov, [.t 18], none⟩, ⟨(some 20), .mov, [.t 4], (some (19, false))⟩, ⟨(some 21), .load (some 3), [.t 1], (some (19, false))⟩, ⟨(some 22), .call 28 s28, [.t 20, .t 21], (some (19, false))⟩, ⟨(some 23), .bin .neq 38 true true 0, [.t 22, .c (.int .i64 0)], (some (19, false))⟩, ⟨(some 24), .pick, [.t 19, .c (.bool true), .t 23], none⟩])
  (.cond (.t 24) (.seq (.region 3 [⟨(some 2), .mov, [.c (.pointer none)], none⟩, ⟨(some 3), .mov, [.c (.pointer none)], none⟩])
  .ret)
  .skip))
  (.seq (.region 4 [⟨(some 26), .mov, [.t 4], none⟩, ⟨(some 27), .call 14 s14, [.t 26, .c (.int .i64 0), .c (.int .i64 0)], none⟩, ⟨(some 25), .mov, [.t 27], none⟩, ⟨(some 28), .ext 0, [.t 25], none⟩, ⟨(some 29), .ext 1, [.t 25], none⟩, ⟨(some 6), .mov, [.t 28], none⟩, ⟨(some 5), .mov, [.t 29], none⟩])
  (.seq (.seq (.region 5 [⟨(some 30), .mov, [.t 5], none⟩, ⟨(some 31), .bin .neq 38 true true 0, [.t 30, .c (.int .i64 0)], none⟩])
  (.cond (.t 31) (.seq (.region 6 [⟨(some 2), .mov, [.c (.pointer none)], none⟩, ⟨(some 3), .mov, [.c (.pointer none)], none⟩])
  .ret)
  .skip))
  (.seq (.region 7 [⟨(some 32), .mov, [.t 4], none⟩, ⟨(some 33), .mov, [.t 6], none⟩, ⟨(some 2), .mov, [.t 32], none⟩, ⟨(some 3), .mov, [.t 33], none⟩])
  .ret)))))), [.t 2, .t 3]⟩
def h45 : Hints := ⟨[1], callsOf [(14, .spec s14), (26, .spec s26), (27, .pure p27), (28, .spec s28)], [], [], []⟩
theorem hk45 : HOk prog h45 := hok_of ⟨g14, g26, gp27, g28, trivial⟩ trivial trivial trivial
theorem e45 : elabF prog h45 [] 45 = some c45 := by kernel_rfl
def s45 : Spec := fspec prog c45
theorem g45 : Good prog 45 s45 := good_fspec hk45 mixed e45

def c84 : AFn := ⟨1, (.seq (.region 0 [⟨(some 2), .mov, [.c (.slice none 0 0)], none⟩])
  (.seq (.seq (.region 1 [⟨(some 3), .mov, [.t 0], none⟩, ⟨(some 4), .bin .eql 32 true true 2, [.t 3, .c (.slice none 0 0)], none⟩])
  (.cond (.t 4) (.seq (.region 2 [⟨(some 2), .mov, [.c (.slice none 0 0)], none⟩])
  .ret)
  .skip))
  (.seq (.region 3 [⟨(some 5), .bslice none 1 0 [] [], [], none⟩, ⟨(some 6), .mov, [.t 0], none⟩, ⟨(some 7), .append 1 8, [.t 5, .t 6], none⟩, ⟨(some 2), .mov, [.t 7], none⟩])
  .ret))), [.t 2]⟩
def h84 : Hints := ⟨[], callsOf [], [], [], []⟩
theorem hk84 : HOk prog h84 := hok_of trivial trivial trivial trivial
theorem e84 : elabF prog h84 [] 84 = some c84 := by kernel_rfl
def s84 : Spec := fspec prog c84
theorem g84 : Good prog 84 s84 := good_fspec hk84 mixed e84

def c157 : AFn := ⟨1, (.seq (.region 0 [⟨(some 2), .mov, [.c (.int .i64 0)], none⟩])
  (.seq (.seq (.region 1 [⟨(some 3), .mov, [.t 0], none⟩, ⟨(some 4), .bin .geq 253 true true 0, [.t 3, .c (.int .u64 4294967296)], none⟩])
  (.cond (.t 4) (.seq (.region 2 [⟨(some 5), .mov, [.t 0], none⟩, ⟨(some 6), .bin .shr 253 true true 0, [.t 5, .c (.int .u64 32)], none⟩, ⟨(some 0), .mov, [.t 6], none⟩])
  (.region 3 [⟨(some 2), .mov, [.c (.int .i64 32)], none⟩]))
  .skip))
  (.seq (.seq (.region 4 [⟨(some 7), .mov, [.t 0], none⟩, ⟨(some 8), .bin .geq 253 true true 0, [.t 7, .c (.int .u64 65536)], none⟩])
  (.cond (.t 8) (.seq (.region 5 [⟨(some 9), .mov, [.t 0], none⟩, ⟨(some 10), .bin .shr 253 true true 0, [.t 9, .c (.int .u64 16)], none⟩, ⟨(some 0), .mov, [.t 10], none⟩])
  (.region 6 [⟨(some 11), .mov, [.t 2], none⟩, ⟨(some 12), .bin .add 3 true true 0, [.t 11, .c (.int .i64 16)], none⟩, ⟨(some 2), .mov, [.t 12], none⟩]))
  .skip))
  (.seq (.seq (.region 7 [⟨(some 13), .mov, [.t 0], none⟩, ⟨(some 14), .bin .geq 253 true true 0, [.t 13, .c (.int .u64 256)], none⟩])
  (.cond (.t 14) (.seq (.region 8 [⟨(some 15), .mov, [.t 0], none⟩, ⟨(some 16), .bin .shr 253 true true 0, [.t 15, .c (.int .u64 8)], none⟩, ⟨(some 0), .mov, [.t 16], none⟩])
  (.region 9 [⟨(some 17), .mov, [.t 2], none⟩, ⟨(some 18), .bin .add 3 true true 0, [.t 17, .c (.int .i64 8)], none⟩, ⟨(some 2), .mov, [.t 18], none⟩]))
  .skip))
  (.seq (.region 10 [⟨(some 19), .mov, [.t 2], none⟩, ⟨(some 20), .mov, [.t 0], none⟩, ⟨(some 21), .convI .u8, [.t 20], none⟩, ⟨(some 22), .idxS, [.c (mkStr [0, 1, 2, 2, 3, 3, 3, 3, 4, 4, 4, 4, 4, 4, 4, 4, 5, 5, 5, 5, 5, 5, 5, 5, 5, 5, 5, 5, 5, 5, 5, 5, 6, 6, 6, 6, 6, 6, 6, 6, 6, 6, 6, 6, 6, 6, 6, 6, 6, 6, 6, 6, 6, 6, 6, 6, 6, 6, 6, 6, 6, 6, 6, 6, 7, 7, 7, 7, 7, 7, 7, 7, 7, 7, 7, 7, 7, 7, 7, 7, 7, 7, 7, 7, 7, 7, 7, 7, 7, 7, 7, 7, 7, 7, 7, 7, 7, 7, 7, 7, 7, 7, 7, 7, 7, 7, 7, 7, 7, 7, 7, 7, 7, 7, 7, 7, 7, 7, 7, 7, 7, 7, 7, 7, 7, 7, 7, 7, 8, 8, 8, 8, 8, 8, 8, 8, 8, 8, 8, 8, 8, 8, 8, 8, 8, 8, 8, 8, 8, 8, 8, 8, 8, 8, 8, 8, 8, 8, 8, 8, 8, 8, 8, 8, 8, 8, 8, 8, 8, 8, 8, 8, 8, 8, 8, 8, 8, 8, 8, 8, 8, 8, 8, 8, 8, 8, 8, 8, 8, 8, 8, 8, 8, 8, 8, 8, 8, 8, 8, 8, 8, 8, 8, 8, 8, 8, 8, 8, 8, 8, 8, 8, 8, 8, 8, 8, 8, 8, 8, 8, 8, 8, 8, 8, 8, 8, 8, 8, 8, 8, 8, 8, 8, 8, 8, 8, 8, 8, 8, 8, 8, 8, 8, 8, 8, 8, 8, 8, 8, 8, 8, 8, 8, 8, 8, 8]), .t 21], none⟩, ⟨(some 23), .convI .i64, [.t 22], none⟩, ⟨(some 24), .bin .add 3 false true 0, [.t 19, .t 23], none⟩, ⟨(some 2), .mov, [.t 24], none⟩])
  .ret))))), [.t 2]⟩
def h157 : Hints := ⟨[], callsOf [], [], [], []⟩
theorem hk157 : HOk prog h157 := hok_of trivial trivial trivial trivial
theorem e157 : elabF prog h157 [] 157 = some c157 := by kernel_rfl
def s157 : Spec := fspec prog c157
theorem g157 : Good prog 157 s157 := good_fspec hk157 mixed e157
def t157 : List (List Value × Res) := [([(.int .u64 0)], (.ret (.int .i64 0))),
  ([(.int .u64 1)], (.ret (.int .i64 1)))]
def p157 : PSpec := tab t157
theorem k157 : tabOk s157 t157 = true := by kernel_rfl
theorem gp157 : GoodP prog 157 p157 := goodP_tab g157 k157

def c82 : AFn := ⟨1, (.seq (.region 0 [⟨(some 2), .mov, [.c (.int .i64 0)], none⟩])
  (.seq (.cond (.c (.bool false)) (.seq (.region 1 [⟨(some 3), .mov, [.t 0], none⟩, ⟨(some 4), .convI .u32, [.t 3], none⟩, ⟨(some 5), .call 156 sNone, [.t 4], none⟩, ⟨(some 2), .mov, [.t 5], none⟩])
  .ret)
  .skip)
  (.seq (.region 2 [⟨(some 6), .mov, [.t 0], none⟩, ⟨(some 7), .pcall 157 p157, [.t 6], none⟩, ⟨(some 2), .mov, [.t 7], none⟩])
  .ret))), [.t 2]⟩
def h82 : Hints := ⟨[], callsOf [(156, .spec sNone), (157, .pure p157)], [], [], []⟩
theorem hk82 : HOk prog h82 := hok_of ⟨good_none _ _, gp157, trivial⟩ trivial trivial trivial
theorem e82 : elabF prog h82 [] 82 = some c82 := by kernel_rfl
def s82 : Spec := fspec prog c82
theorem g82 : Good prog 82 s82 := good_fspec hk82 mixed e82
def t82 : List (List Value × Res) := [([(.int .u64 0)], (.ret (.int .i64 0))),
  ([(.int .u64 1)], (.ret (.int .i64 1)))]
def p82 : PSpec := tab t82
theorem k82 : tabOk s82 t82 = true := by kernel_rfl
theorem gp82 : GoodP prog 82 p82 := goodP_tab g82 k82

def c217 : AFn := ⟨3, (.seq (.region 0 [⟨(some 8), .mov, [.t 1], none⟩, ⟨(some 9), .bin .add 3 true true 0, [.t 8, .c (.int .i64 1)], none⟩, ⟨(some 6), .mov, [.t 9], none⟩])
  (.block 0 (.loop [0, 1, 2, 6] [] (.seq (.seq (.region 1 [⟨(some 10), .mov, [.t 6], none⟩, ⟨(some 11), .mov, [.t 2], none⟩, ⟨(some 12), .bin .lss 3 false true 0, [.t 10, .t 11], none⟩])
  (.cond (.t 12) .skip
  (.exit 0)))
  (.seq (.block 1 (.seq (.region 3 [⟨(some 15), .mov, [.t 6], none⟩, ⟨(some 7), .mov, [.t 15], none⟩])
  (.block 2 (.loop [0, 1, 2, 6, 7] [] (.seq (.seq (.draw 4 [⟨(some 16), .mov, [.t 7], none⟩, ⟨(some 17), .mov, [.t 1], none⟩, ⟨(some 18), .bin .gtr 3 false true 0, [.t 16, .t 17], none⟩, ⟨(some 19), .mov, [.t 18], none⟩, ⟨(some 20), .mov, [.t 0], (some (19, true))⟩, ⟨(some 21), .mov, [.t 7], (some (19, true))⟩, ⟨(some 22), .iaddrS 1, [.t 20, .t 21], (some (19, true))⟩, ⟨(some 23), .load none, [.t 22], (some (19, true))⟩, ⟨(some 24), .mov, [.t 0], (some (19, true))⟩, ⟨(some 25), .mov, [.t 7], (some (19, true))⟩, ⟨(some 26), .bin .sub 3 true true 0, [.t 25, .c (.int .i64 1)], (some (19, true))⟩, ⟨(some 27), .iaddrS 1, [.t 24, .t 26], (some (19, true))⟩, ⟨(some 28), .load none, [.t 27], (some (19, true))⟩, ⟨(some 29), .call 223 sNone, [.t 23, .t 28], (some (19, true))⟩, ⟨(some 30), .pick, [.t 19, .t 29, .c (.bool false)], none⟩] [([1], []), ([0], []), ([], []), ([], []), ([5, 8, 9, 10, 11, 12], []), ([4, 8, 9, 10, 11, 12], []), ([8, 9, 10, 11, 12], []), ([8, 9, 10, 11, 12], []), ([4, 5, 6, 7, 9, 10], []), ([4, 5, 6, 7, 8], []), ([4, 5, 6, 7, 8], []), ([4, 5, 6, 7], []), ([4, 5, 6, 7], []), ([], []), ([], [])])
  (.cond (.t 30) .skip
  (.exit 2)))
  (.seq (.block 3 (.draw 6 [⟨(some 33), .mov, [.t 0], none⟩, ⟨(some 34), .mov, [.t 7], none⟩, ⟨(some 35), .mov, [.t 0], none⟩, ⟨(some 36), .mov, [.t 7], none⟩, ⟨(some 37), .bin .sub 3 true true 0, [.t 36, .c (.int .i64 1)], none⟩, ⟨(some 38), .mov, [.t 0], none⟩, ⟨(some 39), .mov, [.t 7], none⟩, ⟨(some 40), .bin .sub 3 true true 0, [.t 39, .c (.int .i64 1)], none⟩, ⟨(some 41), .iaddrS 1, [.t 38, .t 40], none⟩, ⟨(some 42), .load none, [.t 41], none⟩, ⟨(some 43), .mov, [.t 0], none⟩, ⟨(some 44), .mov, [.t 7], none⟩, ⟨(some 45), .iaddrS 1, [.t 43, .t 44], none⟩, ⟨(some 46), .load none, [.t 45], none⟩, ⟨(some 47), .iaddrS 1, [.t 33, .t 34], none⟩, ⟨none, .store 1, [.t 47, .t 42], none⟩, ⟨(some 48), .iaddrS 1, [.t 35, .t 37], none⟩, ⟨none, .store 1, [.t 48, .t 46], none⟩] [([1, 2, 3, 4, 5, 6, 7, 8, 9, 10, 11, 12, 13], []), ([0, 2, 3, 4, 5, 6, 7, 8, 9, 10, 11, 12, 13], []), ([0, 1, 3, 4, 5, 6, 7, 8, 9, 10, 11, 12, 13, 14, 15], []), ([0, 1, 2, 5, 6, 7, 8, 9, 10, 11, 12, 13, 14, 15], []), ([0, 1, 2, 5, 6, 7, 8, 9, 10, 11, 12, 13, 14, 15], [16]), ([0, 1, 2, 3, 4, 6, 7, 10, 11, 12, 13], []), ([0, 1, 2, 3, 4, 5, 10, 11, 12, 13], []), ([0, 1, 2, 3, 4, 5, 10, 11, 12, 13], []), ([0, 1, 2, 3, 4, 10, 11, 12, 13], []), ([0, 1, 2, 3, 4, 10, 11, 12, 13], []), ([0, 1, 2, 3, 4, 5, 6, 7, 8, 9, 11], []), ([0, 1, 2, 3, 4, 5, 6, 7, 8, 9, 10], []), ([0, 1, 2, 3, 4, 5, 6, 7, 8, 9], []), ([0, 1, 2, 3, 4, 5, 6, 7, 8, 9], []), ([2, 3, 4], []), ([2, 3, 4], []), ([], []), ([], [])]))
  (.region 5 [⟨(some 31), .mov, [.t 7], none⟩, ⟨(some 32), .bin .sub 3 true true 0, [.t 31, .c (.int .i64 1)], none⟩, ⟨(some 7), .mov, [.t 32], none⟩])))))))
  (.region 2 [⟨(some 13), .mov, [.t 6], none⟩, ⟨(some 14), .bin .add 3 true true 0, [.t 13, .c (.int .i64 1)], none⟩, ⟨(some 6), .mov, [.t 14], none⟩])))))), []⟩
def h217 : Hints := ⟨[], callsOf [(223, .spec sNone)], [], [], []⟩
theorem hk217 : HOk prog h217 := hok_of ⟨good_none _ _, trivial⟩ trivial trivial trivial
theorem e217 : elabF prog h217 [([0, 1, 2, 6], []), ([0, 1, 2, 6, 7], [])] 217 = some c217 := by kernel_rfl
def s217 : Spec := fspec prog c217
theorem g217 : Good prog 217 s217 := good_fspec hk217 mixed e217

def c158 : AFn := ⟨4, (.seq (.region 0 [⟨(some 8), .mov, [.c (.bool true)], none⟩])
  (.seq (.region 1 [⟨(some 9), .mov, [.c (.bool true)], none⟩])
  (.block 0 (.loop [0, 1, 2, 3, 8, 9] [] (.block 1 (.seq (.region 2 [⟨(some 19), .mov, [.t 2], none⟩, ⟨(some 20), .mov, [.t 1], none⟩, ⟨(some 21), .bin .sub 3 false true 0, [.t 19, .t 20], none⟩, ⟨(some 10), .mov, [.t 21], none⟩])
  (.seq (.seq (.region 3 [⟨(some 22), .mov, [.t 10], none⟩, ⟨(some 23), .bin .leq 3 true true 0, [.t 22, .c (.int .i64 12)], none⟩])
  (.cond (.t 23) (.seq (.region 4 [⟨(some 24), .mov, [.t 0], none⟩, ⟨(some 25), .mov, [.t 1], none⟩, ⟨(some 26), .mov, [.t 2], none⟩, ⟨(some 27), .call 217 s217, [.t 24, .t 25, .t 26], none⟩])
  .ret)
  .skip))
  (.seq (.seq (.region 5 [⟨(some 28), .mov, [.t 3], none⟩, ⟨(some 29), .bin .eql 3 true true 0, [.t 28, .c (.int .i64 0)], none⟩])
  (.cond (.t 29) (.seq (.region 6 [⟨(some 30), .mov, [.t 0], none⟩, ⟨(some 31), .mov, [.t 1], none⟩, ⟨(some 32), .mov, [.t 2], none⟩, ⟨(some 33), .call 218 sNone, [.t 30, .t 31, .t 32], none⟩])
  .ret)
  .skip))
  (.seq (.seq (.region 7 [⟨(some 34), .mov, [.t 8], none⟩, ⟨(some 35), .un .not, [.t 34], none⟩])
  (.cond (.t 35) (.seq (.region 8 [⟨(some 36), .mov, [.t 0], none⟩, ⟨(some 37), .mov, [.t 1], none⟩, ⟨(some 38), .mov, [.t 2], none⟩, ⟨(some 39), .call 219 sNone, [.t 36, .t 37, .t 38], none⟩])
  (.region 9 [⟨(some 40), .mov, [.t 3], none⟩, ⟨(some 41), .bin .sub 3 true true 0, [.t 40, .c (.int .i64 1)], none⟩, ⟨(some 3), .mov, [.t 41], none⟩]))
  .skip))
  (.seq (.region 10 [⟨(some 43), .mov, [.t 0], none⟩, ⟨(some 44), .mov, [.t 1], none⟩, ⟨(some 45), .mov, [.t 2], none⟩, ⟨(some 46), .call 220 sNone, [.t 43, .t 44, .t 45], none⟩, ⟨(some 42), .mov, [.t 46], none⟩, ⟨(some 47), .ext 0, [.t 42], none⟩, ⟨(some 48), .ext 1, [.t 42], none⟩, ⟨(some 11), .mov, [.t 47], none⟩, ⟨(some 12), .mov, [.t 48], none⟩])
  (.seq (.seq (.region 11 [⟨(some 49), .mov, [.t 12], none⟩, ⟨(some 50), .bin .eql 244 true true 0, [.t 49, .c (.int .i64 2)], none⟩])
  (.cond (.t 50) (.seq (.region 12 [⟨(some 51), .mov, [.t 0], none⟩, ⟨(some 52), .mov, [.t 1], none⟩, ⟨(some 53), .mov, [.t 2], none⟩, ⟨(some 54), .call 221 sNone, [.t 51, .t 52, .t 53], none⟩])
  (.seq (.region 13 [⟨(some 55), .mov, [.t 2], none⟩, ⟨(some 56), .bin .sub 3 true true 0, [.t 55, .c (.int .i64 1)], none⟩, ⟨(some 57), .mov, [.t 11], none⟩, ⟨(some 58), .mov, [.t 1], none⟩, ⟨(some 59), .bin .sub 3 false true 0, [.t 57, .t 58], none⟩, ⟨(some 60), .bin .sub 3 false true 0, [.t 56, .t 59], none⟩, ⟨(some 11), .mov, [.t 60], none⟩])
  (.region 14 [⟨(some 12), .mov, [.c (.int .i64 1)], none⟩])))
  .skip))
  (.seq (.seq (.region 15 [⟨(some 61), .mov, [.t 8], none⟩, ⟨(some 62), .mov, [.t 61], none⟩, ⟨(some 63), .mov, [.t 9], (some (62, true))⟩, ⟨(some 64), .pick, [.t 62, .t 63, .c (.bool false)], none⟩, ⟨(some 65), .mov, [.t 64], none⟩, ⟨(some 66), .mov, [.t 12], (some (65, true))⟩, ⟨(some 67), .bin .eql 244 true true 0, [.t 66, .c (.int .i64 1)], (some (65, true))⟩, ⟨(some 68), .pick, [.t 65, .t 67, .c (.bool false)], none⟩])
  (.cond (.t 68) (.seq (.region 16 [⟨(some 69), .mov, [.t 0], none⟩, ⟨(some 70), .mov, [.t 1], none⟩, ⟨(some 71), .mov, [.t 2], none⟩, ⟨(some 72), .call 222 sNone, [.t 69, .t 70, .t 71], none⟩])
  (.cond (.t 72) .ret
  .skip))
  .skip))
  (.seq (.seq (.draw 17 [⟨(some 73), .mov, [.t 1], none⟩, ⟨(some 74), .bin .gtr 3 true true 0, [.t 73, .c (.int .i64 0)], none⟩, ⟨(some 75), .mov, [.t 74], none⟩, ⟨(some 76), .mov, [.t 0], (some (75, true))⟩, ⟨(some 77), .mov, [.t 1], (some (75, true))⟩, ⟨(some 78), .bin .sub 3 true true 0, [.t 77, .c (.int .i64 1)], (some (75, true))⟩, ⟨(some 79), .iaddrS 1, [.t 76, .t 78], (some (75, true))⟩, ⟨(some 80), .load none, [.t 79], (some (75, true))⟩, ⟨(some 81), .mov, [.t 0], (some (75, true))⟩, ⟨(some 82), .mov, [.t 11], (some (75, true))⟩, ⟨(some 83), .iaddrS 1, [.t 81, .t 82], (some (75, true))⟩, ⟨(some 84), .load none, [.t 83], (some (75, true))⟩, ⟨(some 85), .call 223 sNone, [.t 80, .t 84], (some (75, true))⟩, ⟨(some 86), .un .not, [.t 85], (some (75, true))⟩, ⟨(some 87), .pick, [.t 75, .t 86, .c (.bool false)], none⟩] [([], []), ([], []), ([], []), ([4, 5, 8, 9, 10, 11], []), ([3, 8, 9, 10, 11], []), ([3, 8, 9, 10, 11], []), ([8, 9, 10, 11], []), ([8, 9, 10, 11], []), ([3, 4, 5, 6, 7, 9], []), ([3, 4, 5, 6, 7, 8], []), ([3, 4, 5, 6, 7], []), ([3, 4, 5, 6, 7], []), ([], []), ([], []), ([], [])])
  (.cond (.t 87) (.seq (.region 18 [⟨(some 88), .mov, [.t 0], none⟩, ⟨(some 89), .mov, [.t 1], none⟩, ⟨(some 90), .mov, [.t 2], none⟩, ⟨(some 91), .mov, [.t 11], none⟩, ⟨(some 92), .call 224 sNone, [.t 88, .t 89, .t 90, .t 91], none⟩, ⟨(some 13), .mov, [.t 92], none⟩])
  (.seq (.region 19 [⟨(some 93), .mov, [.t 13], none⟩, ⟨(some 1), .mov, [.t 93], none⟩])
  (.exit 1)))
  .skip))
  (.seq (.region 20 [⟨(some 95), .mov, [.t 0], none⟩, ⟨(some 96), .mov, [.t 1], none⟩, ⟨(some 97), .mov, [.t 2], none⟩, ⟨(some 98), .mov, [.t 11], none⟩, ⟨(some 99), .call 225 sNone, [.t 95, .t 96, .t 97, .t 98], none⟩, ⟨(some 94), .mov, [.t 99], none⟩, ⟨(some 100), .ext 0, [.t 94], none⟩, ⟨(some 101), .ext 1, [.t 94], none⟩, ⟨(some 14), .mov, [.t 100], none⟩, ⟨(some 15), .mov, [.t 101], none⟩])
  (.seq (.region 21 [⟨(some 102), .mov, [.t 15], none⟩, ⟨(some 9), .mov, [.t 102], none⟩])
  (.seq (.region 22 [⟨(some 103), .mov, [.t 14], none⟩, ⟨(some 104), .mov, [.t 1], none⟩, ⟨(some 105), .bin .sub 3 false true 0, [.t 103, .t 104], none⟩, ⟨(some 106), .mov, [.t 2], none⟩, ⟨(some 107), .mov, [.t 14], none⟩, ⟨(some 108), .bin .sub 3 false true 0, [.t 106, .t 107], none⟩, ⟨(some 16), .mov, [.t 105], none⟩, ⟨(some 17), .mov, [.t 108], none⟩])
  (.seq (.region 23 [⟨(some 109), .mov, [.t 10], none⟩, ⟨(some 110), .bin .quo 3 true true 0, [.t 109, .c (.int .i64 8)], none⟩, ⟨(some 18), .mov, [.t 110], none⟩])
  (.seq (.region 24 [⟨(some 111), .mov, [.t 16], none⟩, ⟨(some 112), .mov, [.t 17], none⟩, ⟨(some 113), .bin .lss 3 false true 0, [.t 111, .t 112], none⟩])
  (.cond (.t 113) (.seq (.region 25 [⟨(some 114), .mov, [.t 16], none⟩, ⟨(some 115), .mov, [.t 18], none⟩, ⟨(some 116), .bin .geq 3 false true 0, [.t 114, .t 115], none⟩, ⟨(some 8), .mov, [.t 116], none⟩])
  (.seq (.region 26 [⟨(some 117), .mov, [.t 0], none⟩, ⟨(some 118), .mov, [.t 1], none⟩, ⟨(some 119), .mov, [.t 14], none⟩, ⟨(some 120), .mov, [.t 3], none⟩, ⟨(some 121), .call 158 sNone, [.t 117, .t 118, .t 119, .t 120], none⟩])
  (.region 27 [⟨(some 122), .mov, [.t 14], none⟩, ⟨(some 123), .bin .add 3 true true 0, [.t 122, .c (.int .i64 1)], none⟩, ⟨(some 1), .mov, [.t 123], none⟩])))
  (.seq (.region 28 [⟨(some 124), .mov, [.t 17], none⟩, ⟨(some 125), .mov, [.t 18], none⟩, ⟨(some 126), .bin .geq 3 false true 0, [.t 124, .t 125], none⟩, ⟨(some 8), .mov, [.t 126], none⟩])
  (.seq (.region 29 [⟨(some 127), .mov, [.t 0], none⟩, ⟨(some 128), .mov, [.t 14], none⟩, ⟨(some 129), .bin .add 3 true true 0, [.t 128, .c (.int .i64 1)], none⟩, ⟨(some 130), .mov, [.t 2], none⟩, ⟨(some 131), .mov, [.t 3], none⟩, ⟨(some 132), .call 158 sNone, [.t 127, .t 129, .t 130, .t 131], none⟩])
  (.region 30 [⟨(some 133), .mov, [.t 14], none⟩, ⟨(some 2), .mov, [.t 133], none⟩])))))))))))))))))))))), []⟩
def h158 : Hints := ⟨[], callsOf [(158, .spec sNone), (217, .spec s217), (218, .spec sNone), (219, .spec sNone), (220, .spec sNone), (221, .spec sNone), (222, .spec sNone), (223, .spec sNone), (224, .spec sNone), (225, .spec sNone)], [], [], []⟩
theorem hk158 : HOk prog h158 := hok_of ⟨good_none _ _, g217, good_none _ _, good_none _ _, good_none _ _, good_none _ _, good_none _ _, good_none _ _, good_none _ _, good_none _ _, trivial⟩ trivial trivial trivial
theorem e158 : elabF prog h158 [([0, 1, 2, 3, 8, 9], [])] 158 = some c158 := by kernel_rfl
def s158 : Spec := fspec prog c158
theorem g158 : Good prog 158 s158 := good_fspec hk158 mixed e158
end
end CwT
