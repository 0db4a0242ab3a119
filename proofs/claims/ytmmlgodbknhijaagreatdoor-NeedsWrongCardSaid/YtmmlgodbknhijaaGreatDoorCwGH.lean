/-
  The functions that the closed run comes to: their code for the evaluator, and that it is theirs.
-/
import Derived.Test.YtmmlgodbknhijaaGreatDoorCwGG
namespace CwT
open Go Cw
set_option maxRecDepth 100000
noncomputable section
def c236 : AFn := ⟨2, (.seq (.region 0 [⟨(some 4), .mov, [.c (.int .i64 0)], none⟩, ⟨(some 5), .alloc (some 5) (.agg ⟨[(.int .i64 0), (.int .i64 0), (.int .i64 0), (.int .i64 0), (.int .i64 0), (.int .i64 0), (.int .i64 0), (.int .i64 0), (.int .i64 0), (.int .i64 0), (.int .i64 0), (.int .i64 0), (.int .i64 0), (.int .i64 0)]⟩), [], none⟩])
  (.seq (.region 1 [⟨(some 10), .mov, [.t 1], none⟩, ⟨(some 11), .pcall 277 p277, [.t 10], none⟩, ⟨(some 9), .mov, [.t 11], none⟩, ⟨(some 12), .ext 0, [.t 9], none⟩, ⟨(some 13), .ext 1, [.t 9], none⟩, ⟨(some 6), .mov, [.t 12], none⟩, ⟨(some 7), .mov, [.t 13], none⟩])
  (.seq (.region 2 [⟨(some 14), .mov, [.t 7], none⟩, ⟨(some 15), .pcall 94 p94, [.t 14], none⟩])
  (.seq (.region 3 [⟨(some 16), .mov, [.t 0], none⟩, ⟨(some 17), .mov, [.t 6], none⟩, ⟨(some 18), .call 270 s270, [.t 16, .t 17], none⟩, ⟨(some 8), .mov, [.t 18], none⟩])
  (.seq (.region 4 [⟨(some 19), .mov, [.t 8], none⟩, ⟨(some 20), .mov, [.t 0], none⟩, ⟨(some 21), .mov, [.t 8], none⟩, ⟨(some 22), .call 233 s233, [.t 20, .t 21], none⟩, ⟨(some 4), .mov, [.t 19], none⟩, ⟨none, .store 14, [.t 5, .t 22], none⟩])
  .ret))))), [.t 4, .cell 5 (some 14)]⟩
def h236 : Hints := ⟨[5], callsOf [(94, .pure p94), (233, .spec s233), (270, .spec s270), (277, .pure p277)], [], [], []⟩
theorem hk236 : HOk prog h236 := hok_of ⟨gp94, g233, g270, gp277, trivial⟩ trivial trivial trivial
theorem e236 : elabF prog h236 [] 236 = some c236 := by kernel_rfl
def s236 : Spec := fspec prog c236
theorem g236 : Good prog 236 s236 := good_fspec hk236 mixed e236

def c42 : AFn := ⟨1, (.seq (.region 0 [⟨(some 1), .box none, [.t 0], none⟩, ⟨(some 2), .mov, [.c .nilFunc], none⟩])
  (.seq (.region 1 [⟨(some 3), .mkfn 80 0, [.t 1], none⟩, ⟨(some 2), .mov, [.t 3], none⟩])
  .ret)), [.t 2]⟩
def h42 : Hints := ⟨[], callsOf [], [], [], []⟩
theorem hk42 : HOk prog h42 := hok_of trivial trivial trivial trivial
theorem e42 : elabF prog h42 [] 42 = some c42 := by kernel_rfl
def s42 : Spec := fspec prog c42
theorem g42 : Good prog 42 s42 := good_fspec hk42 mixed e42

def c147 : AFn := ⟨3, (.seq (.region 0 [⟨(some 8), .mov, [.t 1], none⟩, ⟨(some 9), .bin .add 3 true true 0, [.t 8, .c (.int .i64 1)], none⟩, ⟨(some 6), .mov, [.t 9], none⟩])
  (.block 0 (.loop [0, 1, 2, 6] [] (.seq (.seq (.region 1 [⟨(some 10), .mov, [.t 6], none⟩, ⟨(some 11), .mov, [.t 2], none⟩, ⟨(some 12), .bin .lss 3 false true 0, [.t 10, .t 11], none⟩])
  (.cond (.t 12) .skip
  (.exit 0)))
  (.seq (.block 1 (.seq (.region 3 [⟨(some 15), .mov, [.t 6], none⟩, ⟨(some 7), .mov, [.t 15], none⟩])
  (.block 2 (.loop [0, 1, 2, 6, 7] [] (.seq (.seq (.draw 4 [⟨(some 16), .mov, [.t 7], none⟩, ⟨(some 17), .mov, [.t 1], none⟩, ⟨(some 18), .bin .gtr 3 false true 0, [.t 16, .t 17], none⟩, ⟨(some 19), .mov, [.t 18], none⟩, ⟨(some 20), .mov, [.t 0], (some (19, true))⟩, ⟨(some 21), .mov, [.t 7], (some (19, true))⟩, ⟨(some 22), .iaddrS 1, [.t 20, .t 21], (some (19, true))⟩, ⟨(some 23), .load none, [.t 22], (some (19, true))⟩, ⟨(some 24), .mov, [.t 0], (some (19, true))⟩, ⟨(some 25), .mov, [.t 7], (some (19, true))⟩, ⟨(some 26), .bin .sub 3 true true 0, [.t 25, .c (.int .i64 1)], (some (19, true))⟩, ⟨(some 27), .iaddrS 1, [.t 24, .t 26], (some (19, true))⟩, ⟨(some 28), .load none, [.t 27], (some (19, true))⟩, ⟨(some 29), .call 153 sNone, [.t 23, .t 28], (some (19, true))⟩, ⟨(some 30), .pick, [.t 19, .t 29, .c (.bool false)], none⟩] [([1], []), ([0], []), ([], []), ([], []), ([5, 8, 9, 10, 11, 12], []), ([4, 8, 9, 10, 11, 12], []), ([8, 9, 10, 11, 12], []), ([8, 9, 10, 11, 12], []), ([4, 5, 6, 7, 9, 10], []), ([4, 5, 6, 7, 8], []), ([4, 5, 6, 7, 8], []), ([4, 5, 6, 7], []), ([4, 5, 6, 7], []), ([], []), ([], [])])
  (.cond (.t 30) .skip
  (.exit 2)))
  (.seq (.block 3 (.draw 6 [⟨(some 33), .mov, [.t 0], none⟩, ⟨(some 34), .mov, [.t 7], none⟩, ⟨(some 35), .mov, [.t 0], none⟩, ⟨(some 36), .mov, [.t 7], none⟩, ⟨(some 37), .bin .sub 3 true true 0, [.t 36, .c (.int .i64 1)], none⟩, ⟨(some 38), .mov, [.t 0], none⟩, ⟨(some 39), .mov, [.t 7], none⟩, ⟨(some 40), .bin .sub 3 true true 0, [.t 39, .c (.int .i64 1)], none⟩, ⟨(some 41), .iaddrS 1, [.t 38, .t 40], none⟩, ⟨(some 42), .load none, [.t 41], none⟩, ⟨(some 43), .mov, [.t 0], none⟩, ⟨(some 44), .mov, [.t 7], none⟩, ⟨(some 45), .iaddrS 1, [.t 43, .t 44], none⟩, ⟨(some 46), .load none, [.t 45], none⟩, ⟨(some 47), .iaddrS 1, [.t 33, .t 34], none⟩, ⟨none, .store 1, [.t 47, .t 42], none⟩, ⟨(some 48), .iaddrS 1, [.t 35, .t 37], none⟩, ⟨none, .store 1, [.t 48, .t 46], none⟩] [([1, 2, 3, 4, 5, 6, 7, 8, 9, 10, 11, 12, 13], []), ([0, 2, 3, 4, 5, 6, 7, 8, 9, 10, 11, 12, 13], []), ([0, 1, 3, 4, 5, 6, 7, 8, 9, 10, 11, 12, 13, 14, 15], []), ([0, 1, 2, 5, 6, 7, 8, 9, 10, 11, 12, 13, 14, 15], []), ([0, 1, 2, 5, 6, 7, 8, 9, 10, 11, 12, 13, 14, 15], [16]), ([0, 1, 2, 3, 4, 6, 7, 10, 11, 12, 13], []), ([0, 1, 2, 3, 4, 5, 10, 11, 12, 13], []), ([0, 1, 2, 3, 4, 5, 10, 11, 12, 13], []), ([0, 1, 2, 3, 4, 10, 11, 12, 13], []), ([0, 1, 2, 3, 4, 10, 11, 12, 13], []), ([0, 1, 2, 3, 4, 5, 6, 7, 8, 9, 11], []), ([0, 1, 2, 3, 4, 5, 6, 7, 8, 9, 10], []), ([0, 1, 2, 3, 4, 5, 6, 7, 8, 9], []), ([0, 1, 2, 3, 4, 5, 6, 7, 8, 9], []), ([2, 3, 4], []), ([2, 3, 4], []), ([], []), ([], [])]))
  (.region 5 [⟨(some 31), .mov, [.t 7], none⟩, ⟨(some 32), .bin .sub 3 true true 0, [.t 31, .c (.int .i64 1)], none⟩, ⟨(some 7), .mov, [.t 32], none⟩])))))))
  (.region 2 [⟨(some 13), .mov, [.t 6], none⟩, ⟨(some 14), .bin .add 3 true true 0, [.t 13, .c (.int .i64 1)], none⟩, ⟨(some 6), .mov, [.t 14], none⟩])))))), []⟩
def h147 : Hints := ⟨[], callsOf [(153, .spec sNone)], [], [], []⟩
theorem hk147 : HOk prog h147 := hok_of ⟨good_none _ _, trivial⟩ trivial trivial trivial
theorem e147 : elabF prog h147 [([0, 1, 2, 6], []), ([0, 1, 2, 6, 7], [])] 147 = some c147 := by kernel_rfl
def s147 : Spec := fspec prog c147
theorem g147 : Good prog 147 s147 := good_fspec hk147 mixed e147
def t147 : List (List Value × Res) := [([(.slice none 0 0), (.int .i64 0), (.int .i64 0)], (.ret (.tuple ⟨[]⟩)))]
def p147 : PSpec := tab t147
theorem k147 : tabOk s147 t147 = true := by kernel_rfl
theorem gp147 : GoodP prog 147 p147 := goodP_tab g147 k147

def c81 : AFn := ⟨4, (.seq (.region 0 [⟨(some 8), .mov, [.c (.bool true)], none⟩])
  (.seq (.region 1 [⟨(some 9), .mov, [.c (.bool true)], none⟩])
  (.block 0 (.loop [0, 1, 2, 3, 8, 9] [] (.block 1 (.seq (.region 2 [⟨(some 19), .mov, [.t 2], none⟩, ⟨(some 20), .mov, [.t 1], none⟩, ⟨(some 21), .bin .sub 3 false true 0, [.t 19, .t 20], none⟩, ⟨(some 10), .mov, [.t 21], none⟩])
  (.seq (.seq (.region 3 [⟨(some 22), .mov, [.t 10], none⟩, ⟨(some 23), .bin .leq 3 true true 0, [.t 22, .c (.int .i64 12)], none⟩])
  (.cond (.t 23) (.seq (.region 4 [⟨(some 24), .mov, [.t 0], none⟩, ⟨(some 25), .mov, [.t 1], none⟩, ⟨(some 26), .mov, [.t 2], none⟩, ⟨(some 27), .pcall 147 p147, [.t 24, .t 25, .t 26], none⟩])
  .ret)
  .skip))
  (.seq (.seq (.region 5 [⟨(some 28), .mov, [.t 3], none⟩, ⟨(some 29), .bin .eql 3 true true 0, [.t 28, .c (.int .i64 0)], none⟩])
  (.cond (.t 29) (.seq (.region 6 [⟨(some 30), .mov, [.t 0], none⟩, ⟨(some 31), .mov, [.t 1], none⟩, ⟨(some 32), .mov, [.t 2], none⟩, ⟨(some 33), .call 148 sNone, [.t 30, .t 31, .t 32], none⟩])
  .ret)
  .skip))
  (.seq (.seq (.region 7 [⟨(some 34), .mov, [.t 8], none⟩, ⟨(some 35), .un .not, [.t 34], none⟩])
  (.cond (.t 35) (.seq (.region 8 [⟨(some 36), .mov, [.t 0], none⟩, ⟨(some 37), .mov, [.t 1], none⟩, ⟨(some 38), .mov, [.t 2], none⟩, ⟨(some 39), .call 149 sNone, [.t 36, .t 37, .t 38], none⟩])
  (.region 9 [⟨(some 40), .mov, [.t 3], none⟩, ⟨(some 41), .bin .sub 3 true true 0, [.t 40, .c (.int .i64 1)], none⟩, ⟨(some 3), .mov, [.t 41], none⟩]))
  .skip))
  (.seq (.region 10 [⟨(some 43), .mov, [.t 0], none⟩, ⟨(some 44), .mov, [.t 1], none⟩, ⟨(some 45), .mov, [.t 2], none⟩, ⟨(some 46), .call 150 sNone, [.t 43, .t 44, .t 45], none⟩, ⟨(some 42), .mov, [.t 46], none⟩, ⟨(some 47), .ext 0, [.t 42], none⟩, ⟨(some 48), .ext 1, [.t 42], none⟩, ⟨(some 11), .mov, [.t 47], none⟩, ⟨(some 12), .mov, [.t 48], none⟩])
  (.seq (.seq (.region 11 [⟨(some 49), .mov, [.t 12], none⟩, ⟨(some 50), .bin .eql 244 true true 0, [.t 49, .c (.int .i64 2)], none⟩])
  (.cond (.t 50) (.seq (.region 12 [⟨(some 51), .mov, [.t 0], none⟩, ⟨(some 52), .mov, [.t 1], none⟩, ⟨(some 53), .mov, [.t 2], none⟩, ⟨(some 54), .call 151 sNone, [.t 51, .t 52, .t 53], none⟩])
  (.seq (.region 13 [⟨(some 55), .mov, [.t 2], none⟩, ⟨(some 56), .bin .sub 3 true true 0, [.t 55, .c (.int .i64 1)], none⟩, ⟨(some 57), .mov, [.t 11], none⟩, ⟨(some 58), .mov, [.t 1], none⟩, ⟨(some 59), .bin .sub 3 false true 0, [.t 57, .t 58], none⟩, ⟨(some 60), .bin .sub 3 false true 0, [.t 56, .t 59], none⟩, ⟨(some 11), .mov, [.t 60], none⟩])
  (.region 14 [⟨(some 12), .mov, [.c (.int .i64 1)], none⟩])))
  .skip))
  (.seq (.seq (.region 15 [⟨(some 61), .mov, [.t 8], none⟩, ⟨(some 62), .mov, [.t 61], none⟩, ⟨(some 63), .mov, [.t 9], (some (62, true))⟩, ⟨(some 64), .pick, [.t 62, .t 63, .c (.bool false)], none⟩, ⟨(some 65), .mov, [.t 64], none⟩, ⟨(some 66), .mov, [.t 12], (some (65, true))⟩, ⟨(some 67), .bin .eql 244 true true 0, [.t 66, .c (.int .i64 1)], (some (65, true))⟩, ⟨(some 68), .pick, [.t 65, .t 67, .c (.bool false)], none⟩])
  (.cond (.t 68) (.seq (.region 16 [⟨(some 69), .mov, [.t 0], none⟩, ⟨(some 70), .mov, [.t 1], none⟩, ⟨(some 71), .mov, [.t 2], none⟩, ⟨(some 72), .call 152 sNone, [.t 69, .t 70, .t 71], none⟩])
  (.cond (.t 72) .ret
  .skip))
  .skip))
  (.seq (.seq (.draw 17 [⟨(some 73), .mov, [.t 1], none⟩, ⟨(some 74), .bin .gtr 3 true true 0, [.t 73, .c (.int .i64 0)], none⟩, ⟨(some 75), .mov, [.t 74], none⟩, ⟨(some 76), .mov, [.t 0], (some (75, true))⟩, ⟨(some 77), .mov, [.t 1], (some (75, true))⟩, ⟨(some 78), .bin .sub 3 true true 0, [.t 77, .c (.int .i64 1)], (some (75, true))⟩, ⟨(some 79), .iaddrS 1, [.t 76, .t 78], (some (75, true))⟩, ⟨(some 80), .load none, [.t 79], (some (75, true))⟩, ⟨(some 81), .mov, [.t 0], (some (75, true))⟩, ⟨(some 82), .mov, [.t 11], (some (75, true))⟩, ⟨(some 83), .iaddrS 1, [.t 81, .t 82], (some (75, true))⟩, ⟨(some 84), .load none, [.t 83], (some (75, true))⟩, ⟨(some 85), .call 153 sNone, [.t 80, .t 84], (some (75, true))⟩, ⟨(some 86), .un .not, [.t 85], (some (75, true))⟩, ⟨(some 87), .pick, [.t 75, .t 86, .c (.bool false)], none⟩] [([], []), ([], []), ([], []), ([4, 5, 8, 9, 10, 11], []), ([3, 8, 9, 10, 11], []), ([3, 8, 9, 10, 11], []), ([8, 9, 10, 11], []), ([8, 9, 10, 11], []), ([3, 4, 5, 6, 7, 9], []), ([3, 4, 5, 6, 7, 8], []), ([3, 4, 5, 6, 7], []), ([3, 4, 5, 6, 7], []), ([], []), ([], []), ([], [])])
  (.cond (.t 87) (.seq (.region 18 [⟨(some 88), .mov, [.t 0], none⟩, ⟨(some 89), .mov, [.t 1], none⟩, ⟨(some 90), .mov, [.t 2], none⟩, ⟨(some 91), .mov, [.t 11], none⟩, ⟨(some 92), .call 154 sNone, [.t 88, .t 89, .t 90, .t 91], none⟩, ⟨(some 13), .mov, [.t 92], none⟩])
  (.seq (.region 19 [⟨(some 93), .mov, [.t 13], none⟩, ⟨(some 1), .mov, [.t 93], none⟩])
  (.exit 1)))
  .skip))
  (.seq (.region 20 [⟨(some 95), .mov, [.t 0], none⟩, ⟨(some 96), .mov, [.t 1], none⟩, ⟨(some 97), .mov, [.t 2], none⟩, ⟨(some 98), .mov, [.t 11], none⟩, ⟨(some 99), .call 155 sNone, [.t 95, .t 96, .t 97, .t 98], none⟩, ⟨(some 94), .mov, [.t 99], none⟩, ⟨(some 100), .ext 0, [.t 94], none⟩, ⟨(some 101), .ext 1, [.t 94], none⟩, ⟨(some 14), .mov, [.t 100], none⟩, ⟨(some 15), .mov, [.t 101], none⟩])
  (.seq (.region 21 [⟨(some 102), .mov, [.t 15], none⟩, ⟨(some 9), .mov, [.t 102], none⟩])
  (.seq (.region 22 [⟨(some 103), .mov, [.t 14], none⟩, ⟨(some 104), .mov, [.t 1], none⟩, ⟨(some 105), .bin .sub 3 false true 0, [.t 103, .t 104], none⟩, ⟨(some 106), .mov, [.t 2], none⟩, ⟨(some 107), .mov, [.t 14], none⟩, ⟨(some 108), .bin .sub 3 false true 0, [.t 106, .t 107], none⟩, ⟨(some 16), .mov, [.t 105], none⟩, ⟨(some 17), .mov, [.t 108], none⟩])
  (.seq (.region 23 [⟨(some 109), .mov, [.t 10], none⟩, ⟨(some 110), .bin .quo 3 true true 0, [.t 109, .c (.int .i64 8)], none⟩, ⟨(some 18), .mov, [.t 110], none⟩])
  (.seq (.region 24 [⟨(some 111), .mov, [.t 16], none⟩, ⟨(some 112), .mov, [.t 17], none⟩, ⟨(some 113), .bin .lss 3 false true 0, [.t 111, .t 112], none⟩])
  (.cond (.t 113) (.seq (.region 25 [⟨(some 114), .mov, [.t 16], none⟩, ⟨(some 115), .mov, [.t 18], none⟩, ⟨(some 116), .bin .geq 3 false true 0, [.t 114, .t 115], none⟩, ⟨(some 8), .mov, [.t 116], none⟩])
  (.seq (.region 26 [⟨(some 117), .mov, [.t 0], none⟩, ⟨(some 118), .mov, [.t 1], none⟩, ⟨(some 119), .mov, [.t 14], none⟩, ⟨(some 120), .mov, [.t 3], none⟩, ⟨(some 121), .call 81 sNone, [.t 117, .t 118, .t 119, .t 120], none⟩])
  (.region 27 [⟨(some 122), .mov, [.t 14], none⟩, ⟨(some 123), .bin .add 3 true true 0, [.t 122, .c (.int .i64 1)], none⟩, ⟨(some 1), .mov, [.t 123], none⟩])))
  (.seq (.region 28 [⟨(some 124), .mov, [.t 17], none⟩, ⟨(some 125), .mov, [.t 18], none⟩, ⟨(some 126), .bin .geq 3 false true 0, [.t 124, .t 125], none⟩, ⟨(some 8), .mov, [.t 126], none⟩])
  (.seq (.region 29 [⟨(some 127), .mov, [.t 0], none⟩, ⟨(some 128), .mov, [.t 14], none⟩, ⟨(some 129), .bin .add 3 true true 0, [.t 128, .c (.int .i64 1)], none⟩, ⟨(some 130), .mov, [.t 2], none⟩, ⟨(some 131), .mov, [.t 3], none⟩, ⟨(some 132), .call 81 sNone, [.t 127, .t 129, .t 130, .t 131], none⟩])
  (.region 30 [⟨(some 133), .mov, [.t 14], none⟩, ⟨(some 2), .mov, [.t 133], none⟩])))))))))))))))))))))), []⟩
def h81 : Hints := ⟨[], callsOf [(81, .spec sNone), (147, .pure p147), (148, .spec sNone), (149, .spec sNone), (150, .spec sNone), (151, .spec sNone), (152, .spec sNone), (153, .spec sNone), (154, .spec sNone), (155, .spec sNone)], [], [], []⟩
theorem hk81 : HOk prog h81 := hok_of ⟨good_none _ _, gp147, good_none _ _, good_none _ _, good_none _ _, good_none _ _, good_none _ _, good_none _ _, good_none _ _, good_none _ _, trivial⟩ trivial trivial trivial
theorem e81 : elabF prog h81 [([0, 1, 2, 3, 8, 9], [])] 81 = some c81 := by kernel_rfl
def s81 : Spec := fspec prog c81
theorem g81 : Good prog 81 s81 := good_fspec hk81 mixed e81
def t81 : List (List Value × Res) := [([(.slice none 0 0), (.int .i64 0), (.int .i64 0), (.int .i64 0)], (.ret (.tuple ⟨[]⟩)))]
def p81 : PSpec := tab t81
theorem k81 : tabOk s81 t81 = true := by kernel_rfl
theorem gp81 : GoodP prog 81 p81 := goodP_tab g81 k81

def c43 : AFn := ⟨1, (.seq (.region 0 [⟨(some 3), .mov, [.t 0], none⟩, ⟨(some 4), .lenV, [.t 3], none⟩, ⟨(some 2), .mov, [.t 4], none⟩])
  (.region 1 [⟨(some 5), .mov, [.t 0], none⟩, ⟨(some 6), .mov, [.t 2], none⟩, ⟨(some 7), .mov, [.t 2], none⟩, ⟨(some 8), .convI .u64, [.t 7], none⟩, ⟨(some 9), .pcall 82 p82, [.t 8], none⟩, ⟨(some 10), .pcall 81 p81, [.t 5, .c (.int .i64 0), .t 6, .t 9], none⟩])), []⟩
def h43 : Hints := ⟨[], callsOf [(81, .pure p81), (82, .pure p82)], [], [], []⟩
theorem hk43 : HOk prog h43 := hok_of ⟨gp81, gp82, trivial⟩ trivial trivial trivial
theorem e43 : elabF prog h43 [] 43 = some c43 := by kernel_rfl
def s43 : Spec := fspec prog c43
theorem g43 : Good prog 43 s43 := good_fspec hk43 mixed e43
def t43 : List (List Value × Res) := [([(.slice none 0 0)], (.ret (.tuple ⟨[]⟩)))]
def p43 : PSpec := tab t43
theorem k43 : tabOk s43 t43 = true := by kernel_rfl
theorem gp43 : GoodP prog 43 p43 := goodP_tab g43 k43

def c80 : AFn := ⟨2, (.seq (.region 0 [⟨(some 7), .load none, [.t 1], none⟩, ⟨(some 8), .nilc, [.t 7], none⟩, ⟨(some 9), .faddr 15, [.t 8], none⟩, ⟨(some 10), .load none, [.t 9], none⟩, ⟨(some 11), .lenV, [.t 10], none⟩, ⟨(some 12), .mov, [.c (.int .i64 0)], none⟩])
  (.block 0 (.loop [0, 1, 10, 11, 12] [] (.seq (.region 1 [⟨(some 13), .bin .lss 3 false true 0, [.t 12, .t 11], none⟩])
  (.seq (.cond (.t 13) .skip
  (.exit 0))
  (.seq (.block 1 (.seq (.region 2 [⟨(some 14), .mov, [.t 12], none⟩, ⟨(some 15), .iaddrS 8, [.t 10, .t 12], none⟩, ⟨(some 16), .load (some 8), [.t 15], none⟩, ⟨(some 4), .alloc (some 4) (.agg ⟨[(.int .i64 0), (mkStr []), (.int .i64 0), (mkStr []), (.int .i64 0), (mkStr []), (.int .i64 0), (mkStr [])]⟩), [], none⟩, ⟨(some 3), .mov, [.t 14], none⟩, ⟨none, .store 8, [.t 4, .t 16], none⟩])
  (.seq (.region 3 [⟨(some 17), .load (some 8), [.t 4], none⟩, ⟨(some 18), .mov, [.c (.int .i64 0)], none⟩])
  (.block 2 (.loop [0, 1, 3, 10, 11, 12, 17, 18] [] (.seq (.region 4 [⟨(some 19), .bin .lss 3 true true 0, [.t 18, .c (.int .i64 4)], none⟩])
  (.seq (.cond (.t 19) .skip
  (.exit 2))
  (.seq (.block 3 (.seq (.region 5 [⟨(some 20), .mov, [.t 18], none⟩, ⟨(some 21), .idxA 4 2 (some 2), [.t 17, .t 18], none⟩, ⟨(some 6), .alloc (some 6) (.agg ⟨[(.int .i64 0), (mkStr [])]⟩), [], none⟩, ⟨(some 5), .mov, [.t 20], none⟩, ⟨none, .store 2, [.t 6, .t 21], none⟩])
  (.seq (.draw 6 [⟨(some 22), .mov, [.t 0], none⟩, ⟨(some 23), .faddr 0, [.t 6], none⟩, ⟨(some 24), .load none, [.t 23], none⟩, ⟨(some 25), .load none, [.t 1], none⟩, ⟨(some 26), .nilc, [.t 25], none⟩, ⟨(some 27), .faddr 14, [.t 26], none⟩, ⟨(some 28), .load none, [.t 27], none⟩, ⟨(some 29), .mov, [.t 3], none⟩, ⟨(some 30), .iaddrS 1, [.t 28, .t 29], none⟩, ⟨(some 31), .load none, [.t 30], none⟩, ⟨(some 32), .mov, [.t 5], none⟩, ⟨(some 33), .build [(.int .i64 0), (.int .i64 0), (.int .i64 0)] [(0, 1), (1, 1), (2, 1)], [.t 24, .t 31, .t 32], none⟩, ⟨(some 34), .faddr 1, [.t 6], none⟩, ⟨(some 35), .load none, [.t 34], none⟩, ⟨(some 36), .callv [], [.t 22, .t 33, .t 35], none⟩, ⟨(some 37), .un .not, [.t 36], none⟩] [([1, 2, 3, 4, 5, 6, 7, 8, 9, 10, 11, 12, 13], []), ([0, 3, 4, 5, 6, 7, 8, 9, 10, 12, 13], []), ([0, 3, 4, 5, 6, 7, 8, 9, 10, 12, 13], []), ([0, 1, 2, 7, 10, 12, 13], []), ([0, 1, 2, 7, 10, 12, 13], []), ([0, 1, 2, 7, 10, 12, 13], []), ([0, 1, 2, 7, 10, 12, 13], []), ([0, 1, 2, 3, 4, 5, 6, 10, 12, 13], []), ([0, 1, 2, 10, 12, 13], []), ([0, 1, 2, 10, 12, 13], []), ([0, 1, 2, 3, 4, 5, 6, 7, 8, 9, 12, 13], []), ([0, 12, 13], []), ([0, 1, 2, 3, 4, 5, 6, 7, 8, 9, 10, 11], []), ([0, 1, 2, 3, 4, 5, 6, 7, 8, 9, 10, 11], []), ([], []), ([], [])])
  (.cond (.t 37) .ret
  .skip))))
  (.region 7 [⟨(some 38), .bin .add 3 true true 0, [.t 18, .c (.int .i64 1)], none⟩, ⟨(some 18), .mov, [.t 38], none⟩])))))))))
  (.region 8 [⟨(some 39), .bin .add 3 true true 0, [.t 12, .c (.int .i64 1)], none⟩, ⟨(some 12), .mov, [.t 39], none⟩]))))))), []⟩
def h80 : Hints := ⟨[4, 6], callsOf [], [], [], []⟩
theorem hk80 : HOk prog h80 := hok_of trivial trivial trivial trivial
theorem e80 : elabF prog h80 [([0, 1, 10, 11, 12], []), ([0, 1, 3, 10, 11, 12, 17, 18], [])] 80 = some c80 := by kernel_rfl
def i80 : Spec := fspecI prog c80
theorem gi80 : GoodI prog 80 i80 := good_fspecI hk80 mixed e80
def s80 : Spec := fspec prog c80
theorem g80 : Good prog 80 s80 := good_fspec hk80 mixed e80

def c15 : AFn := ⟨3, (.seq (.region 0 [⟨(some 4), .box none, [.t 1], none⟩, ⟨(some 6), .mov, [.c (.slice none 0 0)], none⟩, ⟨(some 7), .mov, [.c (.int .i64 0)], none⟩])
  (.seq (.region 1 [⟨(some 14), .mov, [.t 0], none⟩, ⟨(some 15), .load (some 3), [.t 4], none⟩, ⟨(some 16), .mov, [.t 2], none⟩, ⟨(some 17), .call 31 s31, [.t 14, .t 15, .t 16], none⟩, ⟨(some 13), .mov, [.t 17], none⟩, ⟨(some 18), .ext 0, [.t 13], none⟩, ⟨(some 19), .ext 1, [.t 13], none⟩, ⟨(some 8), .mov, [.t 18], none⟩, ⟨(some 9), .mov, [.t 19], none⟩])
  (.seq (.seq (.region 2 [⟨(some 20), .mov, [.t 9], none⟩, ⟨(some 21), .bin .neq 38 true true 0, [.t 20, .c (.int .i64 0)], none⟩])
  (.cond (.t 21) (.seq (.region 3 [⟨(some 22), .mov, [.t 9], none⟩, ⟨(some 6), .mov, [.c (.slice none 0 0)], none⟩, ⟨(some 7), .mov, [.t 22], none⟩])
  .ret)
  .skip))
  (.seq (.region 4 [⟨(some 10), .alloc none (.slice none 0 0), [], none⟩])
  (.seq (.seq (.region 5 [⟨(some 23), .mov, [.t 8], none⟩, ⟨(some 24), .call 42 s42, [.t 23], none⟩])
  (.block 0 (.rangeF (.t 24) [(80, i80)])))
  (.seq (.region 10 [⟨(some 34), .load none, [.t 10], none⟩, ⟨(some 35), .pcall 43 p43, [.t 34], none⟩])
  (.seq (.region 11 [⟨(some 36), .load none, [.t 10], none⟩, ⟨(some 6), .mov, [.t 36], none⟩, ⟨(some 7), .mov, [.c (.int .i64 0)], none⟩])
  .ret))))))), [.t 6, .t 7]⟩
def h15 : Hints := ⟨[], callsOf [(31, .spec s31), (42, .spec s42), (43, .pure p43)], [], [], [(80, i80)]⟩
theorem hk15 : HOk prog h15 := hok_of ⟨g31, g42, gp43, trivial⟩ trivial trivial ⟨gi80, trivial⟩
theorem e15 : elabF prog h15 [] 15 = some c15 := by kernel_rfl
def s15 : Spec := fspec prog c15
theorem g15 : Good prog 15 s15 := good_fspec hk15 mixed e15

def c167 : AFn := ⟨2, (.seq (.region 0 [⟨(some 3), .box (some 3), [.t 1], none⟩, ⟨(some 4), .alloc (some 4) (.agg ⟨[(.int .i64 0), (.int .i64 0), (.int .i64 0), (.int .i64 0), (mkStr []), (.slice none 0 0)]⟩), [], none⟩])
  (.seq (.region 1 [⟨(some 10), .mov, [.t 0], none⟩, ⟨(some 11), .faddr 1, [.t 3], none⟩, ⟨(some 12), .load none, [.t 11], none⟩, ⟨(some 13), .call 236 s236, [.t 10, .t 12], none⟩, ⟨(some 9), .mov, [.t 13], none⟩, ⟨(some 14), .ext 0, [.t 9], none⟩, ⟨(some 15), .ext 1, [.t 9], none⟩, ⟨(some 6), .alloc (some 6) (.agg ⟨[(.int .i64 0), (.int .i64 0), (.int .i64 0), (.int .i64 0), (.int .i64 0), (.int .i64 0), (.int .i64 0), (.int .i64 0), (.int .i64 0), (.int .i64 0), (.int .i64 0), (.int .i64 0), (.int .i64 0), (.int .i64 0)]⟩), [], none⟩, ⟨(some 5), .mov, [.t 14], none⟩, ⟨none, .store 14, [.t 6, .t 15], none⟩])
  (.seq (.region 2 [⟨(some 7), .mov, [.c (.slice none 0 0)], none⟩])
  (.seq (.seq (.region 3 [⟨(some 16), .faddr 0, [.t 6], none⟩, ⟨(some 17), .load none, [.t 16], none⟩, ⟨(some 18), .bin .eql 3 true true 0, [.t 17, .c (.int .i64 2)], none⟩])
  (.cond (.t 18) (.seq (.region 4 [⟨(some 8), .mov, [.c (.int .i64 0)], none⟩])
  (.seq (.draw 5 [⟨(some 20), .mov, [.t 0], none⟩, ⟨(some 21), .nilc, [.t 20], none⟩, ⟨(some 22), .faddr 0, [.t 21], none⟩, ⟨(some 23), .load none, [.t 22], none⟩, ⟨(some 24), .mov, [.t 0], none⟩, ⟨(some 25), .nilc, [.t 24], none⟩, ⟨(some 26), .faddr 1, [.t 25], none⟩, ⟨(some 27), .load (some 3), [.t 26], none⟩, ⟨(some 28), .mov, [.t 5], none⟩, ⟨(some 29), .call 15 s15, [.t 23, .t 27, .t 28], none⟩, ⟨(some 19), .mov, [.t 29], none⟩, ⟨(some 30), .ext 0, [.t 19], none⟩, ⟨(some 31), .ext 1, [.t 19], none⟩, ⟨(some 7), .mov, [.t 30], none⟩, ⟨(some 8), .mov, [.t 31], none⟩] [([4, 5, 6, 7, 8], []), ([4, 5, 6, 7, 8], []), ([4, 5, 6, 7, 8], []), ([4, 5, 6, 7, 8], []), ([0, 1, 2, 3, 8], []), ([0, 1, 2, 3, 8], []), ([0, 1, 2, 3, 8], []), ([0, 1, 2, 3, 8], []), ([0, 1, 2, 3, 4, 5, 6, 7], []), ([], []), ([], []), ([12], []), ([11, 13], []), ([12], []), ([], [])])
  (.region 6 [⟨(some 32), .mov, [.t 8], none⟩, ⟨(some 33), .pcall 94 p94, [.t 32], none⟩])))
  .skip))
  (.seq (.block 0 (.seq (.region 7 [⟨(some 35), .faddr 0, [.t 3], none⟩, ⟨(some 36), .load none, [.t 35], none⟩, ⟨(some 37), .bin .eql 3 true true 0, [.t 36, .c (.int .i64 11)], none⟩, ⟨(some 38), .mov, [.t 37], none⟩, ⟨(some 39), .faddr 0, [.t 6], (some (38, true))⟩, ⟨(some 40), .load none, [.t 39], (some (38, true))⟩, ⟨(some 41), .bin .neq 3 true true 0, [.t 40, .c (.int .i64 2)], (some (38, true))⟩, ⟨(some 42), .pick, [.t 38, .t 41, .c (.bool false)], none⟩, ⟨(some 34), .mov, [.t 42], none⟩])
  (.cond (.t 34) (.region 8 [⟨(some 43), .pcall 94 p94, [.c (.int .i64 103)], none⟩])
  (.seq (.region 9 [⟨(some 45), .faddr 0, [.t 3], none⟩, ⟨(some 46), .load none, [.t 45], none⟩, ⟨(some 47), .bin .eql 3 true true 0, [.t 46, .c (.int .i64 11)], none⟩, ⟨(some 44), .mov, [.t 47], none⟩])
  (.cond (.t 44) (.seq (.region 10 [⟨(some 48), .mov, [.t 7], none⟩, ⟨(some 49), .build [(.int .i64 0), (.int .i64 0), (.int .i64 0), (.int .i64 0), (mkStr []), (.slice none 0 0)] [(5, 1)], [.t 48], none⟩, ⟨none, .store 6, [.t 4, .t 49], none⟩])
  .ret)
  (.seq (.region 11 [⟨(some 51), .faddr 0, [.t 3], none⟩, ⟨(some 52), .load none, [.t 51], none⟩, ⟨(some 53), .bin .eql 3 true true 0, [.t 52, .c (.int .i64 10)], none⟩, ⟨(some 54), .mov, [.t 53], none⟩, ⟨(some 55), .faddr 0, [.t 6], (some (54, true))⟩, ⟨(some 56), .load none, [.t 55], (some (54, true))⟩, ⟨(some 57), .bin .eql 3 true true 0, [.t 56, .c (.int .i64 2)], (some (54, true))⟩, ⟨(some 58), .pick, [.t 54, .t 57, .c (.bool false)], none⟩, ⟨(some 50), .mov, [.t 58], none⟩])
  (.cond (.t 50) (.seq (.region 12 [⟨(some 59), .mov, [.t 7], none⟩, ⟨(some 60), .lenV, [.t 59], none⟩, ⟨(some 61), .build [(.int .i64 0), (.int .i64 0), (.int .i64 0), (.int .i64 0), (mkStr []), (.slice none 0 0)] [(1, 1), (2, 1), (3, 1)], [.c (.int .i64 2), .c (.int .i64 1), .t 60], none⟩, ⟨none, .store 6, [.t 4, .t 61], none⟩])
  .ret)
  (.seq (.region 13 [⟨(some 63), .faddr 0, [.t 3], none⟩, ⟨(some 64), .load none, [.t 63], none⟩, ⟨(some 65), .bin .eql 3 true true 0, [.t 64, .c (.int .i64 10)], none⟩, ⟨(some 62), .mov, [.t 65], none⟩])
  (.cond (.t 62) (.seq (.region 14 [⟨(some 66), .faddr 1, [.t 6], none⟩, ⟨(some 67), .load none, [.t 66], none⟩, ⟨(some 68), .faddr 2, [.t 6], none⟩, ⟨(some 69), .load none, [.t 68], none⟩, ⟨(some 70), .build [(.int .i64 0), (.int .i64 0), (.int .i64 0), (.int .i64 0), (mkStr []), (.slice none 0 0)] [(1, 1), (2, 1), (3, 1)], [.c (.int .i64 1), .t 67, .t 69], none⟩, ⟨none, .store 6, [.t 4, .t 70], none⟩])
  .ret)
  .skip)))))))))
  (.seq (.region 15 [⟨(some 71), .build [(.int .i64 0), (.int .i64 0), (.int .i64 0), (.int .i64 0), (mkStr []), (.slice none 0 0)] [], [], none⟩, ⟨none, .store 6, [.t 4, .t 71], none⟩])
  .ret)))))), [.cell 4 (some 6)]⟩
def h167 : Hints := ⟨[3, 4, 6], callsOf [(15, .spec s15), (94, .pure p94), (236, .spec s236)], [], [], []⟩
theorem hk167 : HOk prog h167 := hok_of ⟨g15, gp94, g236, trivial⟩ trivial trivial trivial
theorem e167 : elabF prog h167 [] 167 = some c167 := by kernel_rfl
def s167 : Spec := fspec prog c167
theorem g167 : Good prog 167 s167 := good_fspec hk167 mixed e167

def c93 : AFn := ⟨2, (.seq (.region 0 [⟨(some 3), .box (some 3), [.t 1], none⟩, ⟨(some 4), .alloc (some 4) (.agg ⟨[(.int .i64 0), (.int .i64 0), (.int .i64 0), (.int .i64 0), (mkStr []), (.slice none 0 0)]⟩), [], none⟩])
  (.seq (.seq (.region 1 [⟨(some 5), .faddr 0, [.t 3], none⟩, ⟨(some 6), .load none, [.t 5], none⟩])
  (.block 0 (.seq (.region 3 [⟨(some 9), .bin .eql 3 true true 0, [.t 6, .c (.int .i64 1)], none⟩, ⟨(some 8), .mov, [.t 9], none⟩])
  (.cond (.t 8) (.region 4 [⟨(some 10), .mov, [.t 0], none⟩, ⟨(some 11), .faddr 1, [.t 3], none⟩, ⟨(some 12), .load none, [.t 11], none⟩, ⟨(some 13), .build [(.int .i64 0), (.int .i64 0), (.int .i64 0), (.int .i64 0), (.int .i64 0), (.int .i64 0), (.int .i64 0), (.int .i64 0), (.int .i64 0), (.int .i64 0), (.int .i64 0), (.int .i64 0), (.int .i64 0), (.int .i64 0)] [(0, 1)], [.c (.int .i64 1)], none⟩, ⟨(some 14), .call 162 sNone, [.t 10, .t 12, .t 13], none⟩])
  (.seq (.region 5 [⟨(some 16), .bin .eql 3 true true 0, [.t 6, .c (.int .i64 2)], none⟩, ⟨(some 15), .mov, [.t 16], none⟩])
  (.cond (.t 15) (.region 6 [⟨(some 17), .mov, [.t 0], none⟩, ⟨(some 18), .faddr 1, [.t 3], none⟩, ⟨(some 19), .load none, [.t 18], none⟩, ⟨(some 20), .build [(.int .i64 0), (.int .i64 0), (.int .i64 0), (.int .i64 0), (.int .i64 0), (.int .i64 0), (.int .i64 0), (.int .i64 0), (.int .i64 0), (.int .i64 0), (.int .i64 0), (.int .i64 0), (.int .i64 0), (.int .i64 0)] [(0, 1)], [.c (.int .i64 2)], none⟩, ⟨(some 21), .call 162 sNone, [.t 17, .t 19, .t 20], none⟩])
  (.seq (.region 7 [⟨(some 23), .bin .eql 3 true true 0, [.t 6, .c (.int .i64 3)], none⟩, ⟨(some 22), .mov, [.t 23], none⟩])
  (.cond (.t 22) (.region 8 [⟨(some 24), .mov, [.t 0], none⟩, ⟨(some 25), .faddr 1, [.t 3], none⟩, ⟨(some 26), .load none, [.t 25], none⟩, ⟨(some 27), .faddr 2, [.t 3], none⟩, ⟨(some 28), .load none, [.t 27], none⟩, ⟨(some 29), .call 163 sNone, [.t 24, .t 26, .t 28], none⟩])
  (.seq (.seq (.region 9 [⟨(some 31), .bin .eql 3 true true 0, [.t 6, .c (.int .i64 4)], none⟩, ⟨(some 30), .mov, [.t 31], none⟩])
  (.cond (.t 30) .skip
  (.region 10 [⟨(some 32), .bin .eql 3 true true 0, [.t 6, .c (.int .i64 5)], none⟩, ⟨(some 30), .mov, [.t 32], none⟩])))
  (.cond (.t 30) (.region 11 [⟨(some 33), .mov, [.t 0], none⟩, ⟨(some 34), .faddr 1, [.t 3], none⟩, ⟨(some 35), .load none, [.t 34], none⟩, ⟨(some 36), .faddr 0, [.t 3], none⟩, ⟨(some 37), .load none, [.t 36], none⟩, ⟨(some 38), .bin .eql 3 true true 0, [.t 37, .c (.int .i64 5)], none⟩, ⟨(some 39), .call 164 sNone, [.t 33, .t 35, .t 38], none⟩])
  (.seq (.region 12 [⟨(some 41), .bin .eql 3 true true 0, [.t 6, .c (.int .i64 6)], none⟩, ⟨(some 40), .mov, [.t 41], none⟩])
  (.cond (.t 40) (.region 13 [⟨(some 42), .mov, [.t 0], none⟩, ⟨(some 43), .faddr 1, [.t 3], none⟩, ⟨(some 44), .load none, [.t 43], none⟩, ⟨(some 45), .faddr 2, [.t 3], none⟩, ⟨(some 46), .load none, [.t 45], none⟩, ⟨(some 47), .call 165 sNone, [.t 42, .t 44, .t 46], none⟩])
  (.seq (.seq (.region 14 [⟨(some 49), .bin .eql 3 true true 0, [.t 6, .c (.int .i64 7)], none⟩, ⟨(some 48), .mov, [.t 49], none⟩])
  (.cond (.t 48) .skip
  (.seq (.region 15 [⟨(some 50), .bin .eql 3 true true 0, [.t 6, .c (.int .i64 8)], none⟩, ⟨(some 48), .mov, [.t 50], none⟩])
  (.cond (.t 48) .skip
  (.region 16 [⟨(some 51), .bin .eql 3 true true 0, [.t 6, .c (.int .i64 9)], none⟩, ⟨(some 48), .mov, [.t 51], none⟩])))))
  (.cond (.t 48) (.region 17 [⟨(some 52), .mov, [.t 0], none⟩, ⟨(some 53), .load (some 6), [.t 3], none⟩, ⟨(some 54), .call 166 sNone, [.t 52, .t 53], none⟩, ⟨(some 55), .faddr 4, [.t 4], none⟩, ⟨none, .store 1, [.t 55, .t 54], none⟩])
  (.seq (.seq (.region 18 [⟨(some 57), .bin .eql 3 true true 0, [.t 6, .c (.int .i64 10)], none⟩, ⟨(some 56), .mov, [.t 57], none⟩])
  (.cond (.t 56) .skip
  (.seq (.region 19 [⟨(some 58), .bin .eql 3 true true 0, [.t 6, .c (.int .i64 11)], none⟩, ⟨(some 56), .mov, [.t 58], none⟩])
  (.cond (.t 56) .skip
  (.region 20 [⟨(some 59), .bin .eql 3 true true 0, [.t 6, .c (.int .i64 12)], none⟩, ⟨(some 56), .mov, [.t 59], none⟩])))))
  (.cond (.t 56) (.region 21 [⟨(some 60), .mov, [.t 0], none⟩, ⟨(some 61), .load (some 6), [.t 3], none⟩, ⟨(some 62), .call 167 s167, [.t 60, .t 61], none⟩, ⟨none, .store 6, [.t 4, .t 62], none⟩])
  (.region 2 [⟨(some 7), .pcall 94 p94, [.c (.int .i64 3)], none⟩])))))))))))))))))
  (.seq (.region 22 [⟨(some 63), .load (some 6), [.t 4], none⟩, ⟨none, .store 6, [.t 4, .t 63], none⟩])
  .ret))), [.cell 4 (some 6)]⟩
def h93 : Hints := ⟨[3, 4], callsOf [(94, .pure p94), (162, .spec sNone), (163, .spec sNone), (164, .spec sNone), (165, .spec sNone), (166, .spec sNone), (167, .spec s167)], [], [], []⟩
theorem hk93 : HOk prog h93 := hok_of ⟨gp94, good_none _ _, good_none _ _, good_none _ _, good_none _ _, good_none _ _, g167, trivial⟩ trivial trivial trivial
theorem e93 : elabF prog h93 [] 93 = some c93 := by kernel_rfl
def s93 : Spec := fspec prog c93
theorem g93 : Good prog 93 s93 := good_fspec hk93 mixed e93

def c95 : AFn := ⟨2, (.seq (.region 0 [⟨(some 4), .mov, [.c (.int .i64 0)], none⟩])
  (.seq (.block 0 (.seq (.region 1 [⟨(some 6), .mov, [.t 1], none⟩, ⟨(some 7), .bin .eql 26 true true 1, [.t 6, .c (.pointer none)], none⟩, ⟨(some 5), .mov, [.t 7], none⟩])
  (.cond (.t 5) (.seq (.region 2 [⟨(some 4), .mov, [.c (.int .i64 5)], none⟩])
  .ret)
  (.seq (.draw 3 [⟨(some 9), .mov, [.t 1], none⟩, ⟨(some 10), .nilc, [.t 9], none⟩, ⟨(some 11), .faddr 1, [.t 10], none⟩, ⟨(some 12), .load none, [.t 11], none⟩, ⟨(some 13), .mov, [.t 0], none⟩, ⟨(some 14), .nilc, [.t 13], none⟩, ⟨(some 15), .faddr 1, [.t 14], none⟩, ⟨(some 16), .load none, [.t 15], none⟩, ⟨(some 17), .bin .neq 25 false true 1, [.t 12, .t 16], none⟩, ⟨(some 18), .mov, [.t 17], none⟩, ⟨(some 19), .mov, [.t 1], (some (18, false))⟩, ⟨(some 20), .nilc, [.t 19], (some (18, false))⟩, ⟨(some 21), .faddr 2, [.t 20], (some (18, false))⟩, ⟨(some 22), .load none, [.t 21], (some (18, false))⟩, ⟨(some 23), .mov, [.t 0], (some (18, false))⟩, ⟨(some 24), .nilc, [.t 23], (some (18, false))⟩, ⟨(some 25), .faddr 2, [.t 24], (some (18, false))⟩, ⟨(some 26), .load none, [.t 25], (some (18, false))⟩, ⟨(some 27), .bin .neq 3 false true 0, [.t 22, .t 26], (some (18, false))⟩, ⟨(some 28), .pick, [.t 18, .c (.bool true), .t 27], none⟩, ⟨(some 29), .mov, [.t 28], none⟩, ⟨(some 30), .mov, [.t 1], (some (29, false))⟩, ⟨(some 31), .nilc, [.t 30], (some (29, false))⟩, ⟨(some 32), .faddr 3, [.t 31], (some (29, false))⟩, ⟨(some 33), .load none, [.t 32], (some (29, false))⟩, ⟨(some 34), .mov, [.t 0], (some (29, false))⟩, ⟨(some 35), .nilc, [.t 34], (some (29, false))⟩, ⟨(some 36), .faddr 3, [.t 35], (some (29, false))⟩, ⟨(some 37), .load none, [.t 36], (some (29, false))⟩, ⟨(some 38), .bin .neq 3 false true 0, [.t 33, .t 37], (some (29, false))⟩, ⟨(some 39), .pick, [.t 29, .c (.bool true), .t 38], none⟩, ⟨(some 8), .mov, [.t 39], none⟩] [([4, 5, 6, 7], []), ([4, 5, 6, 7], []), ([4, 5, 6, 7], []), ([4, 5, 6, 7], []), ([0, 1, 2, 3], []), ([0, 1, 2, 3], []), ([0, 1, 2, 3], []), ([0, 1, 2, 3], []), ([], []), ([], []), ([14, 15, 16, 17], []), ([14, 15, 16, 17], []), ([14, 15, 16, 17], []), ([14, 15, 16, 17], []), ([10, 11, 12, 13], []), ([10, 11, 12, 13], []), ([10, 11, 12, 13], []), ([10, 11, 12, 13], []), ([], []), ([], []), ([], []), ([25, 26, 27, 28], []), ([25, 26, 27, 28], []), ([25, 26, 27, 28], []), ([25, 26, 27, 28], []), ([21, 22, 23, 24], []), ([21, 22, 23, 24], []), ([21, 22, 23, 24], []), ([21, 22, 23, 24], []), ([], []), ([], []), ([], [])])
  (.cond (.t 8) (.seq (.region 4 [⟨(some 4), .mov, [.c (.int .i64 120)], none⟩])
  .ret)
  .skip)))))
  (.seq (.region 5 [⟨(some 40), .mov, [.t 0], none⟩, ⟨(some 41), .mov, [.t 1], none⟩, ⟨(some 42), .call 90 s90, [.t 41], none⟩, ⟨(some 43), .nilc, [.t 42], none⟩, ⟨(some 44), .load (some 5), [.t 43], none⟩, ⟨(some 45), .nilc, [.t 40], none⟩, ⟨none, .store 5, [.t 45, .t 44], none⟩])
  (.seq (.region 6 [⟨(some 4), .mov, [.c (.int .i64 0)], none⟩])
  .ret)))), [.t 4]⟩
def h95 : Hints := ⟨[], callsOf [(90, .spec s90)], [], [], []⟩
theorem hk95 : HOk prog h95 := hok_of ⟨g90, trivial⟩ trivial trivial trivial
theorem e95 : elabF prog h95 [] 95 = some c95 := by kernel_rfl
def s95 : Spec := fspec prog c95
theorem g95 : Good prog 95 s95 := good_fspec hk95 mixed e95

def c21 : AFn := ⟨1, (.seq (.region 0 [⟨(some 2), .mov, [.c (.int .i64 0)], none⟩])
  (.seq (.region 1 [⟨(some 3), .alloc none (.int .i64 0), [], none⟩])
  (.seq (.block 0 (.seq (.region 2 [⟨(some 5), .mov, [.t 0], none⟩, ⟨(some 6), .bin .eql 62 true false 4, [.t 5, .c .nilIface], none⟩, ⟨(some 4), .mov, [.t 6], none⟩])
  (.cond (.t 4) (.seq (.region 3 [⟨(some 2), .mov, [.c (.int .i64 0)], none⟩])
  .ret)
  (.seq (.region 4 [⟨(some 8), .mov, [.t 0], none⟩, ⟨(some 9), .mkif 127, [.t 3], none⟩, ⟨(some 10), .call 55 s55, [.t 8, .t 9], none⟩, ⟨(some 7), .mov, [.t 10], none⟩])
  (.cond (.t 7) (.seq (.region 5 [⟨(some 11), .load none, [.t 3], none⟩, ⟨(some 2), .mov, [.t 11], none⟩])
  .ret)
  .skip)))))
  (.seq (.region 6 [⟨(some 2), .mov, [.c (.int .i64 20)], none⟩])
  .ret)))), [.t 2]⟩
def h21 : Hints := ⟨[], callsOf [(55, .spec s55)], [], [], []⟩
theorem hk21 : HOk prog h21 := hok_of ⟨g55, trivial⟩ trivial trivial trivial
theorem e21 : elabF prog h21 [] 21 = some c21 := by kernel_rfl
def s21 : Spec := fspec prog c21
theorem g21 : Good prog 21 s21 := good_fspec hk21 mixed e21

def c92 : AFn := ⟨1, (.seq (.region 0 [⟨(some 2), .mov, [.c (.bool false)], none⟩])
  (.seq (.seq (.region 1 [⟨(some 3), .mov, [.t 0], none⟩])
  (.block 0 (.seq (.seq (.region 2 [⟨(some 5), .bin .eql 38 true true 0, [.t 3, .c (.int .i64 1)], none⟩, ⟨(some 4), .mov, [.t 5], none⟩])
  (.cond (.t 4) .skip
  (.seq (.region 3 [⟨(some 6), .bin .eql 38 true true 0, [.t 3, .c (.int .i64 3)], none⟩, ⟨(some 4), .mov, [.t 6], none⟩])
  (.cond (.t 4) .skip
  (.seq (.region 4 [⟨(some 7), .bin .eql 38 true true 0, [.t 3, .c (.int .i64 90)], none⟩, ⟨(some 4), .mov, [.t 7], none⟩])
  (.cond (.t 4) .skip
  (.region 5 [⟨(some 8), .bin .eql 38 true true 0, [.t 3, .c (.int .i64 91)], none⟩, ⟨(some 4), .mov, [.t 8], none⟩])))))))
  (.cond (.t 4) (.seq (.region 6 [⟨(some 2), .mov, [.c (.bool true)], none⟩])
  .ret)
  .skip))))
  (.seq (.region 7 [⟨(some 9), .mov, [.t 0], none⟩, ⟨(some 10), .bin .geq 38 true true 0, [.t 9, .c (.int .i64 100)], none⟩, ⟨(some 11), .mov, [.t 10], none⟩, ⟨(some 12), .mov, [.t 0], (some (11, true))⟩, ⟨(some 13), .bin .leq 38 true true 0, [.t 12, .c (.int .i64 109)], (some (11, true))⟩, ⟨(some 14), .pick, [.t 11, .t 13, .c (.bool false)], none⟩, ⟨(some 2), .mov, [.t 14], none⟩])
  .ret))), [.t 2]⟩
def h92 : Hints := ⟨[], callsOf [], [], [], []⟩
theorem hk92 : HOk prog h92 := hok_of trivial trivial trivial trivial
theorem e92 : elabF prog h92 [] 92 = some c92 := by kernel_rfl
def s92 : Spec := fspec prog c92
theorem g92 : Good prog 92 s92 := good_fspec hk92 mixed e92
def t92 : List (List Value × Res) := [([(.int .i64 230)], (.ret (.bool false)))]
def p92 : PSpec := tab t92
theorem k92 : tabOk s92 t92 = true := by kernel_rfl
theorem gp92 : GoodP prog 92 p92 := goodP_tab g92 k92
end
end CwT
