/-
  The functions that the closed run comes to: their code for the evaluator, and that it is theirs.
-/
import Derived.Test.YtmmlgodbknhijaaGreatDoorCwGB
namespace CwT
open Go Cw
set_option maxRecDepth 100000
noncomputable section
def c182 : AFn := ⟨2, (.seq (.region 0 [⟨(some 4), .mov, [.c (mkStr [])], none⟩, ⟨(some 5), .mov, [.c (.int .i64 0)], none⟩])
  (.seq (.block 0 (.seq (.region 1 [⟨(some 11), .mov, [.t 0], none⟩, ⟨(some 12), .lenS, [.t 11], none⟩, ⟨(some 13), .bin .neq 3 true true 0, [.t 12, .c (.int .i64 64)], none⟩, ⟨(some 10), .mov, [.t 13], none⟩])
  (.cond (.t 10) (.seq (.region 2 [⟨(some 4), .mov, [.c (mkStr [])], none⟩, ⟨(some 5), .mov, [.c (.int .i64 4)], none⟩])
  .ret)
  (.seq (.region 3 [⟨(some 15), .mov, [.t 1], none⟩, ⟨(some 16), .lenV, [.t 15], none⟩, ⟨(some 17), .bin .gtr 3 true true 0, [.t 16, .c (.int .i64 1024)], none⟩, ⟨(some 14), .mov, [.t 17], none⟩])
  (.cond (.t 14) (.seq (.region 4 [⟨(some 4), .mov, [.c (mkStr [])], none⟩, ⟨(some 5), .mov, [.c (.int .i64 2)], none⟩])
  .ret)
  .skip)))))
  (.seq (.region 5 [⟨(some 18), .mov, [.t 0], none⟩, ⟨(some 19), .convSB 5, [.t 18], none⟩, ⟨(some 6), .mov, [.t 19], none⟩])
  (.seq (.seq (.region 6 [⟨(some 20), .mov, [.t 1], none⟩, ⟨(some 21), .lenV, [.t 20], none⟩, ⟨(some 22), .mov, [.c (.int .i64 0)], none⟩])
  (.block 1 (.loop [6, 20, 21, 22] [] (.seq (.region 7 [⟨(some 23), .bin .lss 3 false true 0, [.t 22, .t 21], none⟩])
  (.seq (.cond (.t 23) .skip
  (.exit 1))
  (.seq (.block 2 (.seq (.region 8 [⟨(some 24), .iaddrS 2, [.t 20, .t 22], none⟩, ⟨(some 25), .load (some 2), [.t 24], none⟩, ⟨(some 8), .alloc (some 8) (.agg ⟨[(.int .i64 0), (mkStr [])]⟩), [], none⟩, ⟨none, .store 2, [.t 8, .t 25], none⟩])
  (.seq (.seq (.region 9 [⟨(some 26), .load (some 2), [.t 8], none⟩, ⟨(some 27), .pcall 202 p202, [.t 26], none⟩, ⟨(some 9), .mov, [.t 27], none⟩])
  (.seq (.region 10 [⟨(some 28), .mov, [.t 9], none⟩, ⟨(some 29), .bin .neq 38 true true 0, [.t 28, .c (.int .i64 0)], none⟩])
  (.cond (.t 29) (.seq (.region 11 [⟨(some 30), .mov, [.t 9], none⟩, ⟨(some 4), .mov, [.c (mkStr [])], none⟩, ⟨(some 5), .mov, [.t 30], none⟩])
  .ret)
  .skip)))
  (.draw 12 [⟨(some 31), .mov, [.t 6], none⟩, ⟨(some 32), .faddr 0, [.t 8], none⟩, ⟨(some 33), .load none, [.t 32], none⟩, ⟨(some 34), .slV 1 true false false, [.t 31, .t 33], none⟩, ⟨(some 35), .faddr 1, [.t 8], none⟩, ⟨(some 36), .load none, [.t 35], none⟩, ⟨(some 37), .copyS, [.t 34, .t 36], none⟩] [([1, 2, 4, 5], []), ([0, 4, 5], []), ([0, 4, 5], []), ([4, 5], []), ([0, 1, 2, 3], []), ([0, 1, 2, 3], []), ([], [])]))))
  (.region 13 [⟨(some 38), .bin .add 3 true true 0, [.t 22, .c (.int .i64 1)], none⟩, ⟨(some 22), .mov, [.t 38], none⟩])))))))
  (.seq (.region 14 [⟨(some 39), .mov, [.t 6], none⟩, ⟨(some 40), .convBS, [.t 39], none⟩, ⟨(some 4), .mov, [.t 40], none⟩, ⟨(some 5), .mov, [.c (.int .i64 0)], none⟩])
  .ret))))), [.t 4, .t 5]⟩
def h182 : Hints := ⟨[8], callsOf [(202, .pure p202)], [], [], []⟩
theorem hk182 : HOk prog h182 := hok_of ⟨gp202, trivial⟩ trivial trivial trivial
theorem e182 : elabF prog h182 [([6, 20, 21, 22], [])] 182 = some c182 := by kernel_rfl
def s182 : Spec := fspec prog c182
theorem g182 : Good prog 182 s182 := good_fspec hk182 mixed e182

def c112 : AFn := ⟨2, (.seq (.region 0 [⟨(some 2), .box (some 2), [.t 0], none⟩, ⟨(some 4), .mov, [.c (.slice none 0 0)], none⟩, ⟨(some 5), .mov, [.c (.int .i64 0)], none⟩])
  (.seq (.seq (.region 1 [⟨(some 14), .load (some 3), [.t 2], none⟩, ⟨(some 15), .pcall 109 p109, [.t 14], none⟩, ⟨(some 6), .mov, [.t 15], none⟩])
  (.seq (.region 2 [⟨(some 16), .mov, [.t 6], none⟩, ⟨(some 17), .bin .eql 3 true true 0, [.t 16, .c (.int .i64 0)], none⟩, ⟨(some 18), .mov, [.t 17], none⟩, ⟨(some 19), .mov, [.t 1], (some (18, false))⟩, ⟨(some 20), .lenV, [.t 19], (some (18, false))⟩, ⟨(some 21), .mov, [.t 6], (some (18, false))⟩, ⟨(some 22), .bin .neq 3 false true 0, [.t 20, .t 21], (some (18, false))⟩, ⟨(some 23), .pick, [.t 18, .c (.bool true), .t 22], none⟩])
  (.cond (.t 23) (.seq (.region 3 [⟨(some 4), .mov, [.c (.slice none 0 0)], none⟩, ⟨(some 5), .mov, [.c (.int .i64 4)], none⟩])
  .ret)
  .skip)))
  (.seq (.region 4 [⟨(some 24), .load (some 3), [.t 2], none⟩, ⟨(some 25), .pcall 180 p180, [.t 24], none⟩, ⟨(some 26), .mkslice 1 16 [(mkStr [])], [.t 25, .t 25], none⟩, ⟨(some 7), .mov, [.t 26], none⟩])
  (.seq (.seq (.region 5 [⟨(some 27), .mov, [.t 7], none⟩, ⟨(some 28), .lenV, [.t 27], none⟩, ⟨(some 29), .mov, [.c (.int .i64 0)], none⟩])
  (.block 0 (.loop [1, 2, 7, 28, 29] [2] (.seq (.region 6 [⟨(some 30), .bin .lss 3 false true 0, [.t 29, .t 28], none⟩])
  (.seq (.cond (.t 30) .skip
  (.exit 0))
  (.seq (.block 1 (.seq (.region 7 [⟨(some 31), .mov, [.t 29], none⟩, ⟨(some 8), .mov, [.t 31], none⟩])
  (.region 8 [⟨(some 32), .mov, [.t 7], none⟩, ⟨(some 33), .mov, [.t 8], none⟩, ⟨(some 34), .pcall 57 p57, [], none⟩, ⟨(some 35), .iaddrS 1, [.t 32, .t 33], none⟩, ⟨none, .store 1, [.t 35, .t 34], none⟩])))
  (.region 9 [⟨(some 36), .bin .add 3 true true 0, [.t 29, .c (.int .i64 1)], none⟩, ⟨(some 29), .mov, [.t 36], none⟩])))))))
  (.seq (.seq (.region 10 [⟨(some 37), .mov, [.t 1], none⟩, ⟨(some 38), .lenV, [.t 37], none⟩, ⟨(some 39), .mov, [.c (.int .i64 0)], none⟩])
  (.block 2 (.loop [2, 7, 37, 38, 39] [2] (.seq (.region 11 [⟨(some 40), .bin .lss 3 false true 0, [.t 39, .t 38], none⟩])
  (.seq (.cond (.t 40) .skip
  (.exit 2))
  (.seq (.block 3 (.seq (.region 12 [⟨(some 41), .mov, [.t 39], none⟩, ⟨(some 42), .iaddrS 2, [.t 37, .t 39], none⟩, ⟨(some 43), .load (some 2), [.t 42], none⟩, ⟨(some 10), .alloc (some 10) (.agg ⟨[(.int .i64 0), (.int .i64 0)]⟩), [], none⟩, ⟨(some 9), .mov, [.t 41], none⟩, ⟨none, .store 2, [.t 10, .t 43], none⟩])
  (.seq (.region 13 [⟨(some 45), .load (some 3), [.t 2], none⟩, ⟨(some 46), .mov, [.t 9], none⟩, ⟨(some 47), .load (some 2), [.t 10], none⟩, ⟨(some 48), .pcall 181 p181, [.t 45, .t 46, .t 47], none⟩, ⟨(some 44), .mov, [.t 48], none⟩, ⟨(some 49), .ext 0, [.t 44], none⟩, ⟨(some 50), .ext 1, [.t 44], none⟩, ⟨(some 51), .ext 2, [.t 44], none⟩, ⟨(some 12), .alloc (some 12) (.agg ⟨[(.int .i64 0), (mkStr [])]⟩), [], none⟩, ⟨(some 11), .mov, [.t 49], none⟩, ⟨none, .store 2, [.t 12, .t 50], none⟩, ⟨(some 13), .mov, [.t 51], none⟩])
  (.seq (.seq (.region 14 [⟨(some 52), .mov, [.t 13], none⟩, ⟨(some 53), .bin .neq 38 true true 0, [.t 52, .c (.int .i64 0)], none⟩])
  (.cond (.t 53) (.seq (.region 15 [⟨(some 54), .mov, [.t 13], none⟩, ⟨(some 4), .mov, [.c (.slice none 0 0)], none⟩, ⟨(some 5), .mov, [.t 54], none⟩])
  .ret)
  .skip))
  (.draw 16 [⟨(some 56), .mov, [.t 7], none⟩, ⟨(some 57), .mov, [.t 11], none⟩, ⟨(some 58), .bin .sub 3 true true 0, [.t 57, .c (.int .i64 2)], none⟩, ⟨(some 59), .mov, [.t 7], none⟩, ⟨(some 60), .mov, [.t 11], none⟩, ⟨(some 61), .bin .sub 3 true true 0, [.t 60, .c (.int .i64 2)], none⟩, ⟨(some 62), .iaddrS 1, [.t 59, .t 61], none⟩, ⟨(some 63), .load none, [.t 62], none⟩, ⟨(some 64), .load (some 2), [.t 12], none⟩, ⟨(some 65), .bslice none 2 1 [(.int .i64 0), (mkStr [])] [(0, 2)], [.t 64], none⟩, ⟨(some 66), .call 182 s182, [.t 63, .t 65], none⟩, ⟨(some 55), .mov, [.t 66], none⟩, ⟨(some 67), .ext 0, [.t 55], none⟩, ⟨(some 68), .ext 1, [.t 55], none⟩, ⟨(some 69), .iaddrS 1, [.t 56, .t 58], none⟩, ⟨none, .store 1, [.t 69, .t 67], none⟩] [([1, 2, 3, 4, 5, 6, 7, 8, 9, 10, 11, 12, 13], []), ([0, 3, 4, 5, 6, 7, 8, 9, 10, 11, 12, 13], []), ([0, 3, 4, 5, 6, 7, 8, 9, 10, 11, 12, 13], [10, 11]), ([0, 1, 2, 4, 5, 8, 9], []), ([0, 1, 2, 3, 8, 9], []), ([0, 1, 2, 3, 8, 9], [10]), ([0, 1, 2, 8, 9], []), ([0, 1, 2, 8, 9], [10]), ([0, 1, 2, 3, 4, 5, 6, 7], []), ([0, 1, 2, 3, 4, 5, 6, 7], []), ([0, 1, 2], []), ([0, 1, 2], []), ([0, 1, 2, 13], []), ([0, 1, 2, 12, 14, 15], []), ([13], []), ([13], [])])))))
  (.region 17 [⟨(some 70), .bin .add 3 true true 0, [.t 39, .c (.int .i64 1)], none⟩, ⟨(some 39), .mov, [.t 70], none⟩])))))))
  (.seq (.region 18 [⟨(some 71), .mov, [.t 7], none⟩, ⟨(some 4), .mov, [.t 71], none⟩, ⟨(some 5), .mov, [.c (.int .i64 0)], none⟩])
  .ret)))))), [.t 4, .t 5]⟩
def h112 : Hints := ⟨[2, 10, 12], callsOf [(57, .pure p57), (109, .pure p109), (180, .pure p180), (181, .pure p181), (182, .spec s182)], [], [], []⟩
theorem hk112 : HOk prog h112 := hok_of ⟨gp57, gp109, gp180, gp181, g182, trivial⟩ trivial trivial trivial
theorem e112 : elabF prog h112 [([1, 2, 7, 28, 29], [2]), ([2, 7, 37, 38, 39], [2])] 112 = some c112 := by kernel_rfl
def s112 : Spec := fspec prog c112
theorem g112 : Good prog 112 s112 := good_fspec hk112 mixed e112

def c113 : AFn := ⟨3, (.seq (.region 0 [⟨(some 3), .box (some 3), [.t 0], none⟩, ⟨(some 6), .mov, [.c (.int .i64 0)], none⟩, ⟨(some 7), .mov, [.c (.int .i64 0)], none⟩])
  (.seq (.seq (.region 1 [⟨(some 9), .load (some 3), [.t 3], none⟩, ⟨(some 10), .mov, [.t 1], none⟩, ⟨(some 11), .faddr 0, [.t 3], none⟩, ⟨(some 12), .load none, [.t 11], none⟩, ⟨(some 13), .pcall 183 p183, [.t 9, .t 10, .t 12], none⟩, ⟨(some 8), .mov, [.t 13], none⟩])
  (.seq (.region 2 [⟨(some 14), .mov, [.t 8], none⟩, ⟨(some 15), .bin .neq 38 true true 0, [.t 14, .c (.int .i64 0)], none⟩])
  (.cond (.t 15) (.seq (.region 3 [⟨(some 16), .mov, [.t 8], none⟩, ⟨(some 6), .mov, [.c (.int .i64 0)], none⟩, ⟨(some 7), .mov, [.t 16], none⟩])
  .ret)
  .skip)))
  (.seq (.seq (.region 4 [⟨(some 17), .mov, [.t 2], none⟩])
  (.cond (.t 17) (.seq (.region 5 [⟨(some 18), .load (some 3), [.t 3], none⟩, ⟨(some 19), .mov, [.t 1], none⟩, ⟨(some 20), .pcall 60 p60, [.t 18, .t 19], none⟩, ⟨(some 21), .bin .add 3 true true 0, [.t 20, .c (.int .i64 1)], none⟩, ⟨(some 6), .mov, [.t 21], none⟩, ⟨(some 7), .mov, [.c (.int .i64 0)], none⟩])
  .ret)
  .skip))
  (.seq (.region 6 [⟨(some 22), .load (some 3), [.t 3], none⟩, ⟨(some 23), .mov, [.t 1], none⟩, ⟨(some 24), .pcall 60 p60, [.t 22, .t 23], none⟩, ⟨(some 6), .mov, [.t 24], none⟩, ⟨(some 7), .mov, [.c (.int .i64 0)], none⟩])
  .ret)))), [.t 6, .t 7]⟩
def h113 : Hints := ⟨[3], callsOf [(60, .pure p60), (183, .pure p183)], [], [], []⟩
theorem hk113 : HOk prog h113 := hok_of ⟨gp60, gp183, trivial⟩ trivial trivial trivial
theorem e113 : elabF prog h113 [] 113 = some c113 := by kernel_rfl
def s113 : Spec := fspec prog c113
theorem g113 : Good prog 113 s113 := good_fspec hk113 mixed e113
def t113 : List (List Value × Res) := [([(.agg ⟨[(.int .i64 1), (.int .i64 2), (.int .i64 3)]⟩), (.int .i64 0), (.bool false)], (.ret (.tuple ⟨[(.int .i64 3), (.int .i64 0)]⟩)))]
def p113 : PSpec := tab t113
theorem k113 : tabOk s113 t113 = true := by kernel_rfl
theorem gp113 : GoodP prog 113 p113 := goodP_tab g113 k113

def c184 : AFn := ⟨2, (.seq (.region 0 [⟨(some 4), .mov, [.c (.int .i64 0)], none⟩])
  (.seq (.seq (.region 1 [⟨(some 5), .mov, [.t 0], none⟩, ⟨(some 6), .bin .lss 3 true true 0, [.t 5, .c (.int .i64 1)], none⟩, ⟨(some 7), .mov, [.t 6], none⟩, ⟨(some 8), .mov, [.t 0], (some (7, false))⟩, ⟨(some 9), .bin .gtr 3 true true 0, [.t 8, .c (.int .i64 64)], (some (7, false))⟩, ⟨(some 10), .pick, [.t 7, .c (.bool true), .t 9], none⟩, ⟨(some 11), .mov, [.t 10], none⟩, ⟨(some 12), .mov, [.t 1], (some (11, false))⟩, ⟨(some 13), .bin .lss 3 true true 0, [.t 12, .c (.int .i64 0)], (some (11, false))⟩, ⟨(some 14), .pick, [.t 11, .c (.bool true), .t 13], none⟩, ⟨(some 15), .mov, [.t 14], none⟩, ⟨(some 16), .mov, [.t 1], (some (15, false))⟩, ⟨(some 17), .mov, [.t 0], (some (15, false))⟩, ⟨(some 18), .bin .geq 3 false true 0, [.t 16, .t 17], (some (15, false))⟩, ⟨(some 19), .pick, [.t 15, .c (.bool true), .t 18], none⟩])
  (.cond (.t 19) (.seq (.region 2 [⟨(some 4), .mov, [.c (.int .i64 1)], none⟩])
  .ret)
  .skip))
  (.seq (.region 3 [⟨(some 4), .mov, [.c (.int .i64 0)], none⟩])
  .ret))), [.t 4]⟩
def h184 : Hints := ⟨[], callsOf [], [], [], []⟩
theorem hk184 : HOk prog h184 := hok_of trivial trivial trivial trivial
theorem e184 : elabF prog h184 [] 184 = some c184 := by kernel_rfl
def s184 : Spec := fspec prog c184
theorem g184 : Good prog 184 s184 := good_fspec hk184 mixed e184
def t184 : List (List Value × Res) := [([(.int .i64 2), (.int .i64 0)], (.ret (.int .i64 0)))]
def p184 : PSpec := tab t184
theorem k184 : tabOk s184 t184 = true := by kernel_rfl
theorem gp184 : GoodP prog 184 p184 := goodP_tab g184 k184

def c114 : AFn := ⟨2, (.seq (.region 0 [⟨(some 4), .mov, [.c (mkStr [])], none⟩, ⟨(some 5), .mov, [.c (.int .i64 0)], none⟩])
  (.seq (.seq (.region 1 [⟨(some 11), .mov, [.t 0], none⟩, ⟨(some 12), .pcall 184 p184, [.t 11, .c (.int .i64 0)], none⟩, ⟨(some 6), .mov, [.t 12], none⟩])
  (.seq (.region 2 [⟨(some 13), .mov, [.t 6], none⟩, ⟨(some 14), .bin .neq 38 true true 0, [.t 13, .c (.int .i64 0)], none⟩])
  (.cond (.t 14) (.seq (.region 3 [⟨(some 15), .mov, [.t 6], none⟩, ⟨(some 4), .mov, [.c (mkStr [])], none⟩, ⟨(some 5), .mov, [.t 15], none⟩])
  .ret)
  .skip)))
  (.seq (.region 4 [⟨(some 16), .mkslice 1 1 [(.int .u8 0)], [.c (.int .i64 64), .c (.int .i64 64)], none⟩, ⟨(some 7), .mov, [.t 16], none⟩])
  (.seq (.seq (.region 5 [⟨(some 17), .mov, [.t 1], none⟩, ⟨(some 18), .lenV, [.t 17], none⟩, ⟨(some 19), .mov, [.c (.int .i64 0)], none⟩])
  (.block 0 (.loop [0, 7, 17, 18, 19] [] (.seq (.region 6 [⟨(some 20), .bin .lss 3 false true 0, [.t 19, .t 18], none⟩])
  (.seq (.cond (.t 20) .skip
  (.exit 0))
  (.seq (.block 1 (.seq (.region 7 [⟨(some 21), .iaddrS 1, [.t 17, .t 19], none⟩, ⟨(some 22), .load none, [.t 21], none⟩, ⟨(some 9), .mov, [.t 22], none⟩])
  (.seq (.seq (.region 8 [⟨(some 23), .mov, [.t 0], none⟩, ⟨(some 24), .mov, [.t 9], none⟩, ⟨(some 25), .pcall 184 p184, [.t 23, .t 24], none⟩, ⟨(some 10), .mov, [.t 25], none⟩])
  (.seq (.region 9 [⟨(some 26), .mov, [.t 10], none⟩, ⟨(some 27), .bin .neq 38 true true 0, [.t 26, .c (.int .i64 0)], none⟩])
  (.cond (.t 27) (.seq (.region 10 [⟨(some 28), .mov, [.t 10], none⟩, ⟨(some 4), .mov, [.c (mkStr [])], none⟩, ⟨(some 5), .mov, [.t 28], none⟩])
  .ret)
  .skip)))
  (.region 11 [⟨(some 29), .mov, [.t 7], none⟩, ⟨(some 30), .mov, [.t 9], none⟩, ⟨(some 31), .iaddrS 1, [.t 29, .t 30], none⟩, ⟨none, .store 1, [.t 31, .c (.int .u8 1)], none⟩]))))
  (.region 12 [⟨(some 32), .bin .add 3 true true 0, [.t 19, .c (.int .i64 1)], none⟩, ⟨(some 19), .mov, [.t 32], none⟩])))))))
  (.seq (.region 13 [⟨(some 33), .mov, [.t 7], none⟩, ⟨(some 34), .convBS, [.t 33], none⟩, ⟨(some 4), .mov, [.t 34], none⟩, ⟨(some 5), .mov, [.c (.int .i64 0)], none⟩])
  .ret))))), [.t 4, .t 5]⟩
def h114 : Hints := ⟨[], callsOf [(184, .pure p184)], [], [], []⟩
theorem hk114 : HOk prog h114 := hok_of ⟨gp184, trivial⟩ trivial trivial trivial
theorem e114 : elabF prog h114 [([0, 7, 17, 18, 19], [])] 114 = some c114 := by kernel_rfl
def s114 : Spec := fspec prog c114
theorem g114 : Good prog 114 s114 := good_fspec hk114 mixed e114

def c115 : AFn := ⟨2, (.seq (.region 0 [⟨(some 2), .box (some 2), [.t 0], none⟩, ⟨(some 4), .mov, [.c (.int .i64 0)], none⟩, ⟨(some 5), .mov, [.c (.int .i64 0)], none⟩, ⟨(some 6), .mov, [.c (.int .i64 0)], none⟩, ⟨(some 7), .mov, [.c (.int .i64 0)], none⟩])
  (.seq (.seq (.draw 1 [⟨(some 9), .load (some 3), [.t 2], none⟩, ⟨(some 10), .mov, [.t 1], none⟩, ⟨(some 11), .load (some 3), [.t 2], none⟩, ⟨(some 12), .pcall 179 p179, [.t 11], none⟩, ⟨(some 13), .bin .add 3 true true 0, [.t 12, .c (.int .i64 1)], none⟩, ⟨(some 14), .pcall 183 p183, [.t 9, .t 10, .t 13], none⟩, ⟨(some 8), .mov, [.t 14], none⟩] [([1, 2, 3, 4], []), ([0, 2, 3, 4], []), ([0, 1], []), ([0, 1], []), ([0, 1], []), ([], []), ([], [])])
  (.seq (.region 2 [⟨(some 15), .mov, [.t 8], none⟩, ⟨(some 16), .bin .neq 38 true true 0, [.t 15, .c (.int .i64 0)], none⟩])
  (.cond (.t 16) (.seq (.region 3 [⟨(some 17), .mov, [.t 8], none⟩, ⟨(some 4), .mov, [.c (.int .i64 0)], none⟩, ⟨(some 5), .mov, [.c (.int .i64 0)], none⟩, ⟨(some 6), .mov, [.c (.int .i64 0)], none⟩, ⟨(some 7), .mov, [.t 17], none⟩])
  .ret)
  .skip)))
  (.seq (.seq (.region 4 [⟨(some 18), .mov, [.t 1], none⟩, ⟨(some 19), .bin .eql 3 true true 0, [.t 18, .c (.int .i64 0)], none⟩])
  (.cond (.t 19) (.seq (.region 5 [⟨(some 4), .mov, [.c (.int .i64 0)], none⟩, ⟨(some 5), .mov, [.c (.int .i64 0)], none⟩, ⟨(some 6), .mov, [.c (.int .i64 0)], none⟩, ⟨(some 7), .mov, [.c (.int .i64 1)], none⟩])
  .ret)
  .skip))
  (.seq (.draw 6 [⟨(some 20), .mov, [.t 1], none⟩, ⟨(some 21), .bin .sub 3 true true 0, [.t 20, .c (.int .i64 1)], none⟩, ⟨(some 22), .faddr 1, [.t 2], none⟩, ⟨(some 23), .load none, [.t 22], none⟩, ⟨(some 24), .bin .quo 3 false true 0, [.t 21, .t 23], none⟩, ⟨(some 25), .mov, [.t 1], none⟩, ⟨(some 26), .bin .sub 3 true true 0, [.t 25, .c (.int .i64 1)], none⟩, ⟨(some 27), .faddr 1, [.t 2], none⟩, ⟨(some 28), .load none, [.t 27], none⟩, ⟨(some 29), .bin .rem 3 false true 0, [.t 26, .t 28], none⟩, ⟨(some 5), .mov, [.t 24], none⟩, ⟨(some 6), .mov, [.t 29], none⟩] [([2, 3, 5, 6, 7, 8, 9], []), ([2, 3, 5, 6, 7, 8, 9], []), ([0, 1, 5, 6, 7, 8, 9], []), ([0, 1, 5, 6, 7, 8, 9], []), ([5, 6, 7, 8, 9], []), ([0, 1, 2, 3, 4, 7, 8, 10], []), ([0, 1, 2, 3, 4, 7, 8, 10], []), ([0, 1, 2, 3, 4, 5, 6, 10], []), ([0, 1, 2, 3, 4, 5, 6, 10], []), ([0, 1, 2, 3, 4, 10], []), ([5, 6, 7, 8, 9], []), ([], [])])
  (.seq (.region 7 [⟨(some 30), .load (some 3), [.t 2], none⟩, ⟨(some 31), .mov, [.t 5], none⟩, ⟨(some 32), .pcall 60 p60, [.t 30, .t 31], none⟩, ⟨(some 33), .bin .add 3 true true 0, [.t 32, .c (.int .i64 2)], none⟩, ⟨(some 34), .mov, [.t 6], none⟩, ⟨(some 35), .bin .add 3 false true 0, [.t 33, .t 34], none⟩, ⟨(some 36), .mov, [.t 5], none⟩, ⟨(some 37), .mov, [.t 6], none⟩, ⟨(some 4), .mov, [.t 35], none⟩, ⟨(some 5), .mov, [.t 36], none⟩, ⟨(some 6), .mov, [.t 37], none⟩, ⟨(some 7), .mov, [.c (.int .i64 0)], none⟩])
  .ret))))), [.t 4, .t 5, .t 6, .t 7]⟩
def h115 : Hints := ⟨[2], callsOf [(60, .pure p60), (179, .pure p179), (183, .pure p183)], [], [], []⟩
theorem hk115 : HOk prog h115 := hok_of ⟨gp60, gp179, gp183, trivial⟩ trivial trivial trivial
theorem e115 : elabF prog h115 [] 115 = some c115 := by kernel_rfl
def s115 : Spec := fspec prog c115
theorem g115 : Good prog 115 s115 := good_fspec hk115 mixed e115
def t115 : List (List Value × Res) := [([(.agg ⟨[(.int .i64 1), (.int .i64 2), (.int .i64 3)]⟩), (.int .i64 1)], (.ret (.tuple ⟨[(.int .i64 5), (.int .i64 0), (.int .i64 0), (.int .i64 0)]⟩)))]
def p115 : PSpec := tab t115
theorem k115 : tabOk s115 t115 = true := by kernel_rfl
theorem gp115 : GoodP prog 115 p115 := goodP_tab g115 k115

def c287 : AFn := ⟨2, (.seq (.region 0 [⟨(some 2), .box (some 2), [.t 0], none⟩, ⟨(some 4), .mov, [.c (.int .i64 0)], none⟩, ⟨(some 5), .mov, [.c (.int .i64 0)], none⟩, ⟨(some 6), .mov, [.c (.int .i64 0)], none⟩])
  (.seq (.seq (.draw 1 [⟨(some 10), .load (some 3), [.t 2], none⟩, ⟨(some 11), .mov, [.t 1], none⟩, ⟨(some 12), .load (some 3), [.t 2], none⟩, ⟨(some 13), .pcall 27 p27, [.t 12], none⟩, ⟨(some 14), .pcall 183 p183, [.t 10, .t 11, .t 13], none⟩, ⟨(some 7), .mov, [.t 14], none⟩] [([1, 2, 3], []), ([0, 2, 3], []), ([0, 1], []), ([0, 1], []), ([], []), ([], [])])
  (.seq (.region 2 [⟨(some 15), .mov, [.t 7], none⟩, ⟨(some 16), .bin .neq 38 true true 0, [.t 15, .c (.int .i64 0)], none⟩])
  (.cond (.t 16) (.seq (.region 3 [⟨(some 17), .mov, [.t 7], none⟩, ⟨(some 4), .mov, [.c (.int .i64 0)], none⟩, ⟨(some 5), .mov, [.c (.int .i64 0)], none⟩, ⟨(some 6), .mov, [.t 17], none⟩])
  .ret)
  .skip)))
  (.seq (.seq (.region 4 [⟨(some 18), .mov, [.t 1], none⟩, ⟨(some 19), .load (some 3), [.t 2], none⟩, ⟨(some 20), .pcall 60 p60, [.t 19, .c (.int .i64 0)], none⟩, ⟨(some 21), .bin .lss 3 false true 0, [.t 18, .t 20], none⟩])
  (.cond (.t 21) (.seq (.seq (.region 5 [⟨(some 22), .mov, [.t 1], none⟩])
  (.block 0 (.seq (.seq (.region 6 [⟨(some 24), .bin .eql 3 true true 0, [.t 22, .c (.int .i64 0)], none⟩, ⟨(some 23), .mov, [.t 24], none⟩])
  (.cond (.t 23) .skip
  (.region 7 [⟨(some 25), .bin .eql 3 true true 0, [.t 22, .c (.int .i64 1)], none⟩, ⟨(some 23), .mov, [.t 25], none⟩])))
  (.cond (.t 23) (.seq (.region 8 [⟨(some 26), .mov, [.t 1], none⟩, ⟨(some 4), .mov, [.t 26], none⟩, ⟨(some 5), .mov, [.c (.int .i64 0)], none⟩, ⟨(some 6), .mov, [.c (.int .i64 0)], none⟩])
  .ret)
  .skip))))
  (.seq (.region 9 [⟨(some 27), .mov, [.t 1], none⟩, ⟨(some 28), .bin .sub 3 true true 0, [.t 27, .c (.int .i64 2)], none⟩, ⟨(some 4), .mov, [.c (.int .i64 2)], none⟩, ⟨(some 5), .mov, [.t 28], none⟩, ⟨(some 6), .mov, [.c (.int .i64 0)], none⟩])
  .ret))
  .skip))
  (.seq (.region 10 [⟨(some 29), .mov, [.t 1], none⟩, ⟨(some 30), .load (some 3), [.t 2], none⟩, ⟨(some 31), .pcall 60 p60, [.t 30, .c (.int .i64 0)], none⟩, ⟨(some 32), .bin .sub 3 false true 0, [.t 29, .t 31], none⟩, ⟨(some 8), .mov, [.t 32], none⟩])
  (.seq (.draw 11 [⟨(some 33), .mov, [.t 8], none⟩, ⟨(some 34), .load (some 3), [.t 2], none⟩, ⟨(some 35), .pcall 110 p110, [.t 34], none⟩, ⟨(some 36), .bin .quo 3 false true 0, [.t 33, .t 35], none⟩, ⟨(some 37), .mov, [.t 8], none⟩, ⟨(some 38), .load (some 3), [.t 2], none⟩, ⟨(some 39), .pcall 110 p110, [.t 38], none⟩, ⟨(some 40), .bin .rem 3 false true 0, [.t 37, .t 39], none⟩, ⟨(some 9), .mov, [.t 36], none⟩, ⟨(some 8), .mov, [.t 40], none⟩] [([1, 2, 4, 5, 6, 7], []), ([0, 4, 5], []), ([0, 4, 5], []), ([4, 5, 6, 7], []), ([0, 1, 2, 3, 5, 6, 8], []), ([0, 1, 2, 3, 4], []), ([0, 3, 4], []), ([0, 3, 8], []), ([4, 7], []), ([], [])])
  (.seq (.block 1 (.seq (.region 12 [⟨(some 42), .mov, [.t 8], none⟩, ⟨(some 43), .faddr 1, [.t 2], none⟩, ⟨(some 44), .load none, [.t 43], none⟩, ⟨(some 45), .bin .add 3 true true 0, [.c (.int .i64 2), .t 44], none⟩, ⟨(some 46), .bin .geq 3 false true 0, [.t 42, .t 45], none⟩, ⟨(some 41), .mov, [.t 46], none⟩])
  (.cond (.t 41) (.seq (.draw 13 [⟨(some 47), .mov, [.t 9], none⟩, ⟨(some 48), .faddr 2, [.t 2], none⟩, ⟨(some 49), .load none, [.t 48], none⟩, ⟨(some 50), .bin .mul 3 false true 0, [.t 47, .t 49], none⟩, ⟨(some 51), .mov, [.t 8], none⟩, ⟨(some 52), .bin .add 3 false true 0, [.t 50, .t 51], none⟩, ⟨(some 53), .bin .sub 3 true true 0, [.t 52, .c (.int .i64 2)], none⟩, ⟨(some 54), .faddr 1, [.t 2], none⟩, ⟨(some 55), .load none, [.t 54], none⟩, ⟨(some 56), .bin .sub 3 false true 0, [.t 53, .t 55], none⟩, ⟨(some 4), .mov, [.c (.int .i64 6)], none⟩, ⟨(some 5), .mov, [.t 56], none⟩, ⟨(some 6), .mov, [.c (.int .i64 0)], none⟩] [([1, 2, 4, 7, 8, 10], []), ([0, 4, 7, 8, 10], []), ([0, 4, 7, 8, 10], []), ([4, 7, 8, 10], []), ([0, 1, 2, 3, 7, 8, 10], []), ([7, 8, 10], []), ([7, 8, 10], []), ([0, 1, 2, 3, 4, 5, 6, 10], []), ([0, 1, 2, 3, 4, 5, 6, 10], []), ([10], []), ([0, 1, 2, 3, 4, 5, 6, 7, 8, 9], []), ([], []), ([], [])])
  .ret)
  (.seq (.region 14 [⟨(some 58), .mov, [.t 8], none⟩, ⟨(some 59), .bin .geq 3 true true 0, [.t 58, .c (.int .i64 2)], none⟩, ⟨(some 57), .mov, [.t 59], none⟩])
  (.cond (.t 57) (.seq (.draw 15 [⟨(some 60), .mov, [.t 9], none⟩, ⟨(some 61), .faddr 1, [.t 2], none⟩, ⟨(some 62), .load none, [.t 61], none⟩, ⟨(some 63), .bin .mul 3 false true 0, [.t 60, .t 62], none⟩, ⟨(some 64), .mov, [.t 8], none⟩, ⟨(some 65), .bin .add 3 false true 0, [.t 63, .t 64], none⟩, ⟨(some 66), .bin .sub 3 true true 0, [.t 65, .c (.int .i64 2)], none⟩, ⟨(some 67), .bin .add 3 true true 0, [.t 66, .c (.int .i64 1)], none⟩, ⟨(some 4), .mov, [.c (.int .i64 5)], none⟩, ⟨(some 5), .mov, [.t 67], none⟩, ⟨(some 6), .mov, [.c (.int .i64 0)], none⟩] [([1, 2, 4, 8], []), ([0, 4, 8], []), ([0, 4, 8], []), ([4, 8], []), ([0, 1, 2, 3, 8], []), ([8], []), ([8], []), ([8], []), ([0, 1, 2, 3, 4, 5, 6, 7], []), ([], []), ([], [])])
  .ret)
  .skip)))))
  (.seq (.region 16 [⟨(some 68), .mov, [.t 8], none⟩, ⟨(some 69), .bin .add 3 true true 0, [.c (.int .i64 3), .t 68], none⟩, ⟨(some 70), .mov, [.t 9], none⟩, ⟨(some 4), .mov, [.t 69], none⟩, ⟨(some 5), .mov, [.t 70], none⟩, ⟨(some 6), .mov, [.c (.int .i64 0)], none⟩])
  .ret))))))), [.t 4, .t 5, .t 6]⟩
def h287 : Hints := ⟨[2], callsOf [(27, .pure p27), (60, .pure p60), (110, .pure p110), (183, .pure p183)], [], [], []⟩
theorem hk287 : HOk prog h287 := hok_of ⟨gp27, gp60, gp110, gp183, trivial⟩ trivial trivial trivial
theorem e287 : elabF prog h287 [] 287 = some c287 := by kernel_rfl
def s287 : Spec := fspec prog c287
theorem g287 : Good prog 287 s287 := good_fspec hk287 mixed e287
def t287 : List (List Value × Res) := [([(.agg ⟨[(.int .i64 1), (.int .i64 2), (.int .i64 3)]⟩), (.int .i64 0)], (.ret (.tuple ⟨[(.int .i64 0), (.int .i64 0), (.int .i64 0)]⟩)))]
def p287 : PSpec := tab t287
theorem k287 : tabOk s287 t287 = true := by kernel_rfl
theorem gp287 : GoodP prog 287 p287 := goodP_tab g287 k287

def c257 : AFn := ⟨2, (.seq (.region 0 [⟨(some 2), .box (some 2), [.t 0], none⟩, ⟨(some 4), .mov, [.c (.bool false)], none⟩])
  (.seq (.seq (.region 1 [⟨(some 10), .mov, [.t 1], none⟩, ⟨(some 11), .lenV, [.t 10], none⟩, ⟨(some 12), .mov, [.c (.int .i64 0)], none⟩])
  (.block 0 (.loop [2, 10, 11, 12] [2] (.seq (.region 2 [⟨(some 13), .bin .lss 3 false true 0, [.t 12, .t 11], none⟩])
  (.seq (.cond (.t 13) .skip
  (.exit 0))
  (.seq (.block 1 (.seq (.region 3 [⟨(some 14), .iaddrS 1, [.t 10, .t 12], none⟩, ⟨(some 15), .load none, [.t 14], none⟩, ⟨(some 6), .mov, [.t 15], none⟩])
  (.seq (.region 4 [⟨(some 17), .load (some 3), [.t 2], none⟩, ⟨(some 18), .mov, [.t 6], none⟩, ⟨(some 19), .pcall 287 p287, [.t 17, .t 18], none⟩, ⟨(some 16), .mov, [.t 19], none⟩, ⟨(some 20), .ext 0, [.t 16], none⟩, ⟨(some 21), .ext 1, [.t 16], none⟩, ⟨(some 22), .ext 2, [.t 16], none⟩, ⟨(some 7), .mov, [.t 20], none⟩, ⟨(some 8), .mov, [.t 21], none⟩, ⟨(some 9), .mov, [.t 22], none⟩])
  (.seq (.region 5 [⟨(some 23), .mov, [.t 6], none⟩, ⟨(some 24), .bin .neq 3 true true 0, [.t 23, .c (.int .i64 0)], none⟩, ⟨(some 25), .mov, [.t 24], none⟩, ⟨(some 26), .mov, [.t 9], (some (25, true))⟩, ⟨(some 27), .bin .neq 38 true true 0, [.t 26, .c (.int .i64 0)], (some (25, true))⟩, ⟨(some 28), .mov, [.t 27], (some (25, true))⟩, ⟨(some 29), .mov, [.t 7], (some (28, false))⟩, ⟨(some 30), .bin .neq 3 true true 0, [.t 29, .c (.int .i64 6)], (some (28, false))⟩, ⟨(some 31), .pick, [.t 28, .c (.bool true), .t 30], (some (25, true))⟩, ⟨(some 32), .pick, [.t 25, .t 31, .c (.bool false)], none⟩])
  (.cond (.t 32) (.seq (.region 6 [⟨(some 4), .mov, [.c (.bool false)], none⟩])
  .ret)
  .skip)))))
  (.region 7 [⟨(some 33), .bin .add 3 true true 0, [.t 12, .c (.int .i64 1)], none⟩, ⟨(some 12), .mov, [.t 33], none⟩])))))))
  (.seq (.region 8 [⟨(some 4), .mov, [.c (.bool true)], none⟩])
  .ret))), [.t 4]⟩
def h257 : Hints := ⟨[2], callsOf [(287, .pure p287)], [], [], []⟩
theorem hk257 : HOk prog h257 := hok_of ⟨gp287, trivial⟩ trivial trivial trivial
theorem e257 : elabF prog h257 [([2, 10, 11, 12], [2])] 257 = some c257 := by kernel_rfl
def s257 : Spec := fspec prog c257
theorem g257 : Good prog 257 s257 := good_fspec hk257 mixed e257

def c185 : AFn := ⟨2, (.seq (.region 0 [⟨(some 2), .box (some 2), [.t 0], none⟩, ⟨(some 3), .box (some 3), [.t 1], none⟩, ⟨(some 4), .mov, [.c (.int .i64 0)], none⟩])
  (.seq (.seq (.region 1 [⟨(some 8), .load (some 3), [.t 2], none⟩, ⟨(some 9), .pcall 89 p89, [.t 8], none⟩, ⟨(some 5), .mov, [.t 9], none⟩])
  (.seq (.region 2 [⟨(some 10), .mov, [.t 5], none⟩, ⟨(some 11), .bin .neq 38 true true 0, [.t 10, .c (.int .i64 0)], none⟩])
  (.cond (.t 11) (.seq (.region 3 [⟨(some 12), .mov, [.t 5], none⟩, ⟨(some 4), .mov, [.t 12], none⟩])
  .ret)
  .skip)))
  (.seq (.region 4 [⟨(some 13), .faddr 4, [.t 3], none⟩, ⟨(some 14), .load none, [.t 13], none⟩, ⟨(some 15), .bin .lss 3 true true 0, [.t 14, .c (.int .i64 0)], none⟩, ⟨(some 16), .mov, [.t 15], none⟩, ⟨(some 17), .faddr 4, [.t 3], (some (16, false))⟩, ⟨(some 18), .load none, [.t 17], (some (16, false))⟩, ⟨(some 19), .bin .gtr 3 true true 0, [.t 18, .c (.int .i64 65535)], (some (16, false))⟩, ⟨(some 20), .pick, [.t 16, .c (.bool true), .t 19], none⟩, ⟨(some 21), .mov, [.t 20], none⟩, ⟨(some 22), .faddr 1, [.t 3], (some (21, false))⟩, ⟨(some 23), .load none, [.t 22], (some (21, false))⟩, ⟨(some 24), .bin .lss 3 true true 0, [.t 23, .c (.int .i64 0)], (some (21, false))⟩, ⟨(some 25), .pick, [.t 21, .c (.bool true), .t 24], none⟩, ⟨(some 26), .mov, [.t 25], none⟩, ⟨(some 27), .faddr 1, [.t 3], (some (26, false))⟩, ⟨(some 28), .load none, [.t 27], (some (26, false))⟩, ⟨(some 29), .bin .gtr 3 true true 0, [.t 28, .c (.int .i64 255)], (some (26, false))⟩, ⟨(some 30), .pick, [.t 26, .c (.bool true), .t 29], none⟩, ⟨(some 31), .mov, [.t 30], none⟩, ⟨(some 32), .faddr 2, [.t 3], (some (31, false))⟩, ⟨(some 33), .load none, [.t 32], (some (31, false))⟩, ⟨(some 34), .bin .lss 3 true true 0, [.t 33, .c (.int .i64 0)], (some (31, false))⟩, ⟨(some 35), .pick, [.t 31, .c (.bool true), .t 34], none⟩, ⟨(some 36), .mov, [.t 35], none⟩, ⟨(some 37), .faddr 2, [.t 3], (some (36, false))⟩, ⟨(some 38), .load none, [.t 37], (some (36, false))⟩, ⟨(some 39), .bin .gtr 3 true true 0, [.t 38, .c (.int .i64 2560)], (some (36, false))⟩, ⟨(some 40), .pick, [.t 36, .c (.bool true), .t 39], none⟩, ⟨(some 6), .mov, [.t 40], none⟩])
  (.seq (.seq (.region 5 [⟨(some 41), .faddr 0, [.t 3], none⟩, ⟨(some 42), .load none, [.t 41], none⟩])
  (.block 0 (.seq (.block 4 (.seq (.block 3 (.seq (.block 2 (.seq (.block 1 (.seq (.seq (.seq (.region 6 [⟨(some 44), .bin .eql 3 true true 0, [.t 42, .c (.int .i64 0)], none⟩, ⟨(some 43), .mov, [.t 44], none⟩])
  (.cond (.t 43) (.exit 1)
  .skip))
  (.seq (.seq (.region 7 [⟨(some 46), .bin .eql 3 true true 0, [.t 42, .c (.int .i64 2)], none⟩, ⟨(some 45), .mov, [.t 46], none⟩])
  (.cond (.t 45) (.exit 2)
  .skip))
  (.seq (.region 8 [⟨(some 48), .bin .eql 3 true true 0, [.t 42, .c (.int .i64 1)], none⟩, ⟨(some 47), .mov, [.t 48], none⟩])
  (.cond (.t 47) (.exit 3)
  .skip))))
  (.exit 4)))
  (.seq (.region 9 [⟨(some 49), .mov, [.t 6], none⟩, ⟨(some 50), .mov, [.t 49], none⟩, ⟨(some 51), .load (some 14), [.t 3], (some (50, false))⟩, ⟨(some 52), .faddr 4, [.t 3], (some (50, false))⟩, ⟨(some 53), .load none, [.t 52], (some (50, false))⟩, ⟨(some 54), .build [(.int .i64 0), (.int .i64 0), (.int .i64 0), (.int .i64 0), (.int .i64 0), (.int .i64 0), (.int .i64 0), (.int .i64 0), (.int .i64 0), (.int .i64 0), (.int .i64 0), (.int .i64 0), (.int .i64 0), (.int .i64 0)] [(4, 1)], [.t 53], (some (50, false))⟩, ⟨(some 55), .bin .neq 144 false true 0, [.t 51, .t 54], (some (50, false))⟩, ⟨(some 56), .pick, [.t 50, .c (.bool true), .t 55], none⟩, ⟨(some 6), .mov, [.t 56], none⟩])
  (.exit 0))))
  (.seq (.draw 10 [⟨(some 57), .mov, [.t 6], none⟩, ⟨(some 58), .mov, [.t 57], none⟩, ⟨(some 59), .faddr 2, [.t 3], (some (58, false))⟩, ⟨(some 60), .load none, [.t 59], (some (58, false))⟩, ⟨(some 61), .bin .rem 3 true true 0, [.t 60, .c (.int .i64 64)], (some (58, false))⟩, ⟨(some 62), .bin .neq 3 true true 0, [.t 61, .c (.int .i64 0)], (some (58, false))⟩, ⟨(some 63), .pick, [.t 58, .c (.bool true), .t 62], none⟩, ⟨(some 64), .mov, [.t 63], none⟩, ⟨(some 65), .faddr 3, [.t 3], (some (64, false))⟩, ⟨(some 66), .load none, [.t 65], (some (64, false))⟩, ⟨(some 67), .bin .lss 3 true true 0, [.t 66, .c (.int .i64 1)], (some (64, false))⟩, ⟨(some 68), .pick, [.t 64, .c (.bool true), .t 67], none⟩, ⟨(some 69), .mov, [.t 68], none⟩, ⟨(some 70), .faddr 3, [.t 3], (some (69, false))⟩, ⟨(some 71), .load none, [.t 70], (some (69, false))⟩, ⟨(some 72), .load (some 3), [.t 2], (some (69, false))⟩, ⟨(some 73), .pcall 179 p179, [.t 72], (some (69, false))⟩, ⟨(some 74), .bin .gtr 3 false true 0, [.t 71, .t 73], (some (69, false))⟩, ⟨(some 75), .pick, [.t 69, .c (.bool true), .t 74], none⟩, ⟨(some 6), .mov, [.t 75], none⟩] [([], []), ([], []), ([], []), ([], []), ([], []), ([], []), ([], []), ([], []), ([], []), ([], []), ([], []), ([], []), ([], []), ([15, 16], []), ([15, 16], []), ([13, 14], []), ([13, 14], []), ([], []), ([], []), ([], [])])
  (.region 11 [⟨(some 76), .faddr 3, [.t 3], none⟩, ⟨none, .store 1, [.t 76, .c (.int .i64 0)], none⟩]))))
  (.seq (.seq (.region 12 [⟨(some 77), .faddr 5, [.t 3], none⟩, ⟨(some 78), .load (some 8), [.t 77], none⟩, ⟨(some 7), .alloc none (.agg ⟨[(.int .i64 0), (.int .i64 0), (.int .i64 0), (.int .i64 0), (.int .i64 0), (.int .i64 0), (.int .i64 0), (.int .i64 0)]⟩), [], none⟩, ⟨none, .store 8, [.t 7, .t 78], none⟩])
  (.draw 13 [⟨(some 79), .mov, [.t 6], none⟩, ⟨(some 80), .mov, [.t 79], none⟩, ⟨(some 81), .faddr 3, [.t 3], (some (80, false))⟩, ⟨(some 82), .load none, [.t 81], (some (80, false))⟩, ⟨(some 83), .bin .neq 3 true true 0, [.t 82, .c (.int .i64 0)], (some (80, false))⟩, ⟨(some 84), .pick, [.t 80, .c (.bool true), .t 83], none⟩, ⟨(some 85), .mov, [.t 84], none⟩, ⟨(some 86), .load (some 3), [.t 2], (some (85, false))⟩, ⟨(some 87), .slA 8 1 false false false, [.t 7], (some (85, false))⟩, ⟨(some 88), .faddr 13, [.t 3], (some (85, false))⟩, ⟨(some 89), .load none, [.t 88], (some (85, false))⟩, ⟨(some 90), .bslice (some 90) 1 1 [(.int .i64 0)] [(0, 1)], [.t 89], (some (85, false))⟩, ⟨(some 91), .append 1 8, [.t 87, .t 90], (some (85, false))⟩, ⟨(some 92), .call 257 s257, [.t 86, .t 91], (some (85, false))⟩, ⟨(some 93), .un .not, [.t 92], (some (85, false))⟩, ⟨(some 94), .pick, [.t 85, .c (.bool true), .t 93], none⟩, ⟨(some 6), .mov, [.t 94], none⟩] [([], []), ([], []), ([], []), ([], []), ([], []), ([], []), ([], []), ([8, 9, 10, 11, 12], [13]), ([7, 9, 10, 11], []), ([7, 8], []), ([7, 8], []), ([7, 8], []), ([7], []), ([], []), ([], []), ([], []), ([], [])]))
  (.exit 0))))
  (.seq (.region 14 [⟨(some 6), .mov, [.c (.bool true)], none⟩])
  (.exit 0)))))
  (.seq (.seq (.region 15 [⟨(some 95), .mov, [.t 6], none⟩])
  (.cond (.t 95) (.seq (.region 16 [⟨(some 4), .mov, [.c (.int .i64 60)], none⟩])
  .ret)
  .skip))
  (.seq (.region 17 [⟨(some 4), .mov, [.c (.int .i64 0)], none⟩])
  .ret)))))), [.t 4]⟩
def h185 : Hints := ⟨[2, 3, 90], callsOf [(89, .pure p89), (179, .pure p179), (257, .spec s257)], [], [], []⟩
theorem hk185 : HOk prog h185 := hok_of ⟨gp89, gp179, g257, trivial⟩ trivial trivial trivial
theorem e185 : elabF prog h185 [] 185 = some c185 := by kernel_rfl
def s185 : Spec := fspec prog c185
theorem g185 : Good prog 185 s185 := good_fspec hk185 mixed e185
def t185 : List (List Value × Res) := [([(.agg ⟨[(.int .i64 1), (.int .i64 2), (.int .i64 3)]⟩), (.agg ⟨[(.int .i64 2), (.int .i64 1), (.int .i64 0), (.int .i64 1), (.int .i64 1), (.int .i64 0), (.int .i64 0), (.int .i64 0), (.int .i64 0), (.int .i64 0), (.int .i64 0), (.int .i64 0), (.int .i64 0), (.int .i64 0)]⟩)], (.ret (.int .i64 0)))]
def p185 : PSpec := tab t185
theorem k185 : tabOk s185 t185 = true := by kernel_rfl
theorem gp185 : GoodP prog 185 p185 := goodP_tab g185 k185

def c186 : AFn := ⟨3, (.seq (.region 0 [⟨(some 6), .alloc (some 6) (.agg ⟨[(.int .i64 0), (mkStr [])]⟩), [], none⟩])
  (.seq (.region 1 [⟨(some 10), .mov, [.t 0], none⟩, ⟨(some 11), .mov, [.t 1], none⟩, ⟨(some 12), .mov, [.t 2], none⟩, ⟨(some 13), .pcall 125 p125, [.t 10, .t 11, .t 12], none⟩, ⟨(some 9), .mov, [.t 13], none⟩, ⟨(some 14), .ext 0, [.t 9], none⟩, ⟨(some 15), .ext 1, [.t 9], none⟩, ⟨(some 7), .alloc (some 7) (.agg ⟨[(.int .i64 0), (mkStr [])]⟩), [], none⟩, ⟨none, .store 2, [.t 7, .t 14], none⟩, ⟨(some 8), .mov, [.t 15], none⟩])
  (.seq (.region 2 [⟨(some 16), .load (some 2), [.t 7], none⟩, ⟨none, .store 2, [.t 6, .t 16], none⟩])
  .ret))), [.cell 6 (some 2)]⟩
def h186 : Hints := ⟨[6, 7], callsOf [(125, .pure p125)], [], [], []⟩
theorem hk186 : HOk prog h186 := hok_of ⟨gp125, trivial⟩ trivial trivial trivial
theorem e186 : elabF prog h186 [] 186 = some c186 := by kernel_rfl
def s186 : Spec := fspec prog c186
theorem g186 : Good prog 186 s186 := good_fspec hk186 mixed e186
def t186 : List (List Value × Res) := [([(.int .i64 0), (.int .i64 1), (.int .i64 2)], (.ret (.agg ⟨[(.int .i64 0), (mkStr [2])]⟩))),
  ([(.int .i64 1), (.int .i64 1), (.int .i64 1)], (.ret (.agg ⟨[(.int .i64 1), (mkStr [1])]⟩))),
  ([(.int .i64 10), (.int .i64 2), (.int .i64 0)], (.ret (.agg ⟨[(.int .i64 10), (mkStr [0, 0])]⟩))),
  ([(.int .i64 12), (.int .i64 2), (.int .i64 0)], (.ret (.agg ⟨[(.int .i64 12), (mkStr [0, 0])]⟩))),
  ([(.int .i64 14), (.int .i64 2), (.int .i64 0)], (.ret (.agg ⟨[(.int .i64 14), (mkStr [0, 0])]⟩))),
  ([(.int .i64 16), (.int .i64 2), (.int .i64 0)], (.ret (.agg ⟨[(.int .i64 16), (mkStr [0, 0])]⟩))),
  ([(.int .i64 18), (.int .i64 2), (.int .i64 0)], (.ret (.agg ⟨[(.int .i64 18), (mkStr [0, 0])]⟩))),
  ([(.int .i64 2), (.int .i64 2), (.int .i64 0)], (.ret (.agg ⟨[(.int .i64 2), (mkStr [0, 0])]⟩))),
  ([(.int .i64 20), (.int .i64 2), (.int .i64 0)], (.ret (.agg ⟨[(.int .i64 20), (mkStr [0, 0])]⟩))),
  ([(.int .i64 22), (.int .i64 2), (.int .i64 0)], (.ret (.agg ⟨[(.int .i64 22), (mkStr [0, 0])]⟩))),
  ([(.int .i64 24), (.int .i64 2), (.int .i64 0)], (.ret (.agg ⟨[(.int .i64 24), (mkStr [0, 0])]⟩))),
  ([(.int .i64 4), (.int .i64 2), (.int .i64 1)], (.ret (.agg ⟨[(.int .i64 4), (mkStr [1, 0])]⟩))),
  ([(.int .i64 6), (.int .i64 2), (.int .i64 1)], (.ret (.agg ⟨[(.int .i64 6), (mkStr [1, 0])]⟩))),
  ([(.int .i64 8), (.int .i64 2), (.int .i64 0)], (.ret (.agg ⟨[(.int .i64 8), (mkStr [0, 0])]⟩)))]
def p186 : PSpec := tab t186
theorem k186 : tabOk s186 t186 = true := by kernel_rfl
theorem gp186 : GoodP prog 186 p186 := goodP_tab g186 k186

def c116 : AFn := ⟨2, (.seq (.region 0 [⟨(some 2), .box (some 2), [.t 0], none⟩, ⟨(some 3), .box (some 3), [.t 1], none⟩, ⟨(some 4), .mov, [.c (mkStr [])], none⟩, ⟨(some 5), .mov, [.c (.int .i64 0)], none⟩])
  (.seq (.seq (.region 1 [⟨(some 10), .load (some 3), [.t 2], none⟩, ⟨(some 11), .load (some 14), [.t 3], none⟩, ⟨(some 12), .pcall 185 p185, [.t 10, .t 11], none⟩, ⟨(some 6), .mov, [.t 12], none⟩])
  (.seq (.region 2 [⟨(some 13), .mov, [.t 6], none⟩, ⟨(some 14), .bin .neq 38 true true 0, [.t 13, .c (.int .i64 0)], none⟩])
  (.cond (.t 14) (.seq (.region 3 [⟨(some 15), .mov, [.t 6], none⟩, ⟨(some 4), .mov, [.c (mkStr [])], none⟩, ⟨(some 5), .mov, [.t 15], none⟩])
  .ret)
  .skip)))
  (.seq (.draw 4 [⟨(some 16), .faddr 0, [.t 3], none⟩, ⟨(some 17), .load none, [.t 16], none⟩, ⟨(some 18), .pcall 186 p186, [.c (.int .i64 0), .c (.int .i64 1), .t 17], none⟩, ⟨(some 19), .faddr 1, [.t 3], none⟩, ⟨(some 20), .load none, [.t 19], none⟩, ⟨(some 21), .pcall 186 p186, [.c (.int .i64 1), .c (.int .i64 1), .t 20], none⟩, ⟨(some 22), .faddr 2, [.t 3], none⟩, ⟨(some 23), .load none, [.t 22], none⟩, ⟨(some 24), .pcall 186 p186, [.c (.int .i64 2), .c (.int .i64 2), .t 23], none⟩, ⟨(some 25), .faddr 3, [.t 3], none⟩, ⟨(some 26), .load none, [.t 25], none⟩, ⟨(some 27), .pcall 186 p186, [.c (.int .i64 4), .c (.int .i64 2), .t 26], none⟩, ⟨(some 28), .faddr 4, [.t 3], none⟩, ⟨(some 29), .load none, [.t 28], none⟩, ⟨(some 30), .pcall 186 p186, [.c (.int .i64 6), .c (.int .i64 2), .t 29], none⟩, ⟨(some 31), .faddr 13, [.t 3], none⟩, ⟨(some 32), .load none, [.t 31], none⟩, ⟨(some 33), .pcall 186 p186, [.c (.int .i64 24), .c (.int .i64 2), .t 32], none⟩, ⟨(some 34), .bslice none 2 6 [(.int .i64 0), (mkStr []), (.int .i64 0), (mkStr []), (.int .i64 0), (mkStr []), (.int .i64 0), (mkStr []), (.int .i64 0), (mkStr []), (.int .i64 0), (mkStr [])] [(0, 2), (2, 2), (4, 2), (6, 2), (8, 2), (10, 2)], [.t 18, .t 21, .t 24, .t 27, .t 30, .t 33], none⟩, ⟨(some 7), .mov, [.t 34], none⟩] [([3, 4, 6, 7, 9, 10, 12, 13, 15, 16], []), ([3, 4, 6, 7, 9, 10, 12, 13, 15, 16], []), ([3, 4, 6, 7, 9, 10, 12, 13, 15, 16], []), ([0, 1, 2, 6, 7, 9, 10, 12, 13, 15, 16], []), ([0, 1, 2, 6, 7, 9, 10, 12, 13, 15, 16], []), ([6, 7, 9, 10, 12, 13, 15, 16], []), ([0, 1, 2, 3, 4, 5, 9, 10, 12, 13, 15, 16], []), ([0, 1, 2, 3, 4, 5, 9, 10, 12, 13, 15, 16], []), ([9, 10, 12, 13, 15, 16], []), ([0, 1, 2, 3, 4, 5, 6, 7, 8, 12, 13, 15, 16], []), ([0, 1, 2, 3, 4, 5, 6, 7, 8, 12, 13, 15, 16], []), ([12, 13, 15, 16], []), ([0, 1, 2, 3, 4, 5, 6, 7, 8, 9, 10, 11, 15, 16], []), ([0, 1, 2, 3, 4, 5, 6, 7, 8, 9, 10, 11, 15, 16], []), ([15, 16], []), ([0, 1, 2, 3, 4, 5, 6, 7, 8, 9, 10, 11, 12, 13, 14], []), ([0, 1, 2, 3, 4, 5, 6, 7, 8, 9, 10, 11, 12, 13, 14], []), ([], []), ([], []), ([], [])])
  (.seq (.seq (.region 5 [⟨(some 35), .faddr 5, [.t 3], none⟩, ⟨(some 36), .load (some 8), [.t 35], none⟩, ⟨(some 37), .mov, [.c (.int .i64 0)], none⟩])
  (.block 0 (.loop [7, 36, 37] [] (.seq (.region 6 [⟨(some 38), .bin .lss 3 true true 0, [.t 37, .c (.int .i64 8)], none⟩])
  (.seq (.cond (.t 38) .skip
  (.exit 0))
  (.seq (.block 1 (.seq (.region 7 [⟨(some 39), .mov, [.t 37], none⟩, ⟨(some 40), .idxA 8 1 none, [.t 36, .t 37], none⟩, ⟨(some 8), .mov, [.t 39], none⟩, ⟨(some 9), .mov, [.t 40], none⟩])
  (.region 8 [⟨(some 41), .mov, [.t 7], none⟩, ⟨(some 42), .mov, [.t 8], none⟩, ⟨(some 43), .bin .mul 3 true true 0, [.c (.int .i64 2), .t 42], none⟩, ⟨(some 44), .bin .add 3 true true 0, [.c (.int .i64 8), .t 43], none⟩, ⟨(some 45), .mov, [.t 9], none⟩, ⟨(some 46), .pcall 186 p186, [.t 44, .c (.int .i64 2), .t 45], none⟩, ⟨(some 47), .bslice (some 47) 2 1 [(.int .i64 0), (mkStr [])] [(0, 2)], [.t 46], none⟩, ⟨(some 48), .append 2 24, [.t 41, .t 47], none⟩, ⟨(some 7), .mov, [.t 48], none⟩])))
  (.region 9 [⟨(some 49), .bin .add 3 true true 0, [.t 37, .c (.int .i64 1)], none⟩, ⟨(some 37), .mov, [.t 49], none⟩])))))))
  (.seq (.region 10 [⟨(some 50), .pcall 57 p57, [], none⟩, ⟨(some 51), .mov, [.t 7], none⟩, ⟨(some 52), .call 182 s182, [.t 50, .t 51], none⟩, ⟨(some 53), .ext 0, [.t 52], none⟩, ⟨(some 54), .ext 1, [.t 52], none⟩, ⟨(some 4), .mov, [.t 53], none⟩, ⟨(some 5), .mov, [.t 54], none⟩])
  .ret))))), [.t 4, .t 5]⟩
def h116 : Hints := ⟨[2, 3, 47], callsOf [(57, .pure p57), (182, .spec s182), (185, .pure p185), (186, .pure p186)], [], [], []⟩
theorem hk116 : HOk prog h116 := hok_of ⟨gp57, g182, gp185, gp186, trivial⟩ trivial trivial trivial
theorem e116 : elabF prog h116 [([7, 36, 37], [])] 116 = some c116 := by kernel_rfl
def s116 : Spec := fspec prog c116
theorem g116 : Good prog 116 s116 := good_fspec hk116 mixed e116
def t116 : List (List Value × Res) := [([(.agg ⟨[(.int .i64 1), (.int .i64 2), (.int .i64 3)]⟩), (.agg ⟨[(.int .i64 2), (.int .i64 1), (.int .i64 0), (.int .i64 1), (.int .i64 1), (.int .i64 0), (.int .i64 0), (.int .i64 0), (.int .i64 0), (.int .i64 0), (.int .i64 0), (.int .i64 0), (.int .i64 0), (.int .i64 0)]⟩)], (.ret (.tuple ⟨[(mkStr [2, 1, 0, 0, 1, 0, 1, 0, 0, 0, 0, 0, 0, 0, 0, 0, 0, 0, 0, 0, 0, 0, 0, 0, 0, 0, 0, 0, 0, 0, 0, 0, 0, 0, 0, 0, 0, 0, 0, 0, 0, 0, 0, 0, 0, 0, 0, 0, 0, 0, 0, 0, 0, 0, 0, 0, 0, 0, 0, 0, 0, 0, 0, 0]), (.int .i64 0)]⟩)))]
def p116 : PSpec := tab t116
theorem k116 : tabOk s116 t116 = true := by kernel_rfl
theorem gp116 : GoodP prog 116 p116 := goodP_tab g116 k116

def c61 : AFn := ⟨1, (.seq (.region 0 [⟨(some 1), .box (some 1), [.t 0], none⟩, ⟨(some 2), .mov, [.c (.slice none 0 0)], none⟩, ⟨(some 3), .mov, [.c (.int .i64 0)], none⟩])
  (.seq (.seq (.region 1 [⟨(some 11), .load (some 3), [.t 1], none⟩, ⟨(some 12), .pcall 89 p89, [.t 11], none⟩, ⟨(some 4), .mov, [.t 12], none⟩])
  (.seq (.region 2 [⟨(some 13), .mov, [.t 4], none⟩, ⟨(some 14), .bin .neq 38 true true 0, [.t 13, .c (.int .i64 0)], none⟩])
  (.cond (.t 14) (.seq (.region 3 [⟨(some 15), .mov, [.t 4], none⟩, ⟨(some 2), .mov, [.c (.slice none 0 0)], none⟩, ⟨(some 3), .mov, [.t 15], none⟩])
  .ret)
  .skip)))
  (.seq (.region 4 [⟨(some 16), .load (some 3), [.t 1], none⟩, ⟨(some 17), .pcall 27 p27, [.t 16], none⟩, ⟨(some 18), .mkslice 1 16 [(mkStr [])], [.t 17, .t 17], none⟩, ⟨(some 5), .mov, [.t 18], none⟩])
  (.seq (.seq (.region 5 [⟨(some 19), .mov, [.t 5], none⟩, ⟨(some 20), .lenV, [.t 19], none⟩, ⟨(some 21), .mov, [.c (.int .i64 0)], none⟩])
  (.block 0 (.loop [1, 5, 20, 21] [1] (.seq (.region 6 [⟨(some 22), .bin .lss 3 false true 0, [.t 21, .t 20], none⟩])
  (.seq (.cond (.t 22) .skip
  (.exit 0))
  (.seq (.block 1 (.seq (.region 7 [⟨(some 23), .mov, [.t 21], none⟩, ⟨(some 6), .mov, [.t 23], none⟩])
  (.region 8 [⟨(some 24), .mov, [.t 5], none⟩, ⟨(some 25), .mov, [.t 6], none⟩, ⟨(some 26), .pcall 57 p57, [], none⟩, ⟨(some 27), .iaddrS 1, [.t 24, .t 25], none⟩, ⟨none, .store 1, [.t 27, .t 26], none⟩])))
  (.region 9 [⟨(some 28), .bin .add 3 true true 0, [.t 21, .c (.int .i64 1)], none⟩, ⟨(some 21), .mov, [.t 28], none⟩])))))))
  (.seq (.region 10 [⟨(some 30), .mov, [.t 5], none⟩, ⟨(some 31), .load (some 3), [.t 1], none⟩, ⟨(some 32), .pcall 111 p111, [.t 31], none⟩, ⟨(some 29), .mov, [.t 32], none⟩, ⟨(some 33), .ext 0, [.t 29], none⟩, ⟨(some 34), .ext 1, [.t 29], none⟩, ⟨(some 35), .iaddrS 1, [.t 30, .c (.int .i64 0)], none⟩, ⟨none, .store 1, [.t 35, .t 33], none⟩])
  (.seq (.region 11 [⟨(some 37), .mov, [.t 5], none⟩, ⟨(some 38), .build [(.int .i64 0), (.int .i64 0)] [], [], none⟩, ⟨(some 39), .pcall 58 p58, [.t 38], none⟩, ⟨(some 36), .mov, [.t 39], none⟩, ⟨(some 40), .ext 0, [.t 36], none⟩, ⟨(some 41), .ext 1, [.t 36], none⟩, ⟨(some 42), .iaddrS 1, [.t 37, .c (.int .i64 1)], none⟩, ⟨none, .store 1, [.t 42, .t 40], none⟩])
  (.seq (.draw 12 [⟨(some 44), .load (some 3), [.t 1], none⟩, ⟨(some 45), .load (some 3), [.t 1], none⟩, ⟨(some 46), .pcall 109 p109, [.t 45], none⟩, ⟨(some 47), .mkslice 2 16 [(.int .i64 0), (.int .i64 0)], [.t 46, .t 46], none⟩, ⟨(some 48), .call 112 s112, [.t 44, .t 47], none⟩, ⟨(some 43), .mov, [.t 48], none⟩, ⟨(some 49), .ext 0, [.t 43], none⟩, ⟨(some 50), .ext 1, [.t 43], none⟩, ⟨(some 7), .mov, [.t 49], none⟩, ⟨(some 8), .mov, [.t 50], none⟩] [([1, 2, 3], [4]), ([0], []), ([0], []), ([0], []), ([], []), ([], []), ([7], []), ([6, 8], []), ([7], []), ([], [])])
  (.seq (.region 13 [⟨(some 51), .mov, [.t 5], none⟩, ⟨(some 52), .slV 1 true false false, [.t 51, .c (.int .i64 2)], none⟩, ⟨(some 53), .mov, [.t 7], none⟩, ⟨(some 54), .copy 1, [.t 52, .t 53], none⟩])
  (.seq (.region 14 [⟨(some 56), .load (some 3), [.t 1], none⟩, ⟨(some 57), .pcall 113 p113, [.t 56, .c (.int .i64 0), .c (.bool false)], none⟩, ⟨(some 55), .mov, [.t 57], none⟩, ⟨(some 58), .ext 0, [.t 55], none⟩, ⟨(some 59), .ext 1, [.t 55], none⟩, ⟨(some 9), .mov, [.t 58], none⟩, ⟨(some 10), .mov, [.t 59], none⟩])
  (.seq (.region 15 [⟨(some 61), .mov, [.t 5], none⟩, ⟨(some 62), .mov, [.t 9], none⟩, ⟨(some 63), .faddr 1, [.t 1], none⟩, ⟨(some 64), .load none, [.t 63], none⟩, ⟨(some 65), .bslice none 1 1 [(.int .i64 0)] [(0, 1)], [.c (.int .i64 0)], none⟩, ⟨(some 66), .call 114 s114, [.t 64, .t 65], none⟩, ⟨(some 60), .mov, [.t 66], none⟩, ⟨(some 67), .ext 0, [.t 60], none⟩, ⟨(some 68), .ext 1, [.t 60], none⟩, ⟨(some 69), .iaddrS 1, [.t 61, .t 62], none⟩, ⟨none, .store 1, [.t 69, .t 67], none⟩])
  (.seq (.region 16 [⟨(some 71), .load (some 3), [.t 1], none⟩, ⟨(some 72), .pcall 115 p115, [.t 71, .c (.int .i64 1)], none⟩, ⟨(some 70), .mov, [.t 72], none⟩, ⟨(some 73), .ext 0, [.t 70], none⟩, ⟨(some 74), .ext 1, [.t 70], none⟩, ⟨(some 75), .ext 2, [.t 70], none⟩, ⟨(some 76), .ext 3, [.t 70], none⟩, ⟨(some 9), .mov, [.t 73], none⟩])
  (.seq (.region 17 [⟨(some 78), .mov, [.t 5], none⟩, ⟨(some 79), .mov, [.t 9], none⟩, ⟨(some 80), .load (some 3), [.t 1], none⟩, ⟨(some 81), .build [(.int .i64 0), (.int .i64 0), (.int .i64 0), (.int .i64 0), (.int .i64 0), (.int .i64 0), (.int .i64 0), (.int .i64 0), (.int .i64 0), (.int .i64 0), (.int .i64 0), (.int .i64 0), (.int .i64 0), (.int .i64 0)] [(0, 1), (1, 1), (3, 1), (4, 1)], [.c (.int .i64 2), .c (.int .i64 1), .c (.int .i64 1), .c (.int .i64 1)], none⟩, ⟨(some 82), .pcall 116 p116, [.t 80, .t 81], none⟩, ⟨(some 77), .mov, [.t 82], none⟩, ⟨(some 83), .ext 0, [.t 77], none⟩, ⟨(some 84), .ext 1, [.t 77], none⟩, ⟨(some 85), .iaddrS 1, [.t 78, .t 79], none⟩, ⟨none, .store 1, [.t 85, .t 83], none⟩])
  (.seq (.region 18 [⟨(some 86), .mov, [.t 5], none⟩, ⟨(some 2), .mov, [.t 86], none⟩, ⟨(some 3), .mov, [.c (.int .i64 0)], none⟩])
  .ret))))))))))))), [.t 2, .t 3]⟩
def h61 : Hints := ⟨[1], callsOf [(27, .pure p27), (57, .pure p57), (58, .pure p58), (89, .pure p89), (109, .pure p109), (111, .pure p111), (112, .spec s112), (113, .pure p113), (114, .spec s114), (115, .pure p115), (116, .pure p116)], [], [], []⟩
theorem hk61 : HOk prog h61 := hok_of ⟨gp27, gp57, gp58, gp89, gp109, gp111, g112, gp113, g114, gp115, gp116, trivial⟩ trivial trivial trivial
theorem e61 : elabF prog h61 [([1, 5, 20, 21], [1])] 61 = some c61 := by kernel_rfl
def s61 : Spec := fspec prog c61
theorem g61 : Good prog 61 s61 := good_fspec hk61 mixed e61
end
end CwT
