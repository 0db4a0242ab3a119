/-
  The functions that the closed run comes to: their code for the evaluator, and that it is theirs.
-/
import Derived.Test.YtmmlgodbknhijaaGreatDoorCwGD
namespace CwT
open Go Cw
set_option maxRecDepth 100000
noncomputable section
def c85 : AFn := ⟨1, (.seq (.region 0 [⟨(some 3), .mov, [.t 0], none⟩, ⟨(some 4), .lenV, [.t 3], none⟩, ⟨(some 2), .mov, [.t 4], none⟩])
  (.region 1 [⟨(some 5), .mov, [.t 0], none⟩, ⟨(some 6), .mov, [.t 2], none⟩, ⟨(some 7), .mov, [.t 2], none⟩, ⟨(some 8), .convI .u64, [.t 7], none⟩, ⟨(some 9), .pcall 82 p82, [.t 8], none⟩, ⟨(some 10), .call 158 s158, [.t 5, .c (.int .i64 0), .t 6, .t 9], none⟩])), []⟩
def h85 : Hints := ⟨[], callsOf [(82, .pure p82), (158, .spec s158)], [], [], []⟩
theorem hk85 : HOk prog h85 := hok_of ⟨gp82, g158, trivial⟩ trivial trivial trivial
theorem e85 : elabF prog h85 [] 85 = some c85 := by kernel_rfl
def s85 : Spec := fspec prog c85
theorem g85 : Good prog 85 s85 := good_fspec hk85 mixed e85

def c86 : AFn := ⟨1, (.seq (.region 0 [⟨(some 2), .mov, [.c (.slice none 0 0)], none⟩])
  (.seq (.seq (.region 1 [⟨(some 6), .mov, [.t 0], none⟩, ⟨(some 7), .lenV, [.t 6], none⟩, ⟨(some 8), .bin .lss 3 true true 0, [.t 7, .c (.int .i64 2)], none⟩])
  (.cond (.t 8) (.seq (.region 2 [⟨(some 9), .mov, [.t 0], none⟩, ⟨(some 2), .mov, [.t 9], none⟩])
  .ret)
  .skip))
  (.seq (.seq (.region 3 [⟨(some 3), .mov, [.c (.int .i64 1)], none⟩])
  (.block 0 (.loop [0, 3] [] (.seq (.seq (.region 4 [⟨(some 10), .mov, [.t 3], none⟩, ⟨(some 11), .mov, [.t 0], none⟩, ⟨(some 12), .lenV, [.t 11], none⟩, ⟨(some 13), .bin .lss 3 false true 0, [.t 10, .t 12], none⟩])
  (.cond (.t 13) .skip
  (.exit 0)))
  (.seq (.block 1 (.seq (.draw 6 [⟨(some 16), .mov, [.t 0], none⟩, ⟨(some 17), .mov, [.t 3], none⟩, ⟨(some 18), .iaddrS 1, [.t 16, .t 17], none⟩, ⟨(some 19), .load none, [.t 18], none⟩, ⟨(some 20), .mov, [.t 0], none⟩, ⟨(some 21), .mov, [.t 3], none⟩, ⟨(some 22), .bin .sub 3 true true 0, [.t 21, .c (.int .i64 1)], none⟩, ⟨(some 23), .iaddrS 1, [.t 20, .t 22], none⟩, ⟨(some 24), .load none, [.t 23], none⟩, ⟨(some 25), .bin .eql 3 false true 0, [.t 19, .t 24], none⟩] [([1, 4, 5, 6, 7, 8], []), ([0, 4, 5, 6, 7, 8], []), ([4, 5, 6, 7, 8], []), ([4, 5, 6, 7, 8], []), ([0, 1, 2, 3, 5, 6], []), ([0, 1, 2, 3, 4], []), ([0, 1, 2, 3, 4], []), ([0, 1, 2, 3], []), ([0, 1, 2, 3], []), ([], [])])
  (.cond (.t 25) (.seq (.region 7 [⟨(some 26), .mov, [.t 0], none⟩, ⟨(some 27), .mov, [.t 3], none⟩, ⟨(some 28), .slV 1 true false false, [.t 26, .t 27], none⟩, ⟨(some 4), .mov, [.t 28], none⟩])
  (.seq (.seq (.region 8 [⟨(some 5), .mov, [.c (.int .i64 1)], none⟩])
  (.block 2 (.loop [0, 3, 4, 5] [] (.seq (.seq (.region 9 [⟨(some 29), .mov, [.t 5], none⟩, ⟨(some 30), .mov, [.t 4], none⟩, ⟨(some 31), .lenV, [.t 30], none⟩, ⟨(some 32), .bin .lss 3 false true 0, [.t 29, .t 31], none⟩])
  (.cond (.t 32) .skip
  (.exit 2)))
  (.seq (.block 3 (.seq (.draw 11 [⟨(some 35), .mov, [.t 4], none⟩, ⟨(some 36), .mov, [.t 5], none⟩, ⟨(some 37), .iaddrS 1, [.t 35, .t 36], none⟩, ⟨(some 38), .load none, [.t 37], none⟩, ⟨(some 39), .mov, [.t 4], none⟩, ⟨(some 40), .mov, [.t 5], none⟩, ⟨(some 41), .bin .sub 3 true true 0, [.t 40, .c (.int .i64 1)], none⟩, ⟨(some 42), .iaddrS 1, [.t 39, .t 41], none⟩, ⟨(some 43), .load none, [.t 42], none⟩, ⟨(some 44), .bin .neq 3 false true 0, [.t 38, .t 43], none⟩] [([1, 4, 5, 6, 7, 8], []), ([0, 4, 5, 6, 7, 8], []), ([4, 5, 6, 7, 8], []), ([4, 5, 6, 7, 8], []), ([0, 1, 2, 3, 5, 6], []), ([0, 1, 2, 3, 4], []), ([0, 1, 2, 3, 4], []), ([0, 1, 2, 3], []), ([0, 1, 2, 3], []), ([], [])])
  (.cond (.t 44) (.seq (.region 12 [⟨(some 45), .mov, [.t 0], none⟩, ⟨(some 46), .mov, [.t 3], none⟩, ⟨(some 47), .mov, [.t 4], none⟩, ⟨(some 48), .mov, [.t 5], none⟩, ⟨(some 49), .iaddrS 1, [.t 47, .t 48], none⟩, ⟨(some 50), .load none, [.t 49], none⟩, ⟨(some 51), .iaddrS 1, [.t 45, .t 46], none⟩, ⟨none, .store 1, [.t 51, .t 50], none⟩])
  (.region 13 [⟨(some 52), .mov, [.t 3], none⟩, ⟨(some 53), .bin .add 3 true true 0, [.t 52, .c (.int .i64 1)], none⟩, ⟨(some 3), .mov, [.t 53], none⟩]))
  .skip)))
  (.region 10 [⟨(some 33), .mov, [.t 5], none⟩, ⟨(some 34), .bin .add 3 true true 0, [.t 33, .c (.int .i64 1)], none⟩, ⟨(some 5), .mov, [.t 34], none⟩]))))))
  (.seq (.region 14 [⟨(some 54), .mov, [.t 0], none⟩, ⟨(some 55), .mov, [.t 3], none⟩, ⟨(some 56), .slV 1 true false false, [.t 54, .t 55], none⟩, ⟨none, .clearV [(.int .i64 0)], [.t 56], none⟩])
  (.seq (.region 15 [⟨(some 57), .mov, [.t 0], none⟩, ⟨(some 58), .mov, [.t 3], none⟩, ⟨(some 59), .slV 1 false true false, [.t 57, .t 58], none⟩, ⟨(some 2), .mov, [.t 59], none⟩])
  .ret))))
  .skip)))
  (.region 5 [⟨(some 14), .mov, [.t 3], none⟩, ⟨(some 15), .bin .add 3 true true 0, [.t 14, .c (.int .i64 1)], none⟩, ⟨(some 3), .mov, [.t 15], none⟩]))))))
  (.seq (.region 16 [⟨(some 60), .mov, [.t 0], none⟩, ⟨(some 2), .mov, [.t 60], none⟩])
  .ret)))), [.t 2]⟩
def h86 : Hints := ⟨[], callsOf [], [], [], []⟩
theorem hk86 : HOk prog h86 := hok_of trivial trivial trivial trivial
theorem e86 : elabF prog h86 [([0, 3], []), ([0, 3, 4, 5], [])] 86 = some c86 := by kernel_rfl
def s86 : Spec := fspec prog c86
theorem g86 : Good prog 86 s86 := good_fspec hk86 mixed e86

def c83 : AFn := ⟨2, (.seq (.region 0 [⟨(some 4), .mov, [.c (.int .i64 0)], none⟩])
  (.seq (.seq (.region 1 [⟨(some 6), .mov, [.t 0], none⟩, ⟨(some 7), .lenV, [.t 6], none⟩, ⟨(some 8), .mov, [.c (.int .i64 0)], none⟩])
  (.block 0 (.loop [0, 1, 7, 8] [] (.seq (.region 2 [⟨(some 9), .bin .lss 3 false true 0, [.t 8, .t 7], none⟩])
  (.seq (.cond (.t 9) .skip
  (.exit 0))
  (.seq (.block 1 (.seq (.region 3 [⟨(some 10), .mov, [.t 8], none⟩, ⟨(some 5), .mov, [.t 10], none⟩])
  (.seq (.region 4 [⟨(some 11), .mov, [.t 1], none⟩, ⟨(some 12), .mov, [.t 0], none⟩, ⟨(some 13), .mov, [.t 5], none⟩, ⟨(some 14), .iaddrS 1, [.t 12, .t 13], none⟩, ⟨(some 15), .load none, [.t 14], none⟩, ⟨(some 16), .bin .eql 3 false true 0, [.t 11, .t 15], none⟩])
  (.cond (.t 16) (.seq (.region 5 [⟨(some 17), .mov, [.t 5], none⟩, ⟨(some 4), .mov, [.t 17], none⟩])
  .ret)
  .skip))))
  (.region 6 [⟨(some 18), .bin .add 3 true true 0, [.t 8, .c (.int .i64 1)], none⟩, ⟨(some 8), .mov, [.t 18], none⟩])))))))
  (.seq (.region 7 [⟨(some 4), .mov, [.c (.int .i64 (-1))], none⟩])
  .ret))), [.t 4]⟩
def h83 : Hints := ⟨[], callsOf [], [], [], []⟩
theorem hk83 : HOk prog h83 := hok_of trivial trivial trivial trivial
theorem e83 : elabF prog h83 [([0, 1, 7, 8], [])] 83 = some c83 := by kernel_rfl
def s83 : Spec := fspec prog c83
theorem g83 : Good prog 83 s83 := good_fspec hk83 mixed e83

def c44 : AFn := ⟨2, (.seq (.region 0 [⟨(some 4), .mov, [.c (.bool false)], none⟩])
  (.seq (.region 1 [⟨(some 5), .mov, [.t 0], none⟩, ⟨(some 6), .mov, [.t 1], none⟩, ⟨(some 7), .call 83 s83, [.t 5, .t 6], none⟩, ⟨(some 8), .bin .geq 3 true true 0, [.t 7, .c (.int .i64 0)], none⟩, ⟨(some 4), .mov, [.t 8], none⟩])
  .ret)), [.t 4]⟩
def h44 : Hints := ⟨[], callsOf [(83, .spec s83)], [], [], []⟩
theorem hk44 : HOk prog h44 := hok_of ⟨g83, trivial⟩ trivial trivial trivial
theorem e44 : elabF prog h44 [] 44 = some c44 := by kernel_rfl
def s44 : Spec := fspec prog c44
theorem g44 : Good prog 44 s44 := good_fspec hk44 mixed e44

def c46 : AFn := ⟨2, (.seq (.region 0 [⟨(some 4), .mov, [.c (.slice none 0 0)], none⟩, ⟨(some 5), .mov, [.c (.int .i64 0)], none⟩])
  (.scope (.seq (.region 1 [⟨(some 9), .mov, [.t 0], none⟩, ⟨(some 10), .call 84 s84, [.t 9], none⟩, ⟨(some 6), .mov, [.t 10], none⟩])
  (.seq (.region 2 [⟨(some 11), .mov, [.t 6], none⟩, ⟨(some 12), .call 85 s85, [.t 11], none⟩])
  (.seq (.region 3 [⟨(some 5), .mov, [.c (.int .i64 (-1))], none⟩])
  (.seq (.label 0)
  (.seq (.seq (.region 4 [⟨(some 13), .mov, [.t 6], none⟩, ⟨(some 14), .call 86 s86, [.t 13], none⟩, ⟨(some 15), .lenV, [.t 14], none⟩, ⟨(some 16), .mov, [.c (.int .i64 0)], none⟩])
  (.block 0 (.loop [1, 4, 5, 14, 15, 16] [] (.seq (.region 5 [⟨(some 17), .bin .lss 3 false true 0, [.t 16, .t 15], none⟩])
  (.seq (.cond (.t 17) .skip
  (.exit 0))
  (.seq (.block 1 (.seq (.region 6 [⟨(some 18), .iaddrS 1, [.t 14, .t 16], none⟩, ⟨(some 19), .load none, [.t 18], none⟩, ⟨(some 8), .mov, [.t 19], none⟩])
  (.seq (.seq (.region 7 [⟨(some 20), .mov, [.t 1], none⟩, ⟨(some 21), .mov, [.t 8], none⟩, ⟨(some 22), .call 44 s44, [.t 20, .t 21], none⟩, ⟨(some 23), .un .not, [.t 22], none⟩])
  (.cond (.t 23) (.seq (.region 8 [⟨(some 24), .mov, [.t 8], none⟩, ⟨(some 5), .mov, [.t 24], none⟩])
  (.exit 0))
  .skip))
  (.region 9 [⟨(some 25), .mov, [.t 4], none⟩, ⟨(some 26), .mov, [.t 8], none⟩, ⟨(some 27), .bslice (some 27) 1 1 [(.int .i64 0)] [(0, 1)], [.t 26], none⟩, ⟨(some 28), .append 1 8, [.t 25, .t 27], none⟩, ⟨(some 4), .mov, [.t 28], none⟩]))))
  (.region 10 [⟨(some 29), .bin .add 3 true true 0, [.t 16, .c (.int .i64 1)], none⟩, ⟨(some 16), .mov, [.t 29], none⟩])))))))
  (.seq (.region 11 [⟨(some 30), .mov, [.t 4], none⟩, ⟨(some 31), .mov, [.t 5], none⟩, ⟨(some 4), .mov, [.t 30], none⟩, ⟨(some 5), .mov, [.t 31], none⟩])
  .ret)))))))), [.t 4, .t 5]⟩
def h46 : Hints := ⟨[27], callsOf [(44, .spec s44), (84, .spec s84), (85, .spec s85), (86, .spec s86)], [], [], []⟩
theorem hk46 : HOk prog h46 := hok_of ⟨g44, g84, g85, g86, trivial⟩ trivial trivial trivial
theorem e46 : elabF prog h46 [([1, 4, 5, 14, 15, 16], [])] 46 = some c46 := by kernel_rfl
def s46 : Spec := fspec prog c46
theorem g46 : Good prog 46 s46 := good_fspec hk46 mixed e46

def c88 : AFn := ⟨1, (.seq (.region 0 [⟨(some 2), .mov, [.c .nilIface], none⟩])
  (.seq (.seq (.region 1 [⟨(some 3), .mov, [.t 0], none⟩, ⟨(some 4), .bin .eql 38 true true 0, [.t 3, .c (.int .i64 0)], none⟩])
  (.cond (.t 4) (.seq (.region 2 [⟨(some 2), .mov, [.c .nilIface], none⟩])
  .ret)
  .skip))
  (.seq (.region 3 [⟨(some 5), .mov, [.t 0], none⟩, ⟨(some 6), .mkif 38, [.t 5], none⟩, ⟨(some 2), .mov, [.t 6], none⟩])
  .ret))), [.t 2]⟩
def h88 : Hints := ⟨[], callsOf [], [], [], []⟩
theorem hk88 : HOk prog h88 := hok_of trivial trivial trivial trivial
theorem e88 : elabF prog h88 [] 88 = some c88 := by kernel_rfl
def s88 : Spec := fspec prog c88
theorem g88 : Good prog 88 s88 := good_fspec hk88 mixed e88
def t88 : List (List Value × Res) := [([(.int .i64 230)], (.ret (.iface 38 (.int .i64 230)))),
  ([(.int .i64 5)], (.ret (.iface 38 (.int .i64 5))))]
def p88 : PSpec := tab t88
theorem k88 : tabOk s88 t88 = true := by kernel_rfl
theorem gp88 : GoodP prog 88 p88 := goodP_tab g88 k88

def c159 : AFn := ⟨1, (.seq (.region 0 [⟨(some 2), .mov, [.c (.slice none 0 0)], none⟩])
  (.seq (.region 1 [⟨(some 3), .mov, [.c (.slice none 0 0)], none⟩])
  (.seq (.region 2 [⟨(some 4), .alloc none (.pointer none), [], none⟩])
  (.seq (.block 0 (.loop [0, 3, 4] [] (.seq (.seq (.region 3 [⟨(some 5), .mov, [.t 0], none⟩, ⟨(some 6), .mkif 332, [.t 4], none⟩, ⟨(some 7), .call 55 s55, [.t 5, .t 6], none⟩])
  (.cond (.t 7) .skip
  (.exit 0)))
  (.block 1 (.seq (.draw 4 [⟨(some 8), .mov, [.t 3], none⟩, ⟨(some 9), .load none, [.t 4], none⟩, ⟨(some 10), .nilc, [.t 9], none⟩, ⟨(some 11), .faddr 0, [.t 10], none⟩, ⟨(some 12), .load none, [.t 11], none⟩, ⟨(some 13), .load none, [.t 4], none⟩, ⟨(some 14), .nilc, [.t 13], none⟩, ⟨(some 15), .faddr 1, [.t 14], none⟩, ⟨(some 16), .load none, [.t 15], none⟩, ⟨(some 17), .build [(mkStr []), (.int .i64 0)] [(0, 1), (1, 1)], [.t 12, .t 16], none⟩, ⟨(some 18), .bslice (some 18) 2 1 [(mkStr []), (.int .i64 0)] [(0, 2)], [.t 17], none⟩, ⟨(some 19), .append 2 24, [.t 8, .t 18], none⟩, ⟨(some 3), .mov, [.t 19], none⟩] [([1, 2, 3, 4, 5, 6, 7, 8, 9, 10], []), ([0, 5, 6, 7, 8], []), ([0, 5, 6, 7, 8], []), ([0, 5, 6, 7, 8], []), ([0, 5, 6, 7, 8], []), ([0, 1, 2, 3, 4], []), ([0, 1, 2, 3, 4], []), ([0, 1, 2, 3, 4], []), ([0, 1, 2, 3, 4], []), ([0], []), ([0], []), ([], []), ([], [])])
  (.region 5 [⟨(some 20), .load none, [.t 4], none⟩, ⟨(some 21), .nilc, [.t 20], none⟩, ⟨(some 22), .faddr 2, [.t 21], none⟩, ⟨(some 23), .load none, [.t 22], none⟩, ⟨(some 0), .mov, [.t 23], none⟩]))))))
  (.seq (.region 6 [⟨(some 24), .mov, [.t 3], none⟩, ⟨(some 2), .mov, [.t 24], none⟩])
  .ret))))), [.t 2]⟩
def h159 : Hints := ⟨[18], callsOf [(55, .spec s55)], [], [], []⟩
theorem hk159 : HOk prog h159 := hok_of ⟨g55, trivial⟩ trivial trivial trivial
theorem e159 : elabF prog h159 [([0, 3, 4], [])] 159 = some c159 := by kernel_rfl
def s159 : Spec := fspec prog c159
theorem g159 : Good prog 159 s159 := good_fspec hk159 mixed e159

def c87 : AFn := ⟨3, (.seq (.region 0 [⟨(some 6), .mov, [.c .nilIface], none⟩])
  (.seq (.seq (.region 1 [⟨(some 7), .mov, [.t 2], none⟩, ⟨(some 8), .bin .eql 62 true false 4, [.t 7, .c .nilIface], none⟩, ⟨(some 9), .mov, [.t 8], none⟩, ⟨(some 10), .mov, [.t 2], (some (9, false))⟩, ⟨(some 11), .call 159 s159, [.t 10], (some (9, false))⟩, ⟨(some 12), .lenV, [.t 11], (some (9, false))⟩, ⟨(some 13), .bin .geq 3 true true 0, [.t 12, .c (.int .i64 16)], (some (9, false))⟩, ⟨(some 14), .pick, [.t 9, .c (.bool true), .t 13], none⟩])
  (.cond (.t 14) (.seq (.region 2 [⟨(some 15), .mov, [.t 2], none⟩, ⟨(some 6), .mov, [.t 15], none⟩])
  .ret)
  .skip))
  (.seq (.region 3 [⟨(some 16), .mov, [.t 0], none⟩, ⟨(some 17), .mov, [.t 1], none⟩, ⟨(some 18), .mov, [.t 2], none⟩, ⟨(some 19), .build [(mkStr []), (.int .i64 0), .nilIface] [(0, 1), (1, 1), (2, 1)], [.t 16, .t 17, .t 18], none⟩, ⟨(some 20), .box none, [.t 19], none⟩, ⟨(some 21), .mkif 257, [.t 20], none⟩, ⟨(some 6), .mov, [.t 21], none⟩])
  .ret))), [.t 6]⟩
def h87 : Hints := ⟨[], callsOf [(159, .spec s159)], [], [], []⟩
theorem hk87 : HOk prog h87 := hok_of ⟨g159, trivial⟩ trivial trivial trivial
theorem e87 : elabF prog h87 [] 87 = some c87 := by kernel_rfl
def s87 : Spec := fspec prog c87
theorem g87 : Good prog 87 s87 := good_fspec hk87 mixed e87

def c226 : AFn := ⟨1, (.seq (.region 0 [⟨(some 2), .mov, [.c (.slice none 0 0)], none⟩])
  (.seq (.seq (.region 1 [⟨(some 3), .mov, [.t 0], none⟩, ⟨(some 4), .bin .eql 105 true true 2, [.t 3, .c (.slice none 0 0)], none⟩])
  (.cond (.t 4) (.seq (.region 2 [⟨(some 2), .mov, [.c (.slice none 0 0)], none⟩])
  .ret)
  .skip))
  (.seq (.region 3 [⟨(some 5), .bslice none 6 0 [] [], [], none⟩, ⟨(some 6), .mov, [.t 0], none⟩, ⟨(some 7), .append 6 72, [.t 5, .t 6], none⟩, ⟨(some 2), .mov, [.t 7], none⟩])
  .ret))), [.t 2]⟩
def h226 : Hints := ⟨[], callsOf [], [], [], []⟩
theorem hk226 : HOk prog h226 := hok_of trivial trivial trivial trivial
theorem e226 : elabF prog h226 [] 226 = some c226 := by kernel_rfl
def s226 : Spec := fspec prog c226
theorem g226 : Good prog 226 s226 := good_fspec hk226 mixed e226
def t226 : List (List Value × Res) := [([(.slice none 0 0)], (.ret (.slice none 0 0)))]
def p226 : PSpec := tab t226
theorem k226 : tabOk s226 t226 = true := by kernel_rfl
theorem gp226 : GoodP prog 226 p226 := goodP_tab g226 k226

def c160 : AFn := ⟨1, (.seq (.region 0 [⟨(some 2), .mov, [.c (.pointer none)], none⟩])
  (.seq (.draw 1 [⟨(some 3), .mov, [.t 0], none⟩, ⟨(some 4), .nilc, [.t 3], none⟩, ⟨(some 5), .faddr 0, [.t 4], none⟩, ⟨(some 6), .load none, [.t 5], none⟩, ⟨(some 7), .pcall 226 p226, [.t 6], none⟩, ⟨(some 8), .mov, [.t 0], none⟩, ⟨(some 9), .nilc, [.t 8], none⟩, ⟨(some 10), .faddr 1, [.t 9], none⟩, ⟨(some 11), .load none, [.t 10], none⟩, ⟨(some 12), .build [(.slice none 0 0), (.int .i64 0)] [(0, 1), (1, 1)], [.t 7, .t 11], none⟩, ⟨(some 13), .box none, [.t 12], none⟩, ⟨(some 2), .mov, [.t 13], none⟩] [([5, 6, 7, 8], []), ([5, 6, 7, 8], []), ([5, 6, 7, 8], []), ([5, 6, 7, 8], []), ([5, 6, 7, 8], []), ([0, 1, 2, 3, 4], []), ([0, 1, 2, 3, 4], []), ([0, 1, 2, 3, 4], []), ([0, 1, 2, 3, 4], []), ([], []), ([], []), ([], [])])
  .ret)), [.t 2]⟩
def h160 : Hints := ⟨[], callsOf [(226, .pure p226)], [], [], []⟩
theorem hk160 : HOk prog h160 := hok_of ⟨gp226, trivial⟩ trivial trivial trivial
theorem e160 : elabF prog h160 [] 160 = some c160 := by kernel_rfl
def s160 : Spec := fspec prog c160
theorem g160 : Good prog 160 s160 := good_fspec hk160 mixed e160

def c90 : AFn := ⟨1, (.seq (.region 0 [⟨(some 2), .mov, [.c (.pointer none)], none⟩])
  (.seq (.draw 1 [⟨(some 3), .mov, [.t 0], none⟩, ⟨(some 4), .nilc, [.t 3], none⟩, ⟨(some 5), .faddr 0, [.t 4], none⟩, ⟨(some 6), .load none, [.t 5], none⟩, ⟨(some 7), .call 160 s160, [.t 6], none⟩, ⟨(some 8), .mov, [.t 0], none⟩, ⟨(some 9), .nilc, [.t 8], none⟩, ⟨(some 10), .faddr 1, [.t 9], none⟩, ⟨(some 11), .load none, [.t 10], none⟩, ⟨(some 12), .mov, [.t 0], none⟩, ⟨(some 13), .nilc, [.t 12], none⟩, ⟨(some 14), .faddr 2, [.t 13], none⟩, ⟨(some 15), .load none, [.t 14], none⟩, ⟨(some 16), .mov, [.t 0], none⟩, ⟨(some 17), .nilc, [.t 16], none⟩, ⟨(some 18), .faddr 3, [.t 17], none⟩, ⟨(some 19), .load none, [.t 18], none⟩, ⟨(some 20), .mov, [.t 0], none⟩, ⟨(some 21), .nilc, [.t 20], none⟩, ⟨(some 22), .faddr 4, [.t 21], none⟩, ⟨(some 23), .load none, [.t 22], none⟩, ⟨(some 24), .call 161 s161, [.t 23], none⟩, ⟨(some 25), .build [(.pointer none), (.pointer none), (.int .i64 0), (.int .i64 0), (.map none)] [(0, 1), (1, 1), (2, 1), (3, 1), (4, 1)], [.t 7, .t 11, .t 15, .t 19, .t 24], none⟩, ⟨(some 26), .box none, [.t 25], none⟩, ⟨(some 2), .mov, [.t 26], none⟩] [([5, 6, 7, 8, 9, 10, 11, 12, 13, 14, 15, 16, 17, 18, 19, 20], []), ([5, 6, 7, 8, 9, 10, 11, 12, 13, 14, 15, 16, 17, 18, 19, 20], []), ([5, 6, 7, 8, 9, 10, 11, 12, 13, 14, 15, 16, 17, 18, 19, 20], []), ([5, 6, 7, 8, 9, 10, 11, 12, 13, 14, 15, 16, 17, 18, 19, 20], []), ([5, 6, 7, 8, 9, 10, 11, 12, 13, 14, 15, 16, 17, 18, 19, 20], []), ([0, 1, 2, 3, 4, 9, 10, 11, 12, 13, 14, 15, 16, 17, 18, 19, 20, 21], []), ([0, 1, 2, 3, 4, 9, 10, 11, 12, 13, 14, 15, 16, 17, 18, 19, 20, 21], []), ([0, 1, 2, 3, 4, 9, 10, 11, 12, 13, 14, 15, 16, 17, 18, 19, 20, 21], []), ([0, 1, 2, 3, 4, 9, 10, 11, 12, 13, 14, 15, 16, 17, 18, 19, 20, 21], [4, 22]), ([0, 1, 2, 3, 4, 5, 6, 7, 8, 13, 14, 15, 16, 17, 18, 19, 20, 21], []), ([0, 1, 2, 3, 4, 5, 6, 7, 8, 13, 14, 15, 16, 17, 18, 19, 20, 21], []), ([0, 1, 2, 3, 4, 5, 6, 7, 8, 13, 14, 15, 16, 17, 18, 19, 20, 21], []), ([0, 1, 2, 3, 4, 5, 6, 7, 8, 13, 14, 15, 16, 17, 18, 19, 20, 21], [4, 22]), ([0, 1, 2, 3, 4, 5, 6, 7, 8, 9, 10, 11, 12, 17, 18, 19, 20, 21], []), ([0, 1, 2, 3, 4, 5, 6, 7, 8, 9, 10, 11, 12, 17, 18, 19, 20, 21], []), ([0, 1, 2, 3, 4, 5, 6, 7, 8, 9, 10, 11, 12, 17, 18, 19, 20, 21], []), ([0, 1, 2, 3, 4, 5, 6, 7, 8, 9, 10, 11, 12, 17, 18, 19, 20, 21], [4, 22]), ([0, 1, 2, 3, 4, 5, 6, 7, 8, 9, 10, 11, 12, 13, 14, 15, 16], []), ([0, 1, 2, 3, 4, 5, 6, 7, 8, 9, 10, 11, 12, 13, 14, 15, 16], []), ([0, 1, 2, 3, 4, 5, 6, 7, 8, 9, 10, 11, 12, 13, 14, 15, 16], []), ([0, 1, 2, 3, 4, 5, 6, 7, 8, 9, 10, 11, 12, 13, 14, 15, 16], [4]), ([5, 6, 7, 8, 9, 10, 11, 12, 13, 14, 15, 16], []), ([], []), ([], []), ([], [])])
  .ret)), [.t 2]⟩
def h90 : Hints := ⟨[], callsOf [(160, .spec s160), (161, .spec s161)], [], [], []⟩
theorem hk90 : HOk prog h90 := hok_of ⟨g160, g161, trivial⟩ trivial trivial trivial
theorem e90 : elabF prog h90 [] 90 = some c90 := by kernel_rfl
def s90 : Spec := fspec prog c90
theorem g90 : Good prog 90 s90 := good_fspec hk90 mixed e90

def c252 : AFn := ⟨2, (.seq (.region 0 [⟨(some 4), .mov, [.c (.bool false)], none⟩])
  (.seq (.region 1 [⟨(some 5), .mov, [.t 0], none⟩, ⟨(some 6), .lenS, [.t 5], none⟩, ⟨(some 7), .mov, [.t 1], none⟩, ⟨(some 8), .lenS, [.t 7], none⟩, ⟨(some 9), .bin .geq 3 false true 0, [.t 6, .t 8], none⟩, ⟨(some 10), .mov, [.t 9], none⟩, ⟨(some 11), .mov, [.t 0], (some (10, true))⟩, ⟨(some 12), .mov, [.t 1], (some (10, true))⟩, ⟨(some 13), .lenS, [.t 12], (some (10, true))⟩, ⟨(some 14), .slS false true, [.t 11, .t 13], (some (10, true))⟩, ⟨(some 15), .mov, [.t 1], (some (10, true))⟩, ⟨(some 16), .bin .eql 9 false true 0, [.t 14, .t 15], (some (10, true))⟩, ⟨(some 17), .pick, [.t 10, .t 16, .c (.bool false)], none⟩, ⟨(some 4), .mov, [.t 17], none⟩])
  .ret)), [.t 4]⟩
def h252 : Hints := ⟨[], callsOf [], [], [], []⟩
theorem hk252 : HOk prog h252 := hok_of trivial trivial trivial trivial
theorem e252 : elabF prog h252 [] 252 = some c252 := by kernel_rfl
def s252 : Spec := fspec prog c252
theorem g252 : Good prog 252 s252 := good_fspec hk252 mixed e252
def t252 : List (List Value × Res) := [([(mkStr [47]), (mkStr [47])], (.ret (.bool true)))]
def p252 : PSpec := tab t252
theorem k252 : tabOk s252 t252 = true := by kernel_rfl
theorem gp252 : GoodP prog 252 p252 := goodP_tab g252 k252
end
end CwT
