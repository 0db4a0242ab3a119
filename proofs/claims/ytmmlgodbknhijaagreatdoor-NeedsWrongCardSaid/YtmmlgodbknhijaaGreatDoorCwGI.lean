/-
  The functions that the closed run comes to: their code for the evaluator, and that it is theirs.
-/
import Derived.Test.YtmmlgodbknhijaaGreatDoorCwGH
namespace CwT
open Go Cw
set_option maxRecDepth 100000
noncomputable section
def c91 : AFn := ⟨3, (.seq (.region 0 [⟨(some 3), .mov, [.t 7], none⟩])
  (.seq (.seq (.region 1 [⟨(some 8), .mov, [.t 3], none⟩, ⟨(some 9), .bin .eql 20 true true 4, [.t 8, .c .nilIface], none⟩])
  (.cond (.t 9) .ret
  .skip))
  (.seq (.region 2 [⟨(some 11), .mov, [.t 3], none⟩, ⟨(some 12), .tass 182 true (.agg ⟨[.nilIface]⟩), [.t 11], none⟩, ⟨(some 10), .mov, [.t 12], none⟩, ⟨(some 13), .ext 0, [.t 10], none⟩, ⟨(some 14), .ext 1, [.t 10], none⟩, ⟨(some 4), .alloc (some 4) (.agg ⟨[.nilIface]⟩), [], none⟩, ⟨none, .store 1, [.t 4, .t 13], none⟩, ⟨(some 5), .mov, [.t 14], none⟩])
  (.seq (.seq (.region 3 [⟨(some 15), .mov, [.t 5], none⟩, ⟨(some 16), .un .not, [.t 15], none⟩])
  (.cond (.t 16) (.region 4 [⟨(some 17), .mov, [.t 3], none⟩, ⟨none, .panic, [.t 17], none⟩])
  .skip))
  (.seq (.region 5 [⟨(some 18), .build [(.int .i64 0), (.int .i64 0), (.int .i64 0), (.int .i64 0), (mkStr []), (.slice none 0 0)] [], [], none⟩, ⟨none, .store 6, [.t 0, .t 18], none⟩, ⟨none, .store 1, [.t 1, .c .nilIface], none⟩])
  (.seq (.region 6 [⟨(some 19), .faddr 0, [.t 4], none⟩, ⟨(some 20), .load none, [.t 19], none⟩, ⟨(some 21), .call 21 s21, [.t 20], none⟩, ⟨(some 6), .mov, [.t 21], none⟩])
  (.block 0 (.seq (.region 8 [⟨(some 27), .mov, [.t 6], none⟩, ⟨(some 28), .pcall 92 p92, [.t 27], none⟩, ⟨(some 26), .mov, [.t 28], none⟩])
  (.cond (.t 26) (.region 9 [⟨(some 29), .mov, [.t 6], none⟩, ⟨(some 30), .faddr 0, [.t 0], none⟩, ⟨none, .store 1, [.t 30, .t 29], none⟩])
  (.seq (.region 10 [⟨(some 32), .mov, [.t 6], none⟩, ⟨(some 33), .bin .eql 38 true true 0, [.t 32, .c (.int .i64 230)], none⟩, ⟨(some 34), .mov, [.t 33], none⟩, ⟨(some 35), .mov, [.t 6], (some (34, false))⟩, ⟨(some 36), .bin .eql 38 true true 0, [.t 35, .c (.int .i64 2)], (some (34, false))⟩, ⟨(some 37), .pick, [.t 34, .c (.bool true), .t 36], none⟩, ⟨(some 31), .mov, [.t 37], none⟩])
  (.cond (.t 31) (.region 11 [⟨(some 38), .faddr 0, [.t 2], none⟩, ⟨(some 39), .load none, [.t 38], none⟩, ⟨(some 40), .faddr 0, [.t 4], none⟩, ⟨(some 41), .load none, [.t 40], none⟩, ⟨(some 42), .call 87 s87, [.c (mkStr [100, 111]), .t 39, .t 41], none⟩, ⟨none, .store 1, [.t 1, .t 42], none⟩])
  (.draw 7 [⟨(some 22), .faddr 0, [.t 2], none⟩, ⟨(some 23), .load none, [.t 22], none⟩, ⟨(some 24), .pcall 88 p88, [.c (.int .i64 180)], none⟩, ⟨(some 25), .call 87 s87, [.c (mkStr [100, 111]), .t 23, .t 24], none⟩, ⟨none, .store 1, [.t 1, .t 25], none⟩] [([2], []), ([2], []), ([0, 1], []), ([], []), ([], [])])))))))))))), []⟩
def h91 : Hints := ⟨[4], callsOf [(21, .spec s21), (87, .spec s87), (88, .pure p88), (92, .pure p92)], [], [], []⟩
theorem hk91 : HOk prog h91 := hok_of ⟨g21, g87, gp88, gp92, trivial⟩ trivial trivial trivial
theorem e91 : elabD prog h91 [] 91 = some (c91, 7) := by kernel_rfl
def d91 : DSpec := fdefer prog c91 7
theorem g91 : GoodD prog 91 d91 := good_fdefer hk91 mixed (by kernel_rfl) e91

def c47 : AFn := ⟨4, (.seq (.region 0 [⟨(some 5), .box (some 5), [.t 1], none⟩, ⟨(some 6), .box (some 6), [.t 2], none⟩, ⟨(some 7), .box none, [.t 3], none⟩, ⟨(some 8), .alloc none (.agg ⟨[(.int .i64 0), (.int .i64 0), (.int .i64 0), (.int .i64 0), (mkStr []), (.slice none 0 0)]⟩), [], none⟩, ⟨(some 9), .alloc none .nilIface, [], none⟩])
  (.seq (.block 0 (.seq (.region 1 [⟨(some 12), .mov, [.t 0], none⟩, ⟨(some 13), .bin .eql 26 true true 1, [.t 12, .c (.pointer none)], none⟩, ⟨(some 11), .mov, [.t 13], none⟩])
  (.cond (.t 11) (.seq (.draw 2 [⟨(some 14), .load (some 6), [.t 8], none⟩, ⟨(some 15), .faddr 0, [.t 7], none⟩, ⟨(some 16), .load none, [.t 15], none⟩, ⟨(some 17), .pcall 88 p88, [.c (.int .i64 5)], none⟩, ⟨(some 18), .call 87 s87, [.c (mkStr [100, 111]), .t 16, .t 17], none⟩, ⟨none, .store 6, [.t 8, .t 14], none⟩, ⟨none, .store 1, [.t 9, .t 18], none⟩] [([1, 2, 3, 4], [5]), ([0, 3], []), ([0, 3], []), ([0, 1, 2], []), ([0], []), ([], []), ([], [])])
  .ret)
  (.seq (.region 3 [⟨(some 20), .load (some 3), [.t 5], none⟩, ⟨(some 21), .pcall 89 p89, [.t 20], none⟩, ⟨(some 22), .bin .neq 38 true true 0, [.t 21, .c (.int .i64 0)], none⟩, ⟨(some 19), .mov, [.t 22], none⟩])
  (.cond (.t 19) (.seq (.draw 4 [⟨(some 23), .load (some 6), [.t 8], none⟩, ⟨(some 24), .faddr 0, [.t 7], none⟩, ⟨(some 25), .load none, [.t 24], none⟩, ⟨(some 26), .pcall 88 p88, [.c (.int .i64 4)], none⟩, ⟨(some 27), .call 87 s87, [.c (mkStr [100, 111]), .t 25, .t 26], none⟩, ⟨none, .store 6, [.t 8, .t 23], none⟩, ⟨none, .store 1, [.t 9, .t 27], none⟩] [([1, 2, 3, 4], [5]), ([0, 3], []), ([0, 3], []), ([0, 1, 2], []), ([0], []), ([], []), ([], [])])
  .ret)
  .skip)))))
  (.seq (.draw 5 [⟨(some 28), .mov, [.t 0], none⟩, ⟨(some 29), .call 90 s90, [.t 28], none⟩, ⟨(some 30), .load (some 3), [.t 5], none⟩, ⟨(some 31), .load (some 2), [.t 6], none⟩, ⟨(some 32), .build [(.pointer none), (.int .i64 0), (.int .i64 0), (.int .i64 0), (.bool false), (.slice none 0 0)] [(0, 1), (1, 3), (4, 2)], [.t 29, .t 30, .t 31], none⟩, ⟨(some 33), .box none, [.t 32], none⟩, ⟨(some 10), .mov, [.t 33], none⟩] [([2, 3], []), ([2, 3], []), ([0, 1, 3], [1]), ([0, 1, 2], [1]), ([], []), ([], []), ([], [])])
  (.seq (.region 6 [⟨(some 34), .mkfn 91 0, [.t 8, .t 9, .t 7], none⟩, ⟨none, .deferv [(91, d91)], [.t 34], none⟩])
  (.seq (.region 7 [⟨(some 35), .mov, [.t 10], none⟩, ⟨(some 36), .load (some 6), [.t 7], none⟩, ⟨(some 37), .call 93 s93, [.t 35, .t 36], none⟩, ⟨none, .store 6, [.t 8, .t 37], none⟩])
  (.seq (.region 8 [⟨(some 38), .mov, [.t 0], none⟩, ⟨(some 39), .mov, [.t 10], none⟩, ⟨(some 40), .nilc, [.t 39], none⟩, ⟨(some 41), .faddr 0, [.t 40], none⟩, ⟨(some 42), .load none, [.t 41], none⟩, ⟨(some 43), .call 95 s95, [.t 38, .t 42], none⟩, ⟨(some 44), .pcall 94 p94, [.t 43], none⟩])
  (.seq (.region 9 [⟨(some 45), .load (some 6), [.t 8], none⟩, ⟨none, .store 6, [.t 8, .t 45], none⟩, ⟨none, .store 1, [.t 9, .c .nilIface], none⟩])
  .ret))))))), [.cell 8 (some 6), .cell 9 none]⟩
def h47 : Hints := ⟨[5, 6], callsOf [(87, .spec s87), (88, .pure p88), (89, .pure p89), (90, .spec s90), (93, .spec s93), (94, .pure p94), (95, .spec s95)], [], [(91, d91)], []⟩
theorem hk47 : HOk prog h47 := hok_of ⟨g87, gp88, gp89, g90, g93, gp94, g95, trivial⟩ trivial ⟨g91, trivial⟩ trivial
theorem e47 : elabF prog h47 [] 47 = some c47 := by kernel_rfl
def s47 : Spec := fspec prog c47
theorem g47 : Good prog 47 s47 := good_fspec hk47 mixed e47

def c98 : AFn := ⟨2, (.seq (.region 0 [⟨(some 4), .mov, [.c (.bool false)], none⟩])
  (.seq (.region 1 [⟨(some 5), .mov, [.t 0], none⟩, ⟨(some 6), .bin .neq 62 true false 4, [.t 5, .c .nilIface], none⟩, ⟨(some 7), .mov, [.t 6], none⟩, ⟨(some 8), .mov, [.t 0], (some (7, true))⟩, ⟨(some 9), .mov, [.t 1], (some (7, true))⟩, ⟨(some 10), .mkif 38, [.t 9], (some (7, true))⟩, ⟨(some 11), .call 48 s48, [.t 8, .t 10], (some (7, true))⟩, ⟨(some 12), .mov, [.t 11], (some (7, true))⟩, ⟨(some 13), .mov, [.t 0], (some (12, false))⟩, ⟨(some 14), .call 21 s21, [.t 13], (some (12, false))⟩, ⟨(some 15), .mov, [.t 1], (some (12, false))⟩, ⟨(some 16), .bin .eql 38 false true 0, [.t 14, .t 15], (some (12, false))⟩, ⟨(some 17), .pick, [.t 12, .c (.bool true), .t 16], (some (7, true))⟩, ⟨(some 18), .pick, [.t 7, .t 17, .c (.bool false)], none⟩, ⟨(some 4), .mov, [.t 18], none⟩])
  .ret)), [.t 4]⟩
def h98 : Hints := ⟨[], callsOf [(21, .spec s21), (48, .spec s48)], [], [], []⟩
theorem hk98 : HOk prog h98 := hok_of ⟨g21, g48, trivial⟩ trivial trivial trivial
theorem e98 : elabF prog h98 [] 98 = some c98 := by kernel_rfl
def s98 : Spec := fspec prog c98
theorem g98 : Good prog 98 s98 := good_fspec hk98 mixed e98

def c99 : AFn := ⟨2, (.seq (.region 0 [⟨(some 4), .mov, [.c (.int .i64 0)], none⟩, ⟨(some 5), .mov, [.c (.bool false)], none⟩])
  (.seq (.seq (.region 1 [⟨(some 8), .mov, [.t 0], none⟩, ⟨(some 9), .call 159 s159, [.t 8], none⟩, ⟨(some 10), .lenV, [.t 9], none⟩, ⟨(some 11), .mov, [.c (.int .i64 0)], none⟩])
  (.block 0 (.loop [1, 9, 10, 11] [] (.seq (.region 2 [⟨(some 12), .bin .lss 3 false true 0, [.t 11, .t 10], none⟩])
  (.seq (.cond (.t 12) .skip
  (.exit 0))
  (.seq (.block 1 (.seq (.region 3 [⟨(some 13), .iaddrS 2, [.t 9, .t 11], none⟩, ⟨(some 14), .load (some 2), [.t 13], none⟩, ⟨(some 7), .alloc (some 7) (.agg ⟨[(mkStr []), (.int .i64 0)]⟩), [], none⟩, ⟨none, .store 2, [.t 7, .t 14], none⟩])
  (.seq (.region 4 [⟨(some 15), .faddr 0, [.t 7], none⟩, ⟨(some 16), .load none, [.t 15], none⟩, ⟨(some 17), .mov, [.t 1], none⟩, ⟨(some 18), .bin .eql 9 false true 0, [.t 16, .t 17], none⟩])
  (.cond (.t 18) (.seq (.region 5 [⟨(some 19), .faddr 1, [.t 7], none⟩, ⟨(some 20), .load none, [.t 19], none⟩, ⟨(some 4), .mov, [.t 20], none⟩, ⟨(some 5), .mov, [.c (.bool true)], none⟩])
  .ret)
  .skip))))
  (.region 6 [⟨(some 21), .bin .add 3 true true 0, [.t 11, .c (.int .i64 1)], none⟩, ⟨(some 11), .mov, [.t 21], none⟩])))))))
  (.seq (.region 7 [⟨(some 4), .mov, [.c (.int .i64 0)], none⟩, ⟨(some 5), .mov, [.c (.bool false)], none⟩])
  .ret))), [.t 4, .t 5]⟩
def h99 : Hints := ⟨[7], callsOf [(159, .spec s159)], [], [], []⟩
theorem hk99 : HOk prog h99 := hok_of ⟨g159, trivial⟩ trivial trivial trivial
theorem e99 : elabF prog h99 [([1, 9, 10, 11], [])] 99 = some c99 := by kernel_rfl
def s99 : Spec := fspec prog c99
theorem g99 : Good prog 99 s99 := good_fspec hk99 mixed e99

def c49 : AFn := ⟨1, (.seq (.region 0 [⟨(some 2), .mov, [.c (.int .i64 0)], none⟩, ⟨(some 3), .mov, [.c (.bool false)], none⟩])
  (.seq (.seq (.region 1 [⟨(some 4), .mov, [.t 0], none⟩, ⟨(some 5), .call 98 s98, [.t 4, .c (.int .i64 230)], none⟩, ⟨(some 6), .un .not, [.t 5], none⟩])
  (.cond (.t 6) (.seq (.region 2 [⟨(some 2), .mov, [.c (.int .i64 0)], none⟩, ⟨(some 3), .mov, [.c (.bool false)], none⟩])
  .ret)
  .skip))
  (.seq (.region 3 [⟨(some 7), .mov, [.t 0], none⟩, ⟨(some 8), .call 99 s99, [.t 7, .c (mkStr [108, 101, 97, 115, 101])], none⟩, ⟨(some 9), .ext 0, [.t 8], none⟩, ⟨(some 10), .ext 1, [.t 8], none⟩, ⟨(some 2), .mov, [.t 9], none⟩, ⟨(some 3), .mov, [.t 10], none⟩])
  .ret))), [.t 2, .t 3]⟩
def h49 : Hints := ⟨[], callsOf [(98, .spec s98), (99, .spec s99)], [], [], []⟩
theorem hk49 : HOk prog h49 := hok_of ⟨g98, g99, trivial⟩ trivial trivial trivial
theorem e49 : elabF prog h49 [] 49 = some c49 := by kernel_rfl
def s49 : Spec := fspec prog c49
theorem g49 : Good prog 49 s49 := good_fspec hk49 mixed e49

def c19 : AFn := ⟨4, (.seq (.region 0 [⟨(some 6), .box (some 6), [.t 2], none⟩, ⟨(some 8), .mov, [.c (.int .i64 0)], none⟩, ⟨(some 9), .mov, [.c .nilIface], none⟩])
  (.seq (.seq (.region 1 [⟨(some 17), .mov, [.t 0], none⟩, ⟨(some 18), .nilc, [.t 17], none⟩, ⟨(some 19), .faddr 7, [.t 18], none⟩, ⟨(some 20), .load none, [.t 19], none⟩, ⟨(some 21), .bin .neq 3 true true 0, [.t 20, .c (.int .i64 0)], none⟩])
  (.cond (.t 21) (.seq (.region 2 [⟨(some 8), .mov, [.c (.int .i64 (-1))], none⟩, ⟨(some 9), .mov, [.c .nilIface], none⟩])
  .ret)
  .skip))
  (.seq (.seq (.region 3 [⟨(some 23), .mov, [.t 0], none⟩, ⟨(some 24), .nilc, [.t 23], none⟩, ⟨(some 25), .faddr 6, [.t 24], none⟩, ⟨(some 26), .load none, [.t 25], none⟩, ⟨(some 27), .mov, [.t 3], none⟩, ⟨(some 28), .call 46 s46, [.t 26, .t 27], none⟩, ⟨(some 22), .mov, [.t 28], none⟩, ⟨(some 29), .ext 0, [.t 22], none⟩, ⟨(some 30), .ext 1, [.t 22], none⟩, ⟨(some 10), .mov, [.t 29], none⟩, ⟨(some 11), .mov, [.t 30], none⟩])
  (.seq (.region 4 [⟨(some 31), .mov, [.t 11], none⟩, ⟨(some 32), .bin .neq 3 true true 0, [.t 31, .c (.int .i64 (-1))], none⟩])
  (.cond (.t 32) (.seq (.region 5 [⟨(some 33), .mov, [.t 11], none⟩, ⟨(some 8), .mov, [.t 33], none⟩, ⟨(some 9), .mov, [.c .nilIface], none⟩])
  .ret)
  .skip)))
  (.seq (.draw 6 [⟨(some 35), .mov, [.t 1], none⟩, ⟨(some 36), .load (some 3), [.t 6], none⟩, ⟨(some 37), .mov, [.t 3], none⟩, ⟨(some 38), .build [(.bool false), (.slice none 0 0)] [(1, 1)], [.t 37], none⟩, ⟨(some 39), .mov, [.t 0], none⟩, ⟨(some 40), .nilc, [.t 39], none⟩, ⟨(some 41), .faddr 0, [.t 40], none⟩, ⟨(some 42), .load (some 6), [.t 41], none⟩, ⟨(some 43), .call 47 s47, [.t 35, .t 36, .t 38, .t 42], none⟩, ⟨(some 34), .mov, [.t 43], none⟩, ⟨(some 44), .ext 0, [.t 34], none⟩, ⟨(some 45), .ext 1, [.t 34], none⟩, ⟨(some 12), .alloc (some 12) (.agg ⟨[(.int .i64 0), (.int .i64 0), (.int .i64 0), (.int .i64 0), (mkStr []), (.slice none 0 0)]⟩), [], none⟩, ⟨none, .store 6, [.t 12, .t 44], none⟩, ⟨(some 9), .mov, [.t 45], none⟩] [([1, 2, 3, 4, 5, 6, 7, 12], []), ([0, 2, 3, 4, 5, 6, 7, 12], []), ([0, 1, 4, 5, 6, 7, 12], []), ([0, 1, 4, 5, 6, 7, 12], []), ([0, 1, 2, 3, 12], []), ([0, 1, 2, 3, 12], []), ([0, 1, 2, 3, 12], []), ([0, 1, 2, 3, 12], []), ([12], []), ([12], []), ([11, 12], []), ([10, 12, 13], []), ([0, 1, 2, 3, 4, 5, 6, 7, 8, 9, 10, 11], [8]), ([11], []), ([], [])])
  (.seq (.block 0 (.seq (.region 7 [⟨(some 47), .mov, [.t 9], none⟩, ⟨(some 48), .mkif 38, [.c (.int .i64 230)], none⟩, ⟨(some 49), .call 48 s48, [.t 47, .t 48], none⟩, ⟨(some 46), .mov, [.t 49], none⟩])
  (.cond (.t 46) (.seq (.region 8 [⟨(some 51), .mov, [.t 9], none⟩, ⟨(some 52), .call 49 s49, [.t 51], none⟩, ⟨(some 50), .mov, [.t 52], none⟩, ⟨(some 53), .ext 0, [.t 50], none⟩, ⟨(some 54), .ext 1, [.t 50], none⟩, ⟨(some 13), .mov, [.t 53], none⟩, ⟨(some 14), .mov, [.t 54], none⟩])
  (.seq (.region 9 [⟨(some 55), .mov, [.t 0], none⟩, ⟨(some 56), .mov, [.t 0], none⟩, ⟨(some 57), .nilc, [.t 56], none⟩, ⟨(some 58), .faddr 6, [.t 57], none⟩, ⟨(some 59), .load none, [.t 58], none⟩, ⟨(some 60), .mov, [.t 13], none⟩, ⟨(some 61), .bslice (some 61) 1 1 [(.int .i64 0)] [(0, 1)], [.t 60], none⟩, ⟨(some 62), .append 1 8, [.t 59, .t 61], none⟩, ⟨(some 63), .nilc, [.t 55], none⟩, ⟨(some 64), .faddr 6, [.t 63], none⟩, ⟨none, .store 1, [.t 64, .t 62], none⟩])
  (.seq (.region 10 [⟨(some 66), .mov, [.t 0], none⟩, ⟨(some 67), .nilc, [.t 66], none⟩, ⟨(some 68), .faddr 6, [.t 67], none⟩, ⟨(some 69), .load none, [.t 68], none⟩, ⟨(some 70), .mov, [.t 3], none⟩, ⟨(some 71), .call 46 s46, [.t 69, .t 70], none⟩, ⟨(some 65), .mov, [.t 71], none⟩, ⟨(some 72), .ext 0, [.t 65], none⟩, ⟨(some 73), .ext 1, [.t 65], none⟩, ⟨(some 15), .mov, [.t 72], none⟩, ⟨(some 16), .mov, [.t 73], none⟩])
  (.seq (.region 11 [⟨(some 74), .mov, [.t 16], none⟩, ⟨(some 8), .mov, [.t 74], none⟩, ⟨(some 9), .mov, [.c .nilIface], none⟩])
  .ret))))
  (.seq (.region 12 [⟨(some 76), .mov, [.t 9], none⟩, ⟨(some 77), .bin .neq 62 true false 4, [.t 76, .c .nilIface], none⟩, ⟨(some 75), .mov, [.t 77], none⟩])
  (.cond (.t 75) (.seq (.region 13 [⟨(some 78), .mov, [.t 9], none⟩, ⟨(some 8), .mov, [.c (.int .i64 (-1))], none⟩, ⟨(some 9), .mov, [.t 78], none⟩])
  .ret)
  .skip)))))
  (.seq (.region 14 [⟨(some 79), .mov, [.t 0], none⟩, ⟨(some 80), .mov, [.t 0], none⟩, ⟨(some 81), .load (some 6), [.t 12], none⟩, ⟨(some 82), .nilc, [.t 79], none⟩, ⟨(some 83), .faddr 8, [.t 82], none⟩, ⟨none, .store 6, [.t 83, .t 81], none⟩, ⟨(some 84), .nilc, [.t 80], none⟩, ⟨(some 85), .faddr 7, [.t 84], none⟩, ⟨none, .store 1, [.t 85, .c (.int .i64 2)], none⟩])
  (.seq (.seq (.region 15 [⟨(some 86), .mov, [.t 0], none⟩, ⟨(some 87), .nilc, [.t 86], none⟩, ⟨(some 88), .faddr 0, [.t 87], none⟩, ⟨(some 89), .faddr 0, [.t 88], none⟩, ⟨(some 90), .load none, [.t 89], none⟩, ⟨(some 91), .bin .eql 3 true true 0, [.t 90, .c (.int .i64 12)], none⟩, ⟨(some 92), .mov, [.t 91], none⟩, ⟨(some 93), .faddr 0, [.t 12], (some (92, true))⟩, ⟨(some 94), .load none, [.t 93], (some (92, true))⟩, ⟨(some 95), .bin .eql 38 true true 0, [.t 94, .c (.int .i64 0)], (some (92, true))⟩, ⟨(some 96), .pick, [.t 92, .t 95, .c (.bool false)], none⟩])
  (.cond (.t 96) (.region 16 [⟨(some 97), .mov, [.t 0], none⟩, ⟨(some 98), .mov, [.t 0], none⟩, ⟨(some 99), .mov, [.t 1], none⟩, ⟨(some 100), .nilc, [.t 99], none⟩, ⟨(some 101), .faddr 0, [.t 100], none⟩, ⟨(some 102), .load none, [.t 101], none⟩, ⟨(some 103), .call 50 sNone, [.t 102], none⟩, ⟨(some 104), .nilc, [.t 97], none⟩, ⟨(some 105), .faddr 7, [.t 104], none⟩, ⟨none, .store 1, [.t 105, .c (.int .i64 1)], none⟩, ⟨(some 106), .nilc, [.t 98], none⟩, ⟨(some 107), .faddr 14, [.t 106], none⟩, ⟨none, .store 1, [.t 107, .t 103], none⟩])
  .skip))
  (.seq (.region 17 [⟨(some 8), .mov, [.c (.int .i64 (-1))], none⟩, ⟨(some 9), .mov, [.c .nilIface], none⟩])
  .ret)))))))), [.t 8, .t 9]⟩
def h19 : Hints := ⟨[6, 12, 61], callsOf [(46, .spec s46), (47, .spec s47), (48, .spec s48), (49, .spec s49), (50, .spec sNone)], [], [], []⟩
theorem hk19 : HOk prog h19 := hok_of ⟨g46, g47, g48, g49, good_none _ _, trivial⟩ trivial trivial trivial
theorem e19 : elabF prog h19 [] 19 = some c19 := by kernel_rfl
def s19 : Spec := fspec prog c19
theorem g19 : Good prog 19 s19 := good_fspec hk19 mixed e19

def c54 : AFn := ⟨1, (.seq (.region 0 [⟨(some 2), .mov, [.c (.slice none 0 0)], none⟩])
  (.seq (.seq (.region 1 [⟨(some 3), .mov, [.t 0], none⟩, ⟨(some 4), .bin .eql 48 true true 2, [.t 3, .c (.slice none 0 0)], none⟩])
  (.cond (.t 4) (.seq (.region 2 [⟨(some 2), .mov, [.c (.slice none 0 0)], none⟩])
  .ret)
  .skip))
  (.seq (.region 3 [⟨(some 5), .bslice none 1 0 [] [], [], none⟩, ⟨(some 6), .mov, [.t 0], none⟩, ⟨(some 7), .append 1 16, [.t 5, .t 6], none⟩, ⟨(some 2), .mov, [.t 7], none⟩])
  .ret))), [.t 2]⟩
def h54 : Hints := ⟨[], callsOf [], [], [], []⟩
theorem hk54 : HOk prog h54 := hok_of trivial trivial trivial trivial
theorem e54 : elabF prog h54 [] 54 = some c54 := by kernel_rfl
def s54 : Spec := fspec prog c54
theorem g54 : Good prog 54 s54 := good_fspec hk54 mixed e54
def t54 : List (List Value × Res) := [([(.slice none 0 0)], (.ret (.slice none 0 0)))]
def p54 : PSpec := tab t54
theorem k54 : tabOk s54 t54 = true := by kernel_rfl
theorem gp54 : GoodP prog 54 p54 := goodP_tab g54 k54

def c20 : AFn := ⟨2, (.seq (.region 0 [⟨(some 3), .box none, [.t 1], none⟩, ⟨(some 4), .mov, [.c (.int .i64 0)], none⟩, ⟨(some 5), .alloc (some 5) (.agg ⟨[(.int .i64 0), (.int .i64 0), (.int .i64 0), (.int .i64 0), (mkStr []), (.slice none 0 0)]⟩), [], none⟩])
  (.seq (.seq (.region 1 [⟨(some 7), .mov, [.t 0], none⟩, ⟨(some 8), .nilc, [.t 7], none⟩, ⟨(some 9), .faddr 7, [.t 8], none⟩, ⟨(some 10), .load none, [.t 9], none⟩, ⟨(some 11), .bin .eql 3 true true 0, [.t 10, .c (.int .i64 1)], none⟩, ⟨(some 12), .mov, [.t 11], none⟩, ⟨(some 13), .load none, [.t 3], (some (12, true))⟩, ⟨(some 14), .bin .neq 26 true true 1, [.t 13, .c (.pointer none)], (some (12, true))⟩, ⟨(some 15), .pick, [.t 12, .t 14, .c (.bool false)], none⟩])
  (.cond (.t 15) (.seq (.region 2 [⟨(some 16), .mov, [.t 0], none⟩, ⟨(some 17), .nilc, [.t 16], none⟩, ⟨(some 18), .faddr 14, [.t 17], none⟩, ⟨(some 19), .load none, [.t 18], none⟩, ⟨(some 20), .mkfn 52 0, [.t 3], none⟩, ⟨(some 21), .call 51 sNone, [.t 19, .t 20], none⟩, ⟨(some 6), .mov, [.t 21], none⟩])
  (.seq (.region 3 [⟨(some 22), .mov, [.t 6], none⟩, ⟨(some 23), .un .not, [.t 22], none⟩])
  (.cond (.t 23) (.region 4 [⟨(some 24), .mov, [.t 0], none⟩, ⟨(some 25), .nilc, [.t 24], none⟩, ⟨(some 26), .faddr 7, [.t 25], none⟩, ⟨none, .store 1, [.t 26, .c (.int .i64 2)], none⟩])
  .skip)))
  .skip))
  (.seq (.seq (.region 5 [⟨(some 27), .mov, [.t 0], none⟩, ⟨(some 28), .nilc, [.t 27], none⟩, ⟨(some 29), .faddr 7, [.t 28], none⟩, ⟨(some 30), .load none, [.t 29], none⟩, ⟨(some 31), .bin .neq 3 true true 0, [.t 30, .c (.int .i64 2)], none⟩])
  (.cond (.t 31) (.seq (.region 6 [⟨(some 32), .mov, [.t 0], none⟩, ⟨(some 33), .nilc, [.t 32], none⟩, ⟨(some 34), .faddr 7, [.t 33], none⟩, ⟨(some 35), .load none, [.t 34], none⟩, ⟨(some 36), .build [(.int .i64 0), (.int .i64 0), (.int .i64 0), (.int .i64 0), (mkStr []), (.slice none 0 0)] [], [], none⟩, ⟨(some 4), .mov, [.t 35], none⟩, ⟨none, .store 6, [.t 5, .t 36], none⟩])
  .ret)
  .skip))
  (.seq (.region 7 [⟨(some 37), .mov, [.t 0], none⟩, ⟨(some 38), .nilc, [.t 37], none⟩, ⟨(some 39), .faddr 8, [.t 38], none⟩, ⟨(some 40), .load (some 6), [.t 39], none⟩, ⟨none, .store 6, [.t 5, .t 40], none⟩])
  (.seq (.region 8 [⟨(some 41), .faddr 5, [.t 5], none⟩, ⟨(some 42), .load none, [.t 41], none⟩, ⟨(some 43), .pcall 54 p54, [.t 42], none⟩, ⟨(some 44), .faddr 5, [.t 5], none⟩, ⟨none, .store 1, [.t 44, .t 43], none⟩])
  (.seq (.draw 9 [⟨(some 45), .load (some 6), [.t 5], none⟩, ⟨(some 4), .mov, [.c (.int .i64 2)], none⟩, ⟨none, .store 6, [.t 5, .t 45], none⟩] [([1], []), ([0], []), ([], [])])
  .ret)))))), [.t 4, .cell 5 (some 6)]⟩
def h20 : Hints := ⟨[5], callsOf [(51, .spec sNone), (54, .pure p54)], [], [], []⟩
theorem hk20 : HOk prog h20 := hok_of ⟨good_none _ _, gp54, trivial⟩ trivial trivial trivial
theorem e20 : elabF prog h20 [] 20 = some c20 := by kernel_rfl
def s20 : Spec := fspec prog c20
theorem g20 : Good prog 20 s20 := good_fspec hk20 mixed e20

def c18 : AFn := ⟨0, (.seq (.region 0 [⟨(some 0), .mov, [.c (.bool false)], none⟩])
  (.seq (.region 1 [⟨(some 11), .build [(.int .i64 0), (.int .i64 0), (.int .i64 0)] [(0, 1), (1, 1), (2, 1)], [.c (.int .i64 1), .c (.int .i64 2), .c (.int .i64 3)], none⟩, ⟨(some 1), .alloc (some 1) (.agg ⟨[(.int .i64 0), (.int .i64 0), (.int .i64 0)]⟩), [], none⟩, ⟨none, .store 3, [.t 1, .t 11], none⟩])
  (.seq (.region 2 [⟨(some 13), .load (some 3), [.t 1], none⟩, ⟨(some 14), .call 45 s45, [.t 13], none⟩, ⟨(some 12), .mov, [.t 14], none⟩, ⟨(some 15), .ext 0, [.t 12], none⟩, ⟨(some 16), .ext 1, [.t 12], none⟩, ⟨(some 2), .mov, [.t 15], none⟩, ⟨(some 3), .mov, [.t 16], none⟩])
  (.seq (.region 3 [⟨(some 17), .build [(.int .i64 0), (mkStr []), (mkStr []), (.int .i64 0), (.int .i64 0), (mkStr [])] [(0, 1), (1, 1)], [.c (.int .i64 11), .c (mkStr [47])], none⟩, ⟨(some 18), .call 17 s17, [.t 17], none⟩, ⟨(some 4), .mov, [.t 18], none⟩])
  (.seq (.seq (.region 4 [⟨(some 19), .mov, [.t 2], none⟩, ⟨(some 20), .bin .eql 25 true true 1, [.t 19, .c (.pointer none)], none⟩, ⟨(some 21), .mov, [.t 20], none⟩, ⟨(some 22), .mov, [.t 3], (some (21, false))⟩, ⟨(some 23), .bin .eql 26 true true 1, [.t 22, .c (.pointer none)], (some (21, false))⟩, ⟨(some 24), .pick, [.t 21, .c (.bool true), .t 23], none⟩, ⟨(some 25), .mov, [.t 24], none⟩, ⟨(some 26), .mov, [.t 4], (some (25, false))⟩, ⟨(some 27), .bin .eql 59 true true 1, [.t 26, .c (.pointer none)], (some (25, false))⟩, ⟨(some 28), .pick, [.t 25, .c (.bool true), .t 27], none⟩])
  (.cond (.t 28) (.seq (.region 5 [⟨(some 0), .mov, [.c (.bool false)], none⟩])
  .ret)
  .skip))
  (.seq (.region 6 [⟨(some 30), .mov, [.t 4], none⟩, ⟨(some 31), .mov, [.t 3], none⟩, ⟨(some 32), .load (some 3), [.t 1], none⟩, ⟨(some 33), .call 19 s19, [.t 30, .t 31, .t 32, .c (.slice none 0 0)], none⟩, ⟨(some 29), .mov, [.t 33], none⟩, ⟨(some 34), .ext 0, [.t 29], none⟩, ⟨(some 35), .ext 1, [.t 29], none⟩, ⟨(some 5), .mov, [.t 34], none⟩, ⟨(some 6), .mov, [.t 35], none⟩])
  (.seq (.region 7 [⟨(some 37), .mov, [.t 4], none⟩, ⟨(some 38), .mov, [.t 3], none⟩, ⟨(some 39), .load (some 3), [.t 1], none⟩, ⟨(some 40), .bslice none 1 1 [(.int .i64 0)] [(0, 1)], [.c (.int .i64 1)], none⟩, ⟨(some 41), .call 19 s19, [.t 37, .t 38, .t 39, .t 40], none⟩, ⟨(some 36), .mov, [.t 41], none⟩, ⟨(some 42), .ext 0, [.t 36], none⟩, ⟨(some 43), .ext 1, [.t 36], none⟩, ⟨(some 7), .mov, [.t 42], none⟩, ⟨(some 8), .mov, [.t 43], none⟩])
  (.seq (.region 8 [⟨(some 45), .mov, [.t 4], none⟩, ⟨(some 46), .mov, [.t 3], none⟩, ⟨(some 47), .call 20 s20, [.t 45, .t 46], none⟩, ⟨(some 44), .mov, [.t 47], none⟩, ⟨(some 48), .ext 0, [.t 44], none⟩, ⟨(some 49), .ext 1, [.t 44], none⟩, ⟨(some 10), .alloc (some 10) (.agg ⟨[(.int .i64 0), (.int .i64 0), (.int .i64 0), (.int .i64 0), (mkStr []), (.slice none 0 0)]⟩), [], none⟩, ⟨(some 9), .mov, [.t 48], none⟩, ⟨none, .store 6, [.t 10, .t 49], none⟩])
  (.seq (.region 9 [⟨(some 50), .mov, [.t 5], none⟩, ⟨(some 51), .bin .eql 3 true true 0, [.t 50, .c (.int .i64 1)], none⟩, ⟨(some 52), .mov, [.t 51], none⟩, ⟨(some 53), .mov, [.t 6], (some (52, true))⟩, ⟨(some 54), .bin .eql 62 true false 4, [.t 53, .c .nilIface], (some (52, true))⟩, ⟨(some 55), .pick, [.t 52, .t 54, .c (.bool false)], none⟩, ⟨(some 56), .mov, [.t 55], none⟩, ⟨(some 57), .mov, [.t 7], (some (56, true))⟩, ⟨(some 58), .bin .eql 3 true true 0, [.t 57, .c (.int .i64 (-1))], (some (56, true))⟩, ⟨(some 59), .pick, [.t 56, .t 58, .c (.bool false)], none⟩, ⟨(some 60), .mov, [.t 59], none⟩, ⟨(some 61), .mov, [.t 8], (some (60, true))⟩, ⟨(some 62), .bin .eql 62 true false 4, [.t 61, .c .nilIface], (some (60, true))⟩, ⟨(some 63), .pick, [.t 60, .t 62, .c (.bool false)], none⟩, ⟨(some 64), .mov, [.t 63], none⟩, ⟨(some 65), .mov, [.t 9], (some (64, true))⟩, ⟨(some 66), .bin .eql 3 true true 0, [.t 65, .c (.int .i64 2)], (some (64, true))⟩, ⟨(some 67), .pick, [.t 64, .t 66, .c (.bool false)], none⟩, ⟨(some 0), .mov, [.t 67], none⟩])
  .ret))))))))), [.t 0]⟩
def h18 : Hints := ⟨[1, 10], callsOf [(17, .spec s17), (19, .spec s19), (20, .spec s20), (45, .spec s45)], [], [], []⟩
theorem hk18 : HOk prog h18 := hok_of ⟨g17, g19, g20, g45, trivial⟩ trivial trivial trivial
theorem e18 : elabF prog h18 [] 18 = some c18 := by kernel_rfl
def s18 : Spec := fspec prog c18
theorem g18 : Good prog 18 s18 := good_fspec hk18 mixed e18

def c56 : AFn := ⟨2, (.seq (.region 0 [⟨(some 4), .mov, [.c (.bool false)], none⟩])
  (.seq (.seq (.region 1 [⟨(some 6), .mov, [.t 0], none⟩, ⟨(some 7), .lenV, [.t 6], none⟩, ⟨(some 8), .mov, [.t 1], none⟩, ⟨(some 9), .lenV, [.t 8], none⟩, ⟨(some 10), .bin .neq 3 false true 0, [.t 7, .t 9], none⟩])
  (.cond (.t 10) (.seq (.region 2 [⟨(some 4), .mov, [.c (.bool false)], none⟩])
  .ret)
  .skip))
  (.seq (.seq (.region 3 [⟨(some 5), .mov, [.c (.int .i64 0)], none⟩])
  (.block 0 (.loop [0, 1, 5] [] (.seq (.seq (.region 4 [⟨(some 11), .mov, [.t 5], none⟩, ⟨(some 12), .mov, [.t 0], none⟩, ⟨(some 13), .lenV, [.t 12], none⟩, ⟨(some 14), .bin .lss 3 false true 0, [.t 11, .t 13], none⟩])
  (.cond (.t 14) .skip
  (.exit 0)))
  (.seq (.block 1 (.seq (.draw 6 [⟨(some 17), .mov, [.t 0], none⟩, ⟨(some 18), .mov, [.t 5], none⟩, ⟨(some 19), .iaddrS 1, [.t 17, .t 18], none⟩, ⟨(some 20), .load none, [.t 19], none⟩, ⟨(some 21), .mov, [.t 1], none⟩, ⟨(some 22), .mov, [.t 5], none⟩, ⟨(some 23), .iaddrS 1, [.t 21, .t 22], none⟩, ⟨(some 24), .load none, [.t 23], none⟩, ⟨(some 25), .bin .neq 9 false true 0, [.t 20, .t 24], none⟩] [([1, 4, 5, 6, 7], []), ([0, 4, 5, 6, 7], []), ([4, 5, 6, 7], []), ([4, 5, 6, 7], []), ([0, 1, 2, 3, 5], []), ([0, 1, 2, 3, 4], []), ([0, 1, 2, 3], []), ([0, 1, 2, 3], []), ([], [])])
  (.cond (.t 25) (.seq (.region 7 [⟨(some 4), .mov, [.c (.bool false)], none⟩])
  .ret)
  .skip)))
  (.region 5 [⟨(some 15), .mov, [.t 5], none⟩, ⟨(some 16), .bin .add 3 true true 0, [.t 15, .c (.int .i64 1)], none⟩, ⟨(some 5), .mov, [.t 16], none⟩]))))))
  (.seq (.region 8 [⟨(some 4), .mov, [.c (.bool true)], none⟩])
  .ret)))), [.t 4]⟩
def h56 : Hints := ⟨[], callsOf [], [], [], []⟩
theorem hk56 : HOk prog h56 := hok_of trivial trivial trivial trivial
theorem e56 : elabF prog h56 [([0, 1, 5], [])] 56 = some c56 := by kernel_rfl
def s56 : Spec := fspec prog c56
theorem g56 : Good prog 56 s56 := good_fspec hk56 mixed e56
def t56 : List (List Value × Res) := [([(.slice none 0 0), (.slice none 0 0)], (.ret (.bool true)))]
def p56 : PSpec := tab t56
theorem k56 : tabOk s56 t56 = true := by kernel_rfl
theorem gp56 : GoodP prog 56 p56 := goodP_tab g56 k56

def c22 : AFn := ⟨2, (.seq (.region 0 [⟨(some 2), .box (some 2), [.t 0], none⟩, ⟨(some 3), .box (some 3), [.t 1], none⟩, ⟨(some 4), .mov, [.c (.bool false)], none⟩])
  (.seq (.region 1 [⟨(some 5), .faddr 0, [.t 2], none⟩, ⟨(some 6), .load none, [.t 5], none⟩, ⟨(some 7), .faddr 0, [.t 3], none⟩, ⟨(some 8), .load none, [.t 7], none⟩, ⟨(some 9), .bin .eql 38 false true 0, [.t 6, .t 8], none⟩, ⟨(some 10), .mov, [.t 9], none⟩, ⟨(some 11), .faddr 1, [.t 2], (some (10, true))⟩, ⟨(some 12), .load none, [.t 11], (some (10, true))⟩, ⟨(some 13), .faddr 1, [.t 3], (some (10, true))⟩, ⟨(some 14), .load none, [.t 13], (some (10, true))⟩, ⟨(some 15), .bin .eql 3 false true 0, [.t 12, .t 14], (some (10, true))⟩, ⟨(some 16), .pick, [.t 10, .t 15, .c (.bool false)], none⟩, ⟨(some 17), .mov, [.t 16], none⟩, ⟨(some 18), .faddr 2, [.t 2], (some (17, true))⟩, ⟨(some 19), .load none, [.t 18], (some (17, true))⟩, ⟨(some 20), .faddr 2, [.t 3], (some (17, true))⟩, ⟨(some 21), .load none, [.t 20], (some (17, true))⟩, ⟨(some 22), .bin .eql 3 false true 0, [.t 19, .t 21], (some (17, true))⟩, ⟨(some 23), .pick, [.t 17, .t 22, .c (.bool false)], none⟩, ⟨(some 24), .mov, [.t 23], none⟩, ⟨(some 25), .faddr 3, [.t 2], (some (24, true))⟩, ⟨(some 26), .load none, [.t 25], (some (24, true))⟩, ⟨(some 27), .faddr 3, [.t 3], (some (24, true))⟩, ⟨(some 28), .load none, [.t 27], (some (24, true))⟩, ⟨(some 29), .bin .eql 3 false true 0, [.t 26, .t 28], (some (24, true))⟩, ⟨(some 30), .pick, [.t 24, .t 29, .c (.bool false)], none⟩, ⟨(some 31), .mov, [.t 30], none⟩, ⟨(some 32), .faddr 4, [.t 2], (some (31, true))⟩, ⟨(some 33), .load none, [.t 32], (some (31, true))⟩, ⟨(some 34), .faddr 4, [.t 3], (some (31, true))⟩, ⟨(some 35), .load none, [.t 34], (some (31, true))⟩, ⟨(some 36), .bin .eql 9 false true 0, [.t 33, .t 35], (some (31, true))⟩, ⟨(some 37), .pick, [.t 31, .t 36, .c (.bool false)], none⟩, ⟨(some 38), .mov, [.t 37], none⟩, ⟨(some 39), .faddr 5, [.t 2], (some (38, true))⟩, ⟨(some 40), .load none, [.t 39], (some (38, true))⟩, ⟨(some 41), .faddr 5, [.t 3], (some (38, true))⟩, ⟨(some 42), .load none, [.t 41], (some (38, true))⟩, ⟨(some 43), .pcall 56 p56, [.t 40, .t 42], (some (38, true))⟩, ⟨(some 44), .pick, [.t 38, .t 43, .c (.bool false)], none⟩, ⟨(some 4), .mov, [.t 44], none⟩])
  .ret)), [.t 4]⟩
def h22 : Hints := ⟨[2, 3], callsOf [(56, .pure p56)], [], [], []⟩
theorem hk22 : HOk prog h22 := hok_of ⟨gp56, trivial⟩ trivial trivial trivial
theorem e22 : elabF prog h22 [] 22 = some c22 := by kernel_rfl
def s22 : Spec := fspec prog c22
theorem g22 : Good prog 22 s22 := good_fspec hk22 mixed e22
def t22 : List (List Value × Res) := [([(.agg ⟨[(.int .i64 0), (.int .i64 0), (.int .i64 0), (.int .i64 0), (mkStr []), (.slice none 0 0)]⟩), (.agg ⟨[(.int .i64 0), (.int .i64 0), (.int .i64 0), (.int .i64 0), (mkStr []), (.slice none 0 0)]⟩)], (.ret (.bool true)))]
def p22 : PSpec := tab t22
theorem k22 : tabOk s22 t22 = true := by kernel_rfl
theorem gp22 : GoodP prog 22 p22 := goodP_tab g22 k22

def c23 : AFn := ⟨1, (.seq (.region 0 [⟨(some 2), .mov, [.c (.slice none 0 0)], none⟩])
  (.seq (.draw 1 [⟨(some 6), .mov, [.t 0], none⟩, ⟨(some 7), .nilc, [.t 6], none⟩, ⟨(some 8), .faddr 6, [.t 7], none⟩, ⟨(some 9), .load none, [.t 8], none⟩, ⟨(some 10), .mov, [.t 0], none⟩, ⟨(some 11), .nilc, [.t 10], none⟩, ⟨(some 12), .faddr 6, [.t 11], none⟩, ⟨(some 13), .load none, [.t 12], none⟩, ⟨(some 14), .call 46 s46, [.t 9, .t 13], none⟩, ⟨(some 5), .mov, [.t 14], none⟩, ⟨(some 15), .ext 0, [.t 5], none⟩, ⟨(some 16), .ext 1, [.t 5], none⟩, ⟨(some 3), .mov, [.t 15], none⟩, ⟨(some 4), .mov, [.t 16], none⟩] [([4, 5, 6, 7], []), ([4, 5, 6, 7], []), ([4, 5, 6, 7], []), ([4, 5, 6, 7], []), ([0, 1, 2, 3], []), ([0, 1, 2, 3], []), ([0, 1, 2, 3], []), ([0, 1, 2, 3], []), ([], []), ([], []), ([11], []), ([10, 12], []), ([11], []), ([], [])])
  (.seq (.region 2 [⟨(some 17), .mov, [.t 3], none⟩, ⟨(some 2), .mov, [.t 17], none⟩])
  .ret))), [.t 2]⟩
def h23 : Hints := ⟨[], callsOf [(46, .spec s46)], [], [], []⟩
theorem hk23 : HOk prog h23 := hok_of ⟨g46, trivial⟩ trivial trivial trivial
theorem e23 : elabF prog h23 [] 23 = some c23 := by kernel_rfl
def s23 : Spec := fspec prog c23
theorem g23 : Good prog 23 s23 := good_fspec hk23 mixed e23
end
end CwT
