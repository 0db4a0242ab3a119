/-
  The functions that the closed run comes to: their code for the evaluator, and that it is theirs.
-/
import Derived.Test.YtmmlgodbknhijaaGreatDoorCwGA
namespace CwT
open Go Cw
set_option maxRecDepth 100000
noncomputable section
def c125 : AFn := ⟨3, (.seq (.region 0 [⟨(some 6), .alloc (some 6) (.agg ⟨[(.int .i64 0), (mkStr [])]⟩), [], none⟩, ⟨(some 7), .mov, [.c (.int .i64 0)], none⟩])
  (.seq (.seq (.region 1 [⟨(some 10), .mov, [.t 1], none⟩, ⟨(some 11), .pcall 196 p196, [.t 10], none⟩, ⟨(some 12), .un .not, [.t 11], none⟩, ⟨(some 13), .mov, [.t 12], none⟩, ⟨(some 14), .mov, [.t 0], (some (13, false))⟩, ⟨(some 15), .mov, [.t 1], (some (13, false))⟩, ⟨(some 16), .pcall 197 p197, [.t 14, .t 15], (some (13, false))⟩, ⟨(some 17), .un .not, [.t 16], (some (13, false))⟩, ⟨(some 18), .pick, [.t 13, .c (.bool true), .t 17], none⟩, ⟨(some 19), .mov, [.t 18], none⟩, ⟨(some 20), .mov, [.t 2], (some (19, false))⟩, ⟨(some 21), .bin .lss 3 true true 0, [.t 20, .c (.int .i64 0)], (some (19, false))⟩, ⟨(some 22), .pick, [.t 19, .c (.bool true), .t 21], none⟩, ⟨(some 23), .mov, [.t 22], none⟩, ⟨(some 24), .mov, [.t 2], (some (23, false))⟩, ⟨(some 25), .mov, [.t 1], (some (23, false))⟩, ⟨(some 26), .bin .mul 3 true true 0, [.c (.int .i64 8), .t 25], (some (23, false))⟩, ⟨(some 27), .bin .shr 3 false true 0, [.t 24, .t 26], (some (23, false))⟩, ⟨(some 28), .bin .gtr 3 true true 0, [.t 27, .c (.int .i64 0)], (some (23, false))⟩, ⟨(some 29), .pick, [.t 23, .c (.bool true), .t 28], none⟩])
  (.cond (.t 29) (.seq (.region 2 [⟨(some 30), .build [(.int .i64 0), (mkStr [])] [], [], none⟩, ⟨none, .store 2, [.t 6, .t 30], none⟩, ⟨(some 7), .mov, [.c (.int .i64 1)], none⟩])
  .ret)
  .skip))
  (.seq (.region 3 [⟨(some 31), .mov, [.t 1], none⟩, ⟨(some 32), .mkslice 1 1 [(.int .u8 0)], [.t 31, .t 31], none⟩, ⟨(some 8), .mov, [.t 32], none⟩])
  (.seq (.seq (.region 4 [⟨(some 33), .mov, [.t 8], none⟩, ⟨(some 34), .lenV, [.t 33], none⟩, ⟨(some 35), .mov, [.c (.int .i64 0)], none⟩])
  (.block 0 (.loop [0, 2, 6, 8, 34, 35] [6] (.seq (.region 5 [⟨(some 36), .bin .lss 3 false true 0, [.t 35, .t 34], none⟩])
  (.seq (.cond (.t 36) .skip
  (.exit 0))
  (.seq (.block 1 (.seq (.region 6 [⟨(some 37), .mov, [.t 35], none⟩, ⟨(some 9), .mov, [.t 37], none⟩])
  (.region 7 [⟨(some 38), .mov, [.t 8], none⟩, ⟨(some 39), .mov, [.t 9], none⟩, ⟨(some 40), .mov, [.t 2], none⟩, ⟨(some 41), .mov, [.t 9], none⟩, ⟨(some 42), .bin .mul 3 true true 0, [.c (.int .i64 8), .t 41], none⟩, ⟨(some 43), .bin .shr 3 false true 0, [.t 40, .t 42], none⟩, ⟨(some 44), .convI .u8, [.t 43], none⟩, ⟨(some 45), .iaddrS 1, [.t 38, .t 39], none⟩, ⟨none, .store 1, [.t 45, .t 44], none⟩])))
  (.region 8 [⟨(some 46), .bin .add 3 true true 0, [.t 35, .c (.int .i64 1)], none⟩, ⟨(some 35), .mov, [.t 46], none⟩])))))))
  (.seq (.region 9 [⟨(some 47), .mov, [.t 0], none⟩, ⟨(some 48), .mov, [.t 8], none⟩, ⟨(some 49), .convBS, [.t 48], none⟩, ⟨(some 50), .build [(.int .i64 0), (mkStr [])] [(0, 1), (1, 1)], [.t 47, .t 49], none⟩, ⟨none, .store 2, [.t 6, .t 50], none⟩, ⟨(some 7), .mov, [.c (.int .i64 0)], none⟩])
  .ret))))), [.cell 6 (some 2), .t 7]⟩
def h125 : Hints := ⟨[6], callsOf [(196, .pure p196), (197, .pure p197)], [], [], []⟩
theorem hk125 : HOk prog h125 := hok_of ⟨gp196, gp197, trivial⟩ trivial trivial trivial
theorem e125 : elabF prog h125 [([0, 2, 6, 8, 34, 35], [6])] 125 = some c125 := by kernel_rfl
def s125 : Spec := fspec prog c125
theorem g125 : Good prog 125 s125 := good_fspec hk125 mixed e125
def t125 : List (List Value × Res) := [([(.int .i64 0), (.int .i64 1), (.int .i64 2)], (.ret (.tuple ⟨[(.agg ⟨[(.int .i64 0), (mkStr [2])]⟩), (.int .i64 0)]⟩))),
  ([(.int .i64 0), (.int .i64 4), (.int .i64 0)], (.ret (.tuple ⟨[(.agg ⟨[(.int .i64 0), (mkStr [0, 0, 0, 0])]⟩), (.int .i64 0)]⟩))),
  ([(.int .i64 1), (.int .i64 1), (.int .i64 1)], (.ret (.tuple ⟨[(.agg ⟨[(.int .i64 1), (mkStr [1])]⟩), (.int .i64 0)]⟩))),
  ([(.int .i64 10), (.int .i64 2), (.int .i64 0)], (.ret (.tuple ⟨[(.agg ⟨[(.int .i64 10), (mkStr [0, 0])]⟩), (.int .i64 0)]⟩))),
  ([(.int .i64 12), (.int .i64 2), (.int .i64 0)], (.ret (.tuple ⟨[(.agg ⟨[(.int .i64 12), (mkStr [0, 0])]⟩), (.int .i64 0)]⟩))),
  ([(.int .i64 14), (.int .i64 2), (.int .i64 0)], (.ret (.tuple ⟨[(.agg ⟨[(.int .i64 14), (mkStr [0, 0])]⟩), (.int .i64 0)]⟩))),
  ([(.int .i64 16), (.int .i64 2), (.int .i64 0)], (.ret (.tuple ⟨[(.agg ⟨[(.int .i64 16), (mkStr [0, 0])]⟩), (.int .i64 0)]⟩))),
  ([(.int .i64 18), (.int .i64 2), (.int .i64 0)], (.ret (.tuple ⟨[(.agg ⟨[(.int .i64 18), (mkStr [0, 0])]⟩), (.int .i64 0)]⟩))),
  ([(.int .i64 2), (.int .i64 2), (.int .i64 0)], (.ret (.tuple ⟨[(.agg ⟨[(.int .i64 2), (mkStr [0, 0])]⟩), (.int .i64 0)]⟩))),
  ([(.int .i64 20), (.int .i64 2), (.int .i64 0)], (.ret (.tuple ⟨[(.agg ⟨[(.int .i64 20), (mkStr [0, 0])]⟩), (.int .i64 0)]⟩))),
  ([(.int .i64 22), (.int .i64 2), (.int .i64 0)], (.ret (.tuple ⟨[(.agg ⟨[(.int .i64 22), (mkStr [0, 0])]⟩), (.int .i64 0)]⟩))),
  ([(.int .i64 24), (.int .i64 2), (.int .i64 0)], (.ret (.tuple ⟨[(.agg ⟨[(.int .i64 24), (mkStr [0, 0])]⟩), (.int .i64 0)]⟩))),
  ([(.int .i64 4), (.int .i64 2), (.int .i64 1)], (.ret (.tuple ⟨[(.agg ⟨[(.int .i64 4), (mkStr [1, 0])]⟩), (.int .i64 0)]⟩))),
  ([(.int .i64 4), (.int .i64 4), (.int .i64 0)], (.ret (.tuple ⟨[(.agg ⟨[(.int .i64 4), (mkStr [0, 0, 0, 0])]⟩), (.int .i64 0)]⟩))),
  ([(.int .i64 6), (.int .i64 2), (.int .i64 1)], (.ret (.tuple ⟨[(.agg ⟨[(.int .i64 6), (mkStr [1, 0])]⟩), (.int .i64 0)]⟩))),
  ([(.int .i64 8), (.int .i64 2), (.int .i64 0)], (.ret (.tuple ⟨[(.agg ⟨[(.int .i64 8), (mkStr [0, 0])]⟩), (.int .i64 0)]⟩))),
  ([(.int .i64 8), (.int .i64 4), (.int .i64 0)], (.ret (.tuple ⟨[(.agg ⟨[(.int .i64 8), (mkStr [0, 0, 0, 0])]⟩), (.int .i64 0)]⟩)))]
def p125 : PSpec := tab t125
theorem k125 : tabOk s125 t125 = true := by kernel_rfl
theorem gp125 : GoodP prog 125 p125 := goodP_tab g125 k125

def c178 : AFn := ⟨1, (.seq (.region 0 [⟨(some 2), .mov, [.c (mkStr [])], none⟩])
  (.seq (.region 1 [⟨(some 3), .mov, [.t 0], none⟩, ⟨(some 4), .mov, [.t 0], none⟩, ⟨(some 5), .lenS, [.t 4], none⟩, ⟨(some 6), .bin .sub 3 true true 0, [.c (.int .i64 64), .t 5], none⟩, ⟨(some 7), .pcall 106 p106, [.c (mkStr [0]), .t 6], none⟩, ⟨(some 8), .bin .add 9 false true 0, [.t 3, .t 7], none⟩, ⟨(some 2), .mov, [.t 8], none⟩])
  .ret)), [.t 2]⟩
def h178 : Hints := ⟨[], callsOf [(106, .pure p106)], [], [], []⟩
theorem hk178 : HOk prog h178 := hok_of ⟨gp106, trivial⟩ trivial trivial trivial
theorem e178 : elabF prog h178 [] 178 = some c178 := by kernel_rfl
def s178 : Spec := fspec prog c178
theorem g178 : Good prog 178 s178 := good_fspec hk178 mixed e178
def t178 : List (List Value × Res) := [([(mkStr [67, 85, 84, 87, 1, 2, 3])], (.ret (mkStr [67, 85, 84, 87, 1, 2, 3, 0, 0, 0, 0, 0, 0, 0, 0, 0, 0, 0, 0, 0, 0, 0, 0, 0, 0, 0, 0, 0, 0, 0, 0, 0, 0, 0, 0, 0, 0, 0, 0, 0, 0, 0, 0, 0, 0, 0, 0, 0, 0, 0, 0, 0, 0, 0, 0, 0, 0, 0, 0, 0, 0, 0, 0, 0]))),
  ([(mkStr [70, 69, 78, 67, 0, 0, 0, 0, 0, 0, 0, 0])], (.ret (mkStr [70, 69, 78, 67, 0, 0, 0, 0, 0, 0, 0, 0, 0, 0, 0, 0, 0, 0, 0, 0, 0, 0, 0, 0, 0, 0, 0, 0, 0, 0, 0, 0, 0, 0, 0, 0, 0, 0, 0, 0, 0, 0, 0, 0, 0, 0, 0, 0, 0, 0, 0, 0, 0, 0, 0, 0, 0, 0, 0, 0, 0, 0, 0, 0])))]
def p178 : PSpec := tab t178
theorem k178 : tabOk s178 t178 = true := by kernel_rfl
theorem gp178 : GoodP prog 178 p178 := goodP_tab g178 k178

def c108 : AFn := ⟨1, (.seq (.region 0 [⟨(some 1), .box (some 1), [.t 0], none⟩, ⟨(some 2), .mov, [.c (mkStr [])], none⟩])
  (.seq (.region 1 [⟨(some 3), .mov, [.c (mkStr [70, 69, 78, 67])], none⟩])
  (.seq (.seq (.region 2 [⟨(some 8), .load (some 2), [.t 1], none⟩, ⟨(some 9), .mov, [.c (.int .i64 0)], none⟩])
  (.block 0 (.loop [3, 8, 9] [] (.seq (.region 3 [⟨(some 10), .bin .lss 3 true true 0, [.t 9, .c (.int .i64 2)], none⟩])
  (.seq (.cond (.t 10) .skip
  (.exit 0))
  (.seq (.block 1 (.seq (.region 4 [⟨(some 11), .idxA 2 1 none, [.t 8, .t 9], none⟩, ⟨(some 5), .mov, [.t 11], none⟩])
  (.seq (.region 5 [⟨(some 13), .mov, [.t 5], none⟩, ⟨(some 14), .pcall 125 p125, [.c (.int .i64 0), .c (.int .i64 4), .t 13], none⟩, ⟨(some 12), .mov, [.t 14], none⟩, ⟨(some 15), .ext 0, [.t 12], none⟩, ⟨(some 16), .ext 1, [.t 12], none⟩, ⟨(some 6), .alloc (some 6) (.agg ⟨[(.int .i64 0), (mkStr [])]⟩), [], none⟩, ⟨none, .store 2, [.t 6, .t 15], none⟩, ⟨(some 7), .mov, [.t 16], none⟩])
  (.region 6 [⟨(some 17), .mov, [.t 3], none⟩, ⟨(some 18), .faddr 1, [.t 6], none⟩, ⟨(some 19), .load none, [.t 18], none⟩, ⟨(some 20), .bin .add 9 false true 0, [.t 17, .t 19], none⟩, ⟨(some 3), .mov, [.t 20], none⟩]))))
  (.region 7 [⟨(some 21), .bin .add 3 true true 0, [.t 9, .c (.int .i64 1)], none⟩, ⟨(some 9), .mov, [.t 21], none⟩])))))))
  (.seq (.region 8 [⟨(some 22), .mov, [.t 3], none⟩, ⟨(some 23), .pcall 178 p178, [.t 22], none⟩, ⟨(some 2), .mov, [.t 23], none⟩])
  .ret)))), [.t 2]⟩
def h108 : Hints := ⟨[1, 6], callsOf [(125, .pure p125), (178, .pure p178)], [], [], []⟩
theorem hk108 : HOk prog h108 := hok_of ⟨gp125, gp178, trivial⟩ trivial trivial trivial
theorem e108 : elabF prog h108 [([3, 8, 9], [])] 108 = some c108 := by kernel_rfl
def s108 : Spec := fspec prog c108
theorem g108 : Good prog 108 s108 := good_fspec hk108 mixed e108
def t108 : List (List Value × Res) := [([(.agg ⟨[(.int .i64 0), (.int .i64 0)]⟩)], (.ret (mkStr [70, 69, 78, 67, 0, 0, 0, 0, 0, 0, 0, 0, 0, 0, 0, 0, 0, 0, 0, 0, 0, 0, 0, 0, 0, 0, 0, 0, 0, 0, 0, 0, 0, 0, 0, 0, 0, 0, 0, 0, 0, 0, 0, 0, 0, 0, 0, 0, 0, 0, 0, 0, 0, 0, 0, 0, 0, 0, 0, 0, 0, 0, 0, 0])))]
def p108 : PSpec := tab t108
theorem k108 : tabOk s108 t108 = true := by kernel_rfl
theorem gp108 : GoodP prog 108 p108 := goodP_tab g108 k108

def c58 : AFn := ⟨1, (.seq (.region 0 [⟨(some 1), .box (some 1), [.t 0], none⟩, ⟨(some 2), .mov, [.c (mkStr [])], none⟩, ⟨(some 3), .mov, [.c (.int .i64 0)], none⟩])
  (.seq (.seq (.region 1 [⟨(some 4), .iaddrA 2 1, [.t 1, .c (.int .i64 0)], none⟩, ⟨(some 5), .load none, [.t 4], none⟩, ⟨(some 6), .pcall 107 p107, [.t 5], none⟩, ⟨(some 7), .un .not, [.t 6], none⟩, ⟨(some 8), .mov, [.t 7], none⟩, ⟨(some 9), .iaddrA 2 1, [.t 1, .c (.int .i64 1)], (some (8, false))⟩, ⟨(some 10), .load none, [.t 9], (some (8, false))⟩, ⟨(some 11), .pcall 107 p107, [.t 10], (some (8, false))⟩, ⟨(some 12), .un .not, [.t 11], (some (8, false))⟩, ⟨(some 13), .pick, [.t 8, .c (.bool true), .t 12], none⟩])
  (.cond (.t 13) (.seq (.region 2 [⟨(some 2), .mov, [.c (mkStr [])], none⟩, ⟨(some 3), .mov, [.c (.int .i64 1)], none⟩])
  .ret)
  .skip))
  (.seq (.region 3 [⟨(some 14), .load (some 2), [.t 1], none⟩, ⟨(some 15), .pcall 108 p108, [.t 14], none⟩, ⟨(some 2), .mov, [.t 15], none⟩, ⟨(some 3), .mov, [.c (.int .i64 0)], none⟩])
  .ret))), [.t 2, .t 3]⟩
def h58 : Hints := ⟨[1], callsOf [(107, .pure p107), (108, .pure p108)], [], [], []⟩
theorem hk58 : HOk prog h58 := hok_of ⟨gp107, gp108, trivial⟩ trivial trivial trivial
theorem e58 : elabF prog h58 [] 58 = some c58 := by kernel_rfl
def s58 : Spec := fspec prog c58
theorem g58 : Good prog 58 s58 := good_fspec hk58 mixed e58
def t58 : List (List Value × Res) := [([(.agg ⟨[(.int .i64 0), (.int .i64 0)]⟩)], (.ret (.tuple ⟨[(mkStr [70, 69, 78, 67, 0, 0, 0, 0, 0, 0, 0, 0, 0, 0, 0, 0, 0, 0, 0, 0, 0, 0, 0, 0, 0, 0, 0, 0, 0, 0, 0, 0, 0, 0, 0, 0, 0, 0, 0, 0, 0, 0, 0, 0, 0, 0, 0, 0, 0, 0, 0, 0, 0, 0, 0, 0, 0, 0, 0, 0, 0, 0, 0, 0]), (.int .i64 0)]⟩)))]
def p58 : PSpec := tab t58
theorem k58 : tabOk s58 t58 = true := by kernel_rfl
theorem gp58 : GoodP prog 58 p58 := goodP_tab g58 k58

def c26 : AFn := ⟨1, (.seq (.region 0 [⟨(some 2), .mov, [.c (.pointer none)], none⟩, ⟨(some 3), .mov, [.c (.int .i64 0)], none⟩])
  (.seq (.seq (.region 1 [⟨(some 5), .mov, [.t 0], none⟩, ⟨(some 6), .bin .lss 3 true true 0, [.t 5, .c (.int .i64 2)], none⟩, ⟨(some 7), .mov, [.t 6], none⟩, ⟨(some 8), .mov, [.t 0], (some (7, false))⟩, ⟨(some 9), .bin .gtr 3 true true 0, [.t 8, .c (.int .i64 2048)], (some (7, false))⟩, ⟨(some 10), .pick, [.t 7, .c (.bool true), .t 9], none⟩])
  (.cond (.t 10) (.seq (.region 2 [⟨(some 2), .mov, [.c (.pointer none)], none⟩, ⟨(some 3), .mov, [.c (.int .i64 1)], none⟩])
  .ret)
  .skip))
  (.seq (.region 3 [⟨(some 11), .mkmap, [], none⟩, ⟨(some 12), .build [(.slice none 0 0), (.map none), (.int .i64 0)] [(1, 1)], [.t 11], none⟩, ⟨(some 13), .box none, [.t 12], none⟩, ⟨(some 4), .mov, [.t 13], none⟩])
  (.seq (.seq (.region 4 [⟨(some 14), .mov, [.t 0], none⟩, ⟨(some 15), .mov, [.c (.int .i64 0)], none⟩])
  (.block 0 (.loop [4, 14, 15] [] (.seq (.region 5 [⟨(some 16), .bin .lss 3 false true 0, [.t 15, .t 14], none⟩])
  (.seq (.cond (.t 16) .skip
  (.exit 0))
  (.seq (.block 1 (.draw 6 [⟨(some 17), .mov, [.t 4], none⟩, ⟨(some 18), .mov, [.t 4], none⟩, ⟨(some 19), .nilc, [.t 18], none⟩, ⟨(some 20), .faddr 0, [.t 19], none⟩, ⟨(some 21), .load none, [.t 20], none⟩, ⟨(some 22), .pcall 57 p57, [], none⟩, ⟨(some 23), .bslice (some 23) 1 1 [(mkStr [])] [(0, 1)], [.t 22], none⟩, ⟨(some 24), .append 1 16, [.t 21, .t 23], none⟩, ⟨(some 25), .nilc, [.t 17], none⟩, ⟨(some 26), .faddr 0, [.t 25], none⟩, ⟨none, .store 1, [.t 26, .t 24], none⟩] [([1, 2, 3, 4, 5, 6, 7], []), ([0, 5, 6], []), ([0, 5, 6], []), ([0, 5, 6], []), ([0, 5, 6], []), ([0, 1, 2, 3, 4], []), ([0, 1, 2, 3, 4], []), ([0], []), ([], []), ([], []), ([], [])]))
  (.region 7 [⟨(some 27), .bin .add 3 true true 0, [.t 15, .c (.int .i64 1)], none⟩, ⟨(some 15), .mov, [.t 27], none⟩])))))))
  (.seq (.draw 8 [⟨(some 29), .mov, [.t 4], none⟩, ⟨(some 30), .nilc, [.t 29], none⟩, ⟨(some 31), .faddr 0, [.t 30], none⟩, ⟨(some 32), .load none, [.t 31], none⟩, ⟨(some 33), .build [(.int .i64 0), (.int .i64 0)] [], [], none⟩, ⟨(some 34), .pcall 58 p58, [.t 33], none⟩, ⟨(some 28), .mov, [.t 34], none⟩, ⟨(some 35), .ext 0, [.t 28], none⟩, ⟨(some 36), .ext 1, [.t 28], none⟩, ⟨(some 37), .iaddrS 1, [.t 32, .c (.int .i64 1)], none⟩, ⟨none, .store 1, [.t 37, .t 35], none⟩] [([4, 5, 6, 7, 8], []), ([4, 5, 6, 7, 8], []), ([4, 5, 6, 7, 8], []), ([4, 5, 6, 7, 8], []), ([0, 1, 2, 3], []), ([0, 1, 2, 3], []), ([0, 1, 2, 3], []), ([0, 1, 2, 3, 8], []), ([0, 1, 2, 3, 7, 9, 10], []), ([8], []), ([8], [])])
  (.seq (.region 9 [⟨(some 38), .mov, [.t 4], none⟩, ⟨(some 2), .mov, [.t 38], none⟩, ⟨(some 3), .mov, [.c (.int .i64 0)], none⟩])
  .ret)))))), [.t 2, .t 3]⟩
def h26 : Hints := ⟨[23], callsOf [(57, .pure p57), (58, .pure p58)], [], [], []⟩
theorem hk26 : HOk prog h26 := hok_of ⟨gp57, gp58, trivial⟩ trivial trivial trivial
theorem e26 : elabF prog h26 [([4, 14, 15], [])] 26 = some c26 := by kernel_rfl
def s26 : Spec := fspec prog c26
theorem g26 : Good prog 26 s26 := good_fspec hk26 mixed e26

def c111 : AFn := ⟨1, (.seq (.region 0 [⟨(some 1), .box (some 1), [.t 0], none⟩, ⟨(some 2), .mov, [.c (mkStr [])], none⟩, ⟨(some 3), .mov, [.c (.int .i64 0)], none⟩])
  (.seq (.seq (.region 1 [⟨(some 5), .load (some 3), [.t 1], none⟩, ⟨(some 6), .pcall 89 p89, [.t 5], none⟩, ⟨(some 4), .mov, [.t 6], none⟩])
  (.seq (.region 2 [⟨(some 7), .mov, [.t 4], none⟩, ⟨(some 8), .bin .neq 38 true true 0, [.t 7, .c (.int .i64 0)], none⟩])
  (.cond (.t 8) (.seq (.region 3 [⟨(some 9), .mov, [.t 4], none⟩, ⟨(some 2), .mov, [.c (mkStr [])], none⟩, ⟨(some 3), .mov, [.t 9], none⟩])
  .ret)
  .skip)))
  (.seq (.region 4 [⟨(some 10), .faddr 0, [.t 1], none⟩, ⟨(some 11), .load none, [.t 10], none⟩, ⟨(some 12), .convI .u8, [.t 11], none⟩, ⟨(some 13), .faddr 1, [.t 1], none⟩, ⟨(some 14), .load none, [.t 13], none⟩, ⟨(some 15), .convI .u8, [.t 14], none⟩, ⟨(some 16), .faddr 2, [.t 1], none⟩, ⟨(some 17), .load none, [.t 16], none⟩, ⟨(some 18), .convI .u8, [.t 17], none⟩, ⟨(some 19), .bslice none 1 3 [(.int .u8 0), (.int .u8 0), (.int .u8 0)] [(0, 1), (1, 1), (2, 1)], [.t 12, .t 15, .t 18], none⟩, ⟨(some 20), .convBS, [.t 19], none⟩, ⟨(some 21), .bin .add 9 true true 0, [.c (mkStr [67, 85, 84, 87]), .t 20], none⟩, ⟨(some 22), .pcall 178 p178, [.t 21], none⟩, ⟨(some 2), .mov, [.t 22], none⟩, ⟨(some 3), .mov, [.c (.int .i64 0)], none⟩])
  .ret))), [.t 2, .t 3]⟩
def h111 : Hints := ⟨[1], callsOf [(89, .pure p89), (178, .pure p178)], [], [], []⟩
theorem hk111 : HOk prog h111 := hok_of ⟨gp89, gp178, trivial⟩ trivial trivial trivial
theorem e111 : elabF prog h111 [] 111 = some c111 := by kernel_rfl
def s111 : Spec := fspec prog c111
theorem g111 : Good prog 111 s111 := good_fspec hk111 mixed e111
def t111 : List (List Value × Res) := [([(.agg ⟨[(.int .i64 1), (.int .i64 2), (.int .i64 3)]⟩)], (.ret (.tuple ⟨[(mkStr [67, 85, 84, 87, 1, 2, 3, 0, 0, 0, 0, 0, 0, 0, 0, 0, 0, 0, 0, 0, 0, 0, 0, 0, 0, 0, 0, 0, 0, 0, 0, 0, 0, 0, 0, 0, 0, 0, 0, 0, 0, 0, 0, 0, 0, 0, 0, 0, 0, 0, 0, 0, 0, 0, 0, 0, 0, 0, 0, 0, 0, 0, 0, 0]), (.int .i64 0)]⟩)))]
def p111 : PSpec := tab t111
theorem k111 : tabOk s111 t111 = true := by kernel_rfl
theorem gp111 : GoodP prog 111 p111 := goodP_tab g111 k111

def c180 : AFn := ⟨1, (.seq (.region 0 [⟨(some 1), .box (some 1), [.t 0], none⟩, ⟨(some 2), .mov, [.c (.int .i64 0)], none⟩])
  (.seq (.region 1 [⟨(some 3), .load (some 3), [.t 1], none⟩, ⟨(some 4), .pcall 109 p109, [.t 3], none⟩, ⟨(some 5), .bin .add 3 true true 0, [.t 4, .c (.int .i64 16)], none⟩, ⟨(some 6), .bin .sub 3 true true 0, [.t 5, .c (.int .i64 1)], none⟩, ⟨(some 7), .bin .quo 3 true true 0, [.t 6, .c (.int .i64 16)], none⟩, ⟨(some 2), .mov, [.t 7], none⟩])
  .ret)), [.t 2]⟩
def h180 : Hints := ⟨[1], callsOf [(109, .pure p109)], [], [], []⟩
theorem hk180 : HOk prog h180 := hok_of ⟨gp109, trivial⟩ trivial trivial trivial
theorem e180 : elabF prog h180 [] 180 = some c180 := by kernel_rfl
def s180 : Spec := fspec prog c180
theorem g180 : Good prog 180 s180 := good_fspec hk180 mixed e180
def t180 : List (List Value × Res) := [([(.agg ⟨[(.int .i64 1), (.int .i64 2), (.int .i64 3)]⟩)], (.ret (.int .i64 1)))]
def p180 : PSpec := tab t180
theorem k180 : tabOk s180 t180 = true := by kernel_rfl
theorem gp180 : GoodP prog 180 p180 := goodP_tab g180 k180

def c183 : AFn := ⟨3, (.seq (.region 0 [⟨(some 3), .box (some 3), [.t 0], none⟩, ⟨(some 6), .mov, [.c (.int .i64 0)], none⟩])
  (.seq (.block 0 (.seq (.region 1 [⟨(some 8), .load (some 3), [.t 3], none⟩, ⟨(some 9), .pcall 59 p59, [.t 8], none⟩, ⟨(some 10), .un .not, [.t 9], none⟩, ⟨(some 7), .mov, [.t 10], none⟩])
  (.cond (.t 7) (.seq (.region 2 [⟨(some 6), .mov, [.c (.int .i64 4)], none⟩])
  .ret)
  (.seq (.region 3 [⟨(some 12), .mov, [.t 1], none⟩, ⟨(some 13), .bin .lss 3 true true 0, [.t 12, .c (.int .i64 0)], none⟩, ⟨(some 14), .mov, [.t 13], none⟩, ⟨(some 15), .mov, [.t 1], (some (14, false))⟩, ⟨(some 16), .mov, [.t 2], (some (14, false))⟩, ⟨(some 17), .bin .geq 3 false true 0, [.t 15, .t 16], (some (14, false))⟩, ⟨(some 18), .pick, [.t 14, .c (.bool true), .t 17], none⟩, ⟨(some 11), .mov, [.t 18], none⟩])
  (.cond (.t 11) (.seq (.region 4 [⟨(some 6), .mov, [.c (.int .i64 1)], none⟩])
  .ret)
  .skip)))))
  (.seq (.region 5 [⟨(some 6), .mov, [.c (.int .i64 0)], none⟩])
  .ret))), [.t 6]⟩
def h183 : Hints := ⟨[3], callsOf [(59, .pure p59)], [], [], []⟩
theorem hk183 : HOk prog h183 := hok_of ⟨gp59, trivial⟩ trivial trivial trivial
theorem e183 : elabF prog h183 [] 183 = some c183 := by kernel_rfl
def s183 : Spec := fspec prog c183
theorem g183 : Good prog 183 s183 := good_fspec hk183 mixed e183
def t183 : List (List Value × Res) := [([(.agg ⟨[(.int .i64 1), (.int .i64 2), (.int .i64 3)]⟩), (.int .i64 0), (.int .i64 1)], (.ret (.int .i64 0))),
  ([(.agg ⟨[(.int .i64 1), (.int .i64 2), (.int .i64 3)]⟩), (.int .i64 0), (.int .i64 10)], (.ret (.int .i64 0))),
  ([(.agg ⟨[(.int .i64 1), (.int .i64 2), (.int .i64 3)]⟩), (.int .i64 0), (.int .i64 3)], (.ret (.int .i64 0))),
  ([(.agg ⟨[(.int .i64 1), (.int .i64 2), (.int .i64 3)]⟩), (.int .i64 1), (.int .i64 3)], (.ret (.int .i64 0))),
  ([(.agg ⟨[(.int .i64 1), (.int .i64 2), (.int .i64 3)]⟩), (.int .i64 2), (.int .i64 3)], (.ret (.int .i64 0)))]
def p183 : PSpec := tab t183
theorem k183 : tabOk s183 t183 = true := by kernel_rfl
theorem gp183 : GoodP prog 183 p183 := goodP_tab g183 k183

def c255 : AFn := ⟨2, (.seq (.region 0 [⟨(some 2), .box (some 2), [.t 0], none⟩, ⟨(some 4), .mov, [.c (.int .i64 0)], none⟩, ⟨(some 5), .mov, [.c (.int .i64 0)], none⟩, ⟨(some 6), .mov, [.c (.int .i64 0)], none⟩])
  (.seq (.seq (.draw 1 [⟨(some 8), .load (some 3), [.t 2], none⟩, ⟨(some 9), .mov, [.t 1], none⟩, ⟨(some 10), .load (some 3), [.t 2], none⟩, ⟨(some 11), .pcall 109 p109, [.t 10], none⟩, ⟨(some 12), .pcall 183 p183, [.t 8, .t 9, .t 11], none⟩, ⟨(some 7), .mov, [.t 12], none⟩] [([1, 2, 3], []), ([0, 2, 3], []), ([0, 1], []), ([0, 1], []), ([], []), ([], [])])
  (.seq (.region 2 [⟨(some 13), .mov, [.t 7], none⟩, ⟨(some 14), .bin .neq 38 true true 0, [.t 13, .c (.int .i64 0)], none⟩])
  (.cond (.t 14) (.seq (.region 3 [⟨(some 15), .mov, [.t 7], none⟩, ⟨(some 4), .mov, [.c (.int .i64 0)], none⟩, ⟨(some 5), .mov, [.c (.int .i64 0)], none⟩, ⟨(some 6), .mov, [.t 15], none⟩])
  .ret)
  .skip)))
  (.seq (.region 4 [⟨(some 16), .mov, [.t 1], none⟩, ⟨(some 17), .bin .quo 3 true true 0, [.t 16, .c (.int .i64 16)], none⟩, ⟨(some 18), .bin .add 3 true true 0, [.c (.int .i64 2), .t 17], none⟩, ⟨(some 19), .mov, [.t 1], none⟩, ⟨(some 20), .bin .rem 3 true true 0, [.t 19, .c (.int .i64 16)], none⟩, ⟨(some 21), .bin .mul 3 true true 0, [.t 20, .c (.int .i64 4)], none⟩, ⟨(some 4), .mov, [.t 18], none⟩, ⟨(some 5), .mov, [.t 21], none⟩, ⟨(some 6), .mov, [.c (.int .i64 0)], none⟩])
  .ret))), [.t 4, .t 5, .t 6]⟩
def h255 : Hints := ⟨[2], callsOf [(109, .pure p109), (183, .pure p183)], [], [], []⟩
theorem hk255 : HOk prog h255 := hok_of ⟨gp109, gp183, trivial⟩ trivial trivial trivial
theorem e255 : elabF prog h255 [] 255 = some c255 := by kernel_rfl
def s255 : Spec := fspec prog c255
theorem g255 : Good prog 255 s255 := good_fspec hk255 mixed e255
def t255 : List (List Value × Res) := [([(.agg ⟨[(.int .i64 1), (.int .i64 2), (.int .i64 3)]⟩), (.int .i64 0)], (.ret (.tuple ⟨[(.int .i64 2), (.int .i64 0), (.int .i64 0)]⟩))),
  ([(.agg ⟨[(.int .i64 1), (.int .i64 2), (.int .i64 3)]⟩), (.int .i64 1)], (.ret (.tuple ⟨[(.int .i64 2), (.int .i64 4), (.int .i64 0)]⟩))),
  ([(.agg ⟨[(.int .i64 1), (.int .i64 2), (.int .i64 3)]⟩), (.int .i64 2)], (.ret (.tuple ⟨[(.int .i64 2), (.int .i64 8), (.int .i64 0)]⟩)))]
def p255 : PSpec := tab t255
theorem k255 : tabOk s255 t255 = true := by kernel_rfl
theorem gp255 : GoodP prog 255 p255 := goodP_tab g255 k255

def c256 : AFn := ⟨1, (.seq (.region 0 [⟨(some 1), .box (some 1), [.t 0], none⟩, ⟨(some 2), .mov, [.c (.bool false)], none⟩])
  (.seq (.region 1 [⟨(some 3), .faddr 0, [.t 1], none⟩, ⟨(some 4), .load none, [.t 3], none⟩, ⟨(some 5), .bin .geq 3 true true 0, [.t 4, .c (.int .i64 0)], none⟩, ⟨(some 6), .mov, [.t 5], none⟩, ⟨(some 7), .faddr 0, [.t 1], (some (6, true))⟩, ⟨(some 8), .load none, [.t 7], (some (6, true))⟩, ⟨(some 9), .bin .leq 3 true true 0, [.t 8, .c (.int .i64 2)], (some (6, true))⟩, ⟨(some 10), .pick, [.t 6, .t 9, .c (.bool false)], none⟩, ⟨(some 11), .mov, [.t 10], none⟩, ⟨(some 12), .faddr 1, [.t 1], (some (11, true))⟩, ⟨(some 13), .load none, [.t 12], (some (11, true))⟩, ⟨(some 14), .bin .geq 3 true true 0, [.t 13, .c (.int .i64 0)], (some (11, true))⟩, ⟨(some 15), .pick, [.t 11, .t 14, .c (.bool false)], none⟩, ⟨(some 16), .mov, [.t 15], none⟩, ⟨(some 17), .faddr 1, [.t 1], (some (16, true))⟩, ⟨(some 18), .load none, [.t 17], (some (16, true))⟩, ⟨(some 19), .bin .leq 3 true true 0, [.t 18, .c (.int .i64 16777215)], (some (16, true))⟩, ⟨(some 20), .pick, [.t 16, .t 19, .c (.bool false)], none⟩, ⟨(some 2), .mov, [.t 20], none⟩])
  .ret)), [.t 2]⟩
def h256 : Hints := ⟨[1], callsOf [], [], [], []⟩
theorem hk256 : HOk prog h256 := hok_of trivial trivial trivial trivial
theorem e256 : elabF prog h256 [] 256 = some c256 := by kernel_rfl
def s256 : Spec := fspec prog c256
theorem g256 : Good prog 256 s256 := good_fspec hk256 mixed e256
def t256 : List (List Value × Res) := [([(.agg ⟨[(.int .i64 0), (.int .i64 0)]⟩)], (.ret (.bool true)))]
def p256 : PSpec := tab t256
theorem k256 : tabOk s256 t256 = true := by kernel_rfl
theorem gp256 : GoodP prog 256 p256 := goodP_tab g256 k256

def c181 : AFn := ⟨3, (.seq (.region 0 [⟨(some 3), .box (some 3), [.t 0], none⟩, ⟨(some 5), .box (some 5), [.t 2], none⟩, ⟨(some 6), .mov, [.c (.int .i64 0)], none⟩, ⟨(some 7), .alloc (some 7) (.agg ⟨[(.int .i64 0), (mkStr [])]⟩), [], none⟩, ⟨(some 8), .mov, [.c (.int .i64 0)], none⟩])
  (.seq (.region 1 [⟨(some 11), .load (some 3), [.t 3], none⟩, ⟨(some 12), .mov, [.t 1], none⟩, ⟨(some 13), .pcall 255 p255, [.t 11, .t 12], none⟩, ⟨(some 10), .mov, [.t 13], none⟩, ⟨(some 14), .ext 0, [.t 10], none⟩, ⟨(some 15), .ext 1, [.t 10], none⟩, ⟨(some 16), .ext 2, [.t 10], none⟩, ⟨(some 6), .mov, [.t 14], none⟩, ⟨(some 9), .mov, [.t 15], none⟩, ⟨(some 8), .mov, [.t 16], none⟩])
  (.seq (.block 0 (.seq (.region 2 [⟨(some 18), .mov, [.t 8], none⟩, ⟨(some 19), .bin .neq 38 true true 0, [.t 18, .c (.int .i64 0)], none⟩, ⟨(some 17), .mov, [.t 19], none⟩])
  (.cond (.t 17) (.seq (.region 3 [⟨(some 20), .build [(.int .i64 0), (mkStr [])] [], [], none⟩, ⟨(some 21), .mov, [.t 8], none⟩, ⟨(some 6), .mov, [.c (.int .i64 0)], none⟩, ⟨none, .store 2, [.t 7, .t 20], none⟩, ⟨(some 8), .mov, [.t 21], none⟩])
  .ret)
  (.seq (.region 4 [⟨(some 23), .load (some 2), [.t 5], none⟩, ⟨(some 24), .pcall 256 p256, [.t 23], none⟩, ⟨(some 25), .un .not, [.t 24], none⟩, ⟨(some 22), .mov, [.t 25], none⟩])
  (.cond (.t 22) (.seq (.region 5 [⟨(some 26), .build [(.int .i64 0), (mkStr [])] [], [], none⟩, ⟨(some 6), .mov, [.c (.int .i64 0)], none⟩, ⟨none, .store 2, [.t 7, .t 26], none⟩, ⟨(some 8), .mov, [.c (.int .i64 80)], none⟩])
  .ret)
  .skip)))))
  (.seq (.region 6 [⟨(some 28), .mov, [.t 9], none⟩, ⟨(some 29), .faddr 0, [.t 5], none⟩, ⟨(some 30), .load none, [.t 29], none⟩, ⟨(some 31), .faddr 1, [.t 5], none⟩, ⟨(some 32), .load none, [.t 31], none⟩, ⟨(some 33), .bin .shl 3 true true 0, [.t 32, .c (.int .u64 8)], none⟩, ⟨(some 34), .bin .or 3 false true 0, [.t 30, .t 33], none⟩, ⟨(some 35), .pcall 125 p125, [.t 28, .c (.int .i64 4), .t 34], none⟩, ⟨(some 27), .mov, [.t 35], none⟩, ⟨(some 36), .ext 0, [.t 27], none⟩, ⟨(some 37), .ext 1, [.t 27], none⟩, ⟨none, .store 2, [.t 7, .t 36], none⟩, ⟨(some 8), .mov, [.t 37], none⟩])
  (.seq (.draw 7 [⟨(some 38), .mov, [.t 6], none⟩, ⟨(some 39), .load (some 2), [.t 7], none⟩, ⟨(some 40), .mov, [.t 8], none⟩, ⟨(some 6), .mov, [.t 38], none⟩, ⟨none, .store 2, [.t 7, .t 39], none⟩, ⟨(some 8), .mov, [.t 40], none⟩] [([1, 2], []), ([0, 2, 3], []), ([0, 1, 3, 4], []), ([1, 2], []), ([2], []), ([], [])])
  .ret))))), [.t 6, .cell 7 (some 2), .t 8]⟩
def h181 : Hints := ⟨[3, 5, 7], callsOf [(125, .pure p125), (255, .pure p255), (256, .pure p256)], [], [], []⟩
theorem hk181 : HOk prog h181 := hok_of ⟨gp125, gp255, gp256, trivial⟩ trivial trivial trivial
theorem e181 : elabF prog h181 [] 181 = some c181 := by kernel_rfl
def s181 : Spec := fspec prog c181
theorem g181 : Good prog 181 s181 := good_fspec hk181 mixed e181
def t181 : List (List Value × Res) := [([(.agg ⟨[(.int .i64 1), (.int .i64 2), (.int .i64 3)]⟩), (.int .i64 0), (.agg ⟨[(.int .i64 0), (.int .i64 0)]⟩)], (.ret (.tuple ⟨[(.int .i64 2), (.agg ⟨[(.int .i64 0), (mkStr [0, 0, 0, 0])]⟩), (.int .i64 0)]⟩))),
  ([(.agg ⟨[(.int .i64 1), (.int .i64 2), (.int .i64 3)]⟩), (.int .i64 1), (.agg ⟨[(.int .i64 0), (.int .i64 0)]⟩)], (.ret (.tuple ⟨[(.int .i64 2), (.agg ⟨[(.int .i64 4), (mkStr [0, 0, 0, 0])]⟩), (.int .i64 0)]⟩))),
  ([(.agg ⟨[(.int .i64 1), (.int .i64 2), (.int .i64 3)]⟩), (.int .i64 2), (.agg ⟨[(.int .i64 0), (.int .i64 0)]⟩)], (.ret (.tuple ⟨[(.int .i64 2), (.agg ⟨[(.int .i64 8), (mkStr [0, 0, 0, 0])]⟩), (.int .i64 0)]⟩)))]
def p181 : PSpec := tab t181
theorem k181 : tabOk s181 t181 = true := by kernel_rfl
theorem gp181 : GoodP prog 181 p181 := goodP_tab g181 k181

def c202 : AFn := ⟨1, (.seq (.region 0 [⟨(some 1), .box (some 1), [.t 0], none⟩, ⟨(some 2), .mov, [.c (.int .i64 0)], none⟩])
  (.seq (.seq (.region 1 [⟨(some 3), .faddr 0, [.t 1], none⟩, ⟨(some 4), .load none, [.t 3], none⟩, ⟨(some 5), .faddr 1, [.t 1], none⟩, ⟨(some 6), .load none, [.t 5], none⟩, ⟨(some 7), .lenS, [.t 6], none⟩, ⟨(some 8), .pcall 197 p197, [.t 4, .t 7], none⟩, ⟨(some 9), .un .not, [.t 8], none⟩])
  (.cond (.t 9) (.seq (.region 2 [⟨(some 2), .mov, [.c (.int .i64 1)], none⟩])
  .ret)
  .skip))
  (.seq (.region 3 [⟨(some 2), .mov, [.c (.int .i64 0)], none⟩])
  .ret))), [.t 2]⟩
def h202 : Hints := ⟨[1], callsOf [(197, .pure p197)], [], [], []⟩
theorem hk202 : HOk prog h202 := hok_of ⟨gp197, trivial⟩ trivial trivial trivial
theorem e202 : elabF prog h202 [] 202 = some c202 := by kernel_rfl
def s202 : Spec := fspec prog c202
theorem g202 : Good prog 202 s202 := good_fspec hk202 mixed e202
def t202 : List (List Value × Res) := [([(.agg ⟨[(.int .i64 0), (mkStr [0, 0, 0, 0])]⟩)], (.ret (.int .i64 0))),
  ([(.agg ⟨[(.int .i64 0), (mkStr [2])]⟩)], (.ret (.int .i64 0))),
  ([(.agg ⟨[(.int .i64 1), (mkStr [1])]⟩)], (.ret (.int .i64 0))),
  ([(.agg ⟨[(.int .i64 10), (mkStr [0, 0])]⟩)], (.ret (.int .i64 0))),
  ([(.agg ⟨[(.int .i64 12), (mkStr [0, 0])]⟩)], (.ret (.int .i64 0))),
  ([(.agg ⟨[(.int .i64 14), (mkStr [0, 0])]⟩)], (.ret (.int .i64 0))),
  ([(.agg ⟨[(.int .i64 16), (mkStr [0, 0])]⟩)], (.ret (.int .i64 0))),
  ([(.agg ⟨[(.int .i64 18), (mkStr [0, 0])]⟩)], (.ret (.int .i64 0))),
  ([(.agg ⟨[(.int .i64 2), (mkStr [0, 0])]⟩)], (.ret (.int .i64 0))),
  ([(.agg ⟨[(.int .i64 20), (mkStr [0, 0])]⟩)], (.ret (.int .i64 0))),
  ([(.agg ⟨[(.int .i64 22), (mkStr [0, 0])]⟩)], (.ret (.int .i64 0))),
  ([(.agg ⟨[(.int .i64 24), (mkStr [0, 0])]⟩)], (.ret (.int .i64 0))),
  ([(.agg ⟨[(.int .i64 4), (mkStr [0, 0, 0, 0])]⟩)], (.ret (.int .i64 0))),
  ([(.agg ⟨[(.int .i64 4), (mkStr [1, 0])]⟩)], (.ret (.int .i64 0))),
  ([(.agg ⟨[(.int .i64 6), (mkStr [1, 0])]⟩)], (.ret (.int .i64 0))),
  ([(.agg ⟨[(.int .i64 8), (mkStr [0, 0, 0, 0])]⟩)], (.ret (.int .i64 0))),
  ([(.agg ⟨[(.int .i64 8), (mkStr [0, 0])]⟩)], (.ret (.int .i64 0)))]
def p202 : PSpec := tab t202
theorem k202 : tabOk s202 t202 = true := by kernel_rfl
theorem gp202 : GoodP prog 202 p202 := goodP_tab g202 k202
end
end CwT
