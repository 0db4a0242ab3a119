/-
  The functions that the closed run comes to: their code for the evaluator, and that it is theirs.
-/
import Derived.Test.YtmmlgodbknhijaaGreatDoorCwSide
namespace CwT
open Go Cw
set_option maxRecDepth 100000
noncomputable section
def c17 : AFn := ⟨1, (.seq (.region 0 [⟨(some 1), .box (some 1), [.t 0], none⟩, ⟨(some 2), .mov, [.c (.pointer none)], none⟩])
  (.seq (.region 1 [⟨(some 3), .load (some 6), [.t 1], none⟩, ⟨(some 4), .build [(.int .i64 0), (mkStr []), (mkStr []), (.int .i64 0), (.int .i64 0), (mkStr []), (.slice none 0 0), (.int .i64 0), (.int .i64 0), (.int .i64 0), (.int .i64 0), (.int .i64 0), (mkStr []), (.slice none 0 0), (.slice none 0 0)] [(0, 6)], [.t 3], none⟩, ⟨(some 5), .box none, [.t 4], none⟩, ⟨(some 2), .mov, [.t 5], none⟩])
  .ret)), [.t 2]⟩
def h17 : Hints := ⟨[1], callsOf [], [], [], []⟩
theorem hk17 : HOk prog h17 := hok_of trivial trivial trivial trivial
theorem e17 : elabF prog h17 [] 17 = some c17 := by kernel_rfl
def s17 : Spec := fspec prog c17
theorem g17 : Good prog 17 s17 := good_fspec hk17 mixed e17

def c89 : AFn := ⟨1, (.seq (.region 0 [⟨(some 1), .box (some 1), [.t 0], none⟩, ⟨(some 2), .mov, [.c (.int .i64 0)], none⟩])
  (.seq (.seq (.region 1 [⟨(some 3), .faddr 0, [.t 1], none⟩, ⟨(some 4), .load none, [.t 3], none⟩, ⟨(some 5), .faddr 1, [.t 1], none⟩, ⟨(some 6), .load none, [.t 5], none⟩, ⟨(some 7), .faddr 2, [.t 1], none⟩, ⟨(some 8), .load none, [.t 7], none⟩, ⟨(some 9), .minI, [.t 4, .t 6, .t 8], none⟩, ⟨(some 10), .bin .lss 3 true true 0, [.t 9, .c (.int .i64 1)], none⟩, ⟨(some 11), .mov, [.t 10], none⟩, ⟨(some 12), .faddr 0, [.t 1], (some (11, false))⟩, ⟨(some 13), .load none, [.t 12], (some (11, false))⟩, ⟨(some 14), .bin .gtr 3 true true 0, [.t 13, .c (.int .i64 4)], (some (11, false))⟩, ⟨(some 15), .pick, [.t 11, .c (.bool true), .t 14], none⟩, ⟨(some 16), .mov, [.t 15], none⟩, ⟨(some 17), .faddr 1, [.t 1], (some (16, false))⟩, ⟨(some 18), .load none, [.t 17], (some (16, false))⟩, ⟨(some 19), .bin .gtr 3 true true 0, [.t 18, .c (.int .i64 32)], (some (16, false))⟩, ⟨(some 20), .pick, [.t 16, .c (.bool true), .t 19], none⟩, ⟨(some 21), .mov, [.t 20], none⟩, ⟨(some 22), .faddr 2, [.t 1], (some (21, false))⟩, ⟨(some 23), .load none, [.t 22], (some (21, false))⟩, ⟨(some 24), .bin .gtr 3 true true 0, [.t 23, .c (.int .i64 64)], (some (21, false))⟩, ⟨(some 25), .pick, [.t 21, .c (.bool true), .t 24], none⟩])
  (.cond (.t 25) (.seq (.region 2 [⟨(some 2), .mov, [.c (.int .i64 4)], none⟩])
  .ret)
  .skip))
  (.seq (.region 3 [⟨(some 2), .mov, [.c (.int .i64 0)], none⟩])
  .ret))), [.t 2]⟩
def h89 : Hints := ⟨[1], callsOf [], [], [], []⟩
theorem hk89 : HOk prog h89 := hok_of trivial trivial trivial trivial
theorem e89 : elabF prog h89 [] 89 = some c89 := by kernel_rfl
def s89 : Spec := fspec prog c89
theorem g89 : Good prog 89 s89 := good_fspec hk89 mixed e89
def t89 : List (List Value × Res) := [([(.agg ⟨[(.int .i64 1), (.int .i64 2), (.int .i64 3)]⟩)], (.ret (.int .i64 0)))]
def p89 : PSpec := tab t89
theorem k89 : tabOk s89 t89 = true := by kernel_rfl
theorem gp89 : GoodP prog 89 p89 := goodP_tab g89 k89

def c59 : AFn := ⟨1, (.seq (.region 0 [⟨(some 1), .box (some 1), [.t 0], none⟩, ⟨(some 2), .mov, [.c (.bool false)], none⟩])
  (.seq (.region 1 [⟨(some 3), .load (some 3), [.t 1], none⟩, ⟨(some 4), .pcall 89 p89, [.t 3], none⟩, ⟨(some 5), .bin .eql 38 true true 0, [.t 4, .c (.int .i64 0)], none⟩, ⟨(some 2), .mov, [.t 5], none⟩])
  .ret)), [.t 2]⟩
def h59 : Hints := ⟨[1], callsOf [(89, .pure p89)], [], [], []⟩
theorem hk59 : HOk prog h59 := hok_of ⟨gp89, trivial⟩ trivial trivial trivial
theorem e59 : elabF prog h59 [] 59 = some c59 := by kernel_rfl
def s59 : Spec := fspec prog c59
theorem g59 : Good prog 59 s59 := good_fspec hk59 mixed e59
def t59 : List (List Value × Res) := [([(.agg ⟨[(.int .i64 1), (.int .i64 2), (.int .i64 3)]⟩)], (.ret (.bool true)))]
def p59 : PSpec := tab t59
theorem k59 : tabOk s59 t59 = true := by kernel_rfl
theorem gp59 : GoodP prog 59 p59 := goodP_tab g59 k59

def c179 : AFn := ⟨1, (.seq (.region 0 [⟨(some 1), .box (some 1), [.t 0], none⟩, ⟨(some 2), .mov, [.c (.int .i64 0)], none⟩])
  (.seq (.seq (.region 1 [⟨(some 3), .load (some 3), [.t 1], none⟩, ⟨(some 4), .pcall 59 p59, [.t 3], none⟩, ⟨(some 5), .un .not, [.t 4], none⟩])
  (.cond (.t 5) (.seq (.region 2 [⟨(some 2), .mov, [.c (.int .i64 0)], none⟩])
  .ret)
  .skip))
  (.seq (.region 3 [⟨(some 6), .faddr 0, [.t 1], none⟩, ⟨(some 7), .load none, [.t 6], none⟩, ⟨(some 8), .faddr 1, [.t 1], none⟩, ⟨(some 9), .load none, [.t 8], none⟩, ⟨(some 10), .bin .mul 3 false true 0, [.t 7, .t 9], none⟩, ⟨(some 2), .mov, [.t 10], none⟩])
  .ret))), [.t 2]⟩
def h179 : Hints := ⟨[1], callsOf [(59, .pure p59)], [], [], []⟩
theorem hk179 : HOk prog h179 := hok_of ⟨gp59, trivial⟩ trivial trivial trivial
theorem e179 : elabF prog h179 [] 179 = some c179 := by kernel_rfl
def s179 : Spec := fspec prog c179
theorem g179 : Good prog 179 s179 := good_fspec hk179 mixed e179
def t179 : List (List Value × Res) := [([(.agg ⟨[(.int .i64 1), (.int .i64 2), (.int .i64 3)]⟩)], (.ret (.int .i64 2)))]
def p179 : PSpec := tab t179
theorem k179 : tabOk s179 t179 = true := by kernel_rfl
theorem gp179 : GoodP prog 179 p179 := goodP_tab g179 k179

def c109 : AFn := ⟨1, (.seq (.region 0 [⟨(some 1), .box (some 1), [.t 0], none⟩, ⟨(some 2), .mov, [.c (.int .i64 0)], none⟩])
  (.seq (.seq (.region 1 [⟨(some 3), .load (some 3), [.t 1], none⟩, ⟨(some 4), .pcall 59 p59, [.t 3], none⟩, ⟨(some 5), .un .not, [.t 4], none⟩])
  (.cond (.t 5) (.seq (.region 2 [⟨(some 2), .mov, [.c (.int .i64 0)], none⟩])
  .ret)
  .skip))
  (.seq (.draw 3 [⟨(some 6), .faddr 0, [.t 1], none⟩, ⟨(some 7), .load none, [.t 6], none⟩, ⟨(some 8), .load (some 3), [.t 1], none⟩, ⟨(some 9), .pcall 179 p179, [.t 8], none⟩, ⟨(some 10), .bin .add 3 false true 0, [.t 7, .t 9], none⟩, ⟨(some 2), .mov, [.t 10], none⟩] [([2, 3], []), ([2, 3], []), ([0, 1], []), ([0, 1], []), ([], []), ([], [])])
  .ret))), [.t 2]⟩
def h109 : Hints := ⟨[1], callsOf [(59, .pure p59), (179, .pure p179)], [], [], []⟩
theorem hk109 : HOk prog h109 := hok_of ⟨gp59, gp179, trivial⟩ trivial trivial trivial
theorem e109 : elabF prog h109 [] 109 = some c109 := by kernel_rfl
def s109 : Spec := fspec prog c109
theorem g109 : Good prog 109 s109 := good_fspec hk109 mixed e109
def t109 : List (List Value × Res) := [([(.agg ⟨[(.int .i64 1), (.int .i64 2), (.int .i64 3)]⟩)], (.ret (.int .i64 3)))]
def p109 : PSpec := tab t109
theorem k109 : tabOk s109 t109 = true := by kernel_rfl
theorem gp109 : GoodP prog 109 p109 := goodP_tab g109 k109

def c110 : AFn := ⟨1, (.seq (.region 0 [⟨(some 1), .box (some 1), [.t 0], none⟩, ⟨(some 2), .mov, [.c (.int .i64 0)], none⟩])
  (.seq (.region 1 [⟨(some 3), .faddr 1, [.t 1], none⟩, ⟨(some 4), .load none, [.t 3], none⟩, ⟨(some 5), .bin .add 3 true true 0, [.c (.int .i64 2), .t 4], none⟩, ⟨(some 6), .faddr 2, [.t 1], none⟩, ⟨(some 7), .load none, [.t 6], none⟩, ⟨(some 8), .bin .add 3 false true 0, [.t 5, .t 7], none⟩, ⟨(some 2), .mov, [.t 8], none⟩])
  .ret)), [.t 2]⟩
def h110 : Hints := ⟨[1], callsOf [], [], [], []⟩
theorem hk110 : HOk prog h110 := hok_of trivial trivial trivial trivial
theorem e110 : elabF prog h110 [] 110 = some c110 := by kernel_rfl
def s110 : Spec := fspec prog c110
theorem g110 : Good prog 110 s110 := good_fspec hk110 mixed e110
def t110 : List (List Value × Res) := [([(.agg ⟨[(.int .i64 1), (.int .i64 2), (.int .i64 3)]⟩)], (.ret (.int .i64 7)))]
def p110 : PSpec := tab t110
theorem k110 : tabOk s110 t110 = true := by kernel_rfl
theorem gp110 : GoodP prog 110 p110 := goodP_tab g110 k110

def c60 : AFn := ⟨2, (.seq (.region 0 [⟨(some 2), .box (some 2), [.t 0], none⟩, ⟨(some 4), .mov, [.c (.int .i64 0)], none⟩])
  (.seq (.draw 1 [⟨(some 5), .load (some 3), [.t 2], none⟩, ⟨(some 6), .pcall 109 p109, [.t 5], none⟩, ⟨(some 7), .bin .add 3 true true 0, [.t 6, .c (.int .i64 16)], none⟩, ⟨(some 8), .bin .sub 3 true true 0, [.t 7, .c (.int .i64 1)], none⟩, ⟨(some 9), .bin .quo 3 true true 0, [.t 8, .c (.int .i64 16)], none⟩, ⟨(some 10), .bin .add 3 true true 0, [.c (.int .i64 2), .t 9], none⟩, ⟨(some 11), .mov, [.t 1], none⟩, ⟨(some 12), .load (some 3), [.t 2], none⟩, ⟨(some 13), .pcall 110 p110, [.t 12], none⟩, ⟨(some 14), .bin .mul 3 false true 0, [.t 11, .t 13], none⟩, ⟨(some 15), .bin .add 3 false true 0, [.t 10, .t 14], none⟩, ⟨(some 4), .mov, [.t 15], none⟩] [([6, 7], []), ([6, 7], []), ([6, 7, 8, 9], []), ([6, 7, 8, 9], []), ([6, 7, 8, 9], []), ([6, 7, 8, 9], []), ([0, 1, 2, 3, 4, 5, 7, 8], []), ([0, 1, 2, 3, 4, 5, 6], []), ([2, 3, 4, 5, 6], []), ([2, 3, 4, 5], []), ([], []), ([], [])])
  .ret)), [.t 4]⟩
def h60 : Hints := ⟨[2], callsOf [(109, .pure p109), (110, .pure p110)], [], [], []⟩
theorem hk60 : HOk prog h60 := hok_of ⟨gp109, gp110, trivial⟩ trivial trivial trivial
theorem e60 : elabF prog h60 [] 60 = some c60 := by kernel_rfl
def s60 : Spec := fspec prog c60
theorem g60 : Good prog 60 s60 := good_fspec hk60 mixed e60
def t60 : List (List Value × Res) := [([(.agg ⟨[(.int .i64 1), (.int .i64 2), (.int .i64 3)]⟩), (.int .i64 0)], (.ret (.int .i64 3))),
  ([(.agg ⟨[(.int .i64 1), (.int .i64 2), (.int .i64 3)]⟩), (.int .i64 1)], (.ret (.int .i64 10)))]
def p60 : PSpec := tab t60
theorem k60 : tabOk s60 t60 = true := by kernel_rfl
theorem gp60 : GoodP prog 60 p60 := goodP_tab g60 k60

def c27 : AFn := ⟨1, (.seq (.region 0 [⟨(some 1), .box (some 1), [.t 0], none⟩, ⟨(some 2), .mov, [.c (.int .i64 0)], none⟩])
  (.seq (.seq (.region 1 [⟨(some 3), .load (some 3), [.t 1], none⟩, ⟨(some 4), .pcall 59 p59, [.t 3], none⟩, ⟨(some 5), .un .not, [.t 4], none⟩])
  (.cond (.t 5) (.seq (.region 2 [⟨(some 2), .mov, [.c (.int .i64 0)], none⟩])
  .ret)
  .skip))
  (.seq (.region 3 [⟨(some 6), .load (some 3), [.t 1], none⟩, ⟨(some 7), .faddr 0, [.t 1], none⟩, ⟨(some 8), .load none, [.t 7], none⟩, ⟨(some 9), .pcall 60 p60, [.t 6, .t 8], none⟩, ⟨(some 2), .mov, [.t 9], none⟩])
  .ret))), [.t 2]⟩
def h27 : Hints := ⟨[1], callsOf [(59, .pure p59), (60, .pure p60)], [], [], []⟩
theorem hk27 : HOk prog h27 := hok_of ⟨gp59, gp60, trivial⟩ trivial trivial trivial
theorem e27 : elabF prog h27 [] 27 = some c27 := by kernel_rfl
def s27 : Spec := fspec prog c27
theorem g27 : Good prog 27 s27 := good_fspec hk27 mixed e27
def t27 : List (List Value × Res) := [([(.agg ⟨[(.int .i64 1), (.int .i64 2), (.int .i64 3)]⟩)], (.ret (.int .i64 10)))]
def p27 : PSpec := tab t27
theorem k27 : tabOk s27 t27 = true := by kernel_rfl
theorem gp27 : GoodP prog 27 p27 := goodP_tab g27 k27

def c57 : AFn := ⟨0, (.seq (.region 0 [⟨(some 0), .mov, [.c (mkStr [])], none⟩])
  (.seq (.region 1 [⟨(some 1), .pcall 106 p106, [.c (mkStr [0]), .c (.int .i64 64)], none⟩, ⟨(some 0), .mov, [.t 1], none⟩])
  .ret)), [.t 0]⟩
def h57 : Hints := ⟨[], callsOf [(106, .pure p106)], [], [], []⟩
theorem hk57 : HOk prog h57 := hok_of ⟨gp106, trivial⟩ trivial trivial trivial
theorem e57 : elabF prog h57 [] 57 = some c57 := by kernel_rfl
def s57 : Spec := fspec prog c57
theorem g57 : Good prog 57 s57 := good_fspec hk57 mixed e57
def t57 : List (List Value × Res) := [([], (.ret (mkStr [0, 0, 0, 0, 0, 0, 0, 0, 0, 0, 0, 0, 0, 0, 0, 0, 0, 0, 0, 0, 0, 0, 0, 0, 0, 0, 0, 0, 0, 0, 0, 0, 0, 0, 0, 0, 0, 0, 0, 0, 0, 0, 0, 0, 0, 0, 0, 0, 0, 0, 0, 0, 0, 0, 0, 0, 0, 0, 0, 0, 0, 0, 0, 0])))]
def p57 : PSpec := tab t57
theorem k57 : tabOk s57 t57 = true := by kernel_rfl
theorem gp57 : GoodP prog 57 p57 := goodP_tab g57 k57

def c107 : AFn := ⟨1, (.seq (.region 0 [⟨(some 2), .mov, [.c (.bool false)], none⟩])
  (.seq (.region 1 [⟨(some 3), .mov, [.t 0], none⟩, ⟨(some 4), .bin .geq 3 true true 0, [.t 3, .c (.int .i64 0)], none⟩, ⟨(some 5), .mov, [.t 4], none⟩, ⟨(some 6), .mov, [.t 0], (some (5, true))⟩, ⟨(some 7), .bin .leq 3 true true 0, [.t 6, .c (.int .i64 4294967295)], (some (5, true))⟩, ⟨(some 8), .pick, [.t 5, .t 7, .c (.bool false)], none⟩, ⟨(some 2), .mov, [.t 8], none⟩])
  .ret)), [.t 2]⟩
def h107 : Hints := ⟨[], callsOf [], [], [], []⟩
theorem hk107 : HOk prog h107 := hok_of trivial trivial trivial trivial
theorem e107 : elabF prog h107 [] 107 = some c107 := by kernel_rfl
def s107 : Spec := fspec prog c107
theorem g107 : Good prog 107 s107 := good_fspec hk107 mixed e107
def t107 : List (List Value × Res) := [([(.int .i64 0)], (.ret (.bool true)))]
def p107 : PSpec := tab t107
theorem k107 : tabOk s107 t107 = true := by kernel_rfl
theorem gp107 : GoodP prog 107 p107 := goodP_tab g107 k107

def c196 : AFn := ⟨1, (.seq (.region 0 [⟨(some 2), .mov, [.c (.bool false)], none⟩])
  (.seq (.region 1 [⟨(some 3), .mov, [.t 0], none⟩, ⟨(some 4), .bin .eql 3 true true 0, [.t 3, .c (.int .i64 1)], none⟩, ⟨(some 5), .mov, [.t 4], none⟩, ⟨(some 6), .mov, [.t 0], (some (5, false))⟩, ⟨(some 7), .bin .eql 3 true true 0, [.t 6, .c (.int .i64 2)], (some (5, false))⟩, ⟨(some 8), .pick, [.t 5, .c (.bool true), .t 7], none⟩, ⟨(some 9), .mov, [.t 8], none⟩, ⟨(some 10), .mov, [.t 0], (some (9, false))⟩, ⟨(some 11), .bin .eql 3 true true 0, [.t 10, .c (.int .i64 4)], (some (9, false))⟩, ⟨(some 12), .pick, [.t 9, .c (.bool true), .t 11], none⟩, ⟨(some 2), .mov, [.t 12], none⟩])
  .ret)), [.t 2]⟩
def h196 : Hints := ⟨[], callsOf [], [], [], []⟩
theorem hk196 : HOk prog h196 := hok_of trivial trivial trivial trivial
theorem e196 : elabF prog h196 [] 196 = some c196 := by kernel_rfl
def s196 : Spec := fspec prog c196
theorem g196 : Good prog 196 s196 := good_fspec hk196 mixed e196
def t196 : List (List Value × Res) := [([(.int .i64 1)], (.ret (.bool true))),
  ([(.int .i64 2)], (.ret (.bool true))),
  ([(.int .i64 4)], (.ret (.bool true)))]
def p196 : PSpec := tab t196
theorem k196 : tabOk s196 t196 = true := by kernel_rfl
theorem gp196 : GoodP prog 196 p196 := goodP_tab g196 k196

def c197 : AFn := ⟨2, (.seq (.region 0 [⟨(some 4), .mov, [.c (.bool false)], none⟩])
  (.seq (.region 1 [⟨(some 5), .mov, [.t 0], none⟩, ⟨(some 6), .bin .geq 3 true true 0, [.t 5, .c (.int .i64 0)], none⟩, ⟨(some 7), .mov, [.t 6], none⟩, ⟨(some 8), .mov, [.t 1], (some (7, true))⟩, ⟨(some 9), .bin .gtr 3 true true 0, [.t 8, .c (.int .i64 0)], (some (7, true))⟩, ⟨(some 10), .pick, [.t 7, .t 9, .c (.bool false)], none⟩, ⟨(some 11), .mov, [.t 10], none⟩, ⟨(some 12), .mov, [.t 1], (some (11, true))⟩, ⟨(some 13), .bin .leq 3 true true 0, [.t 12, .c (.int .i64 64)], (some (11, true))⟩, ⟨(some 14), .pick, [.t 11, .t 13, .c (.bool false)], none⟩, ⟨(some 15), .mov, [.t 14], none⟩, ⟨(some 16), .mov, [.t 0], (some (15, true))⟩, ⟨(some 17), .mov, [.t 1], (some (15, true))⟩, ⟨(some 18), .bin .sub 3 true true 0, [.c (.int .i64 64), .t 17], (some (15, true))⟩, ⟨(some 19), .bin .leq 3 false true 0, [.t 16, .t 18], (some (15, true))⟩, ⟨(some 20), .pick, [.t 15, .t 19, .c (.bool false)], none⟩, ⟨(some 4), .mov, [.t 20], none⟩])
  .ret)), [.t 4]⟩
def h197 : Hints := ⟨[], callsOf [], [], [], []⟩
theorem hk197 : HOk prog h197 := hok_of trivial trivial trivial trivial
theorem e197 : elabF prog h197 [] 197 = some c197 := by kernel_rfl
def s197 : Spec := fspec prog c197
theorem g197 : Good prog 197 s197 := good_fspec hk197 mixed e197
def t197 : List (List Value × Res) := [([(.int .i64 0), (.int .i64 1)], (.ret (.bool true))),
  ([(.int .i64 0), (.int .i64 4)], (.ret (.bool true))),
  ([(.int .i64 1), (.int .i64 1)], (.ret (.bool true))),
  ([(.int .i64 10), (.int .i64 2)], (.ret (.bool true))),
  ([(.int .i64 12), (.int .i64 2)], (.ret (.bool true))),
  ([(.int .i64 14), (.int .i64 2)], (.ret (.bool true))),
  ([(.int .i64 16), (.int .i64 2)], (.ret (.bool true))),
  ([(.int .i64 18), (.int .i64 2)], (.ret (.bool true))),
  ([(.int .i64 2), (.int .i64 2)], (.ret (.bool true))),
  ([(.int .i64 20), (.int .i64 2)], (.ret (.bool true))),
  ([(.int .i64 22), (.int .i64 2)], (.ret (.bool true))),
  ([(.int .i64 24), (.int .i64 2)], (.ret (.bool true))),
  ([(.int .i64 4), (.int .i64 2)], (.ret (.bool true))),
  ([(.int .i64 4), (.int .i64 4)], (.ret (.bool true))),
  ([(.int .i64 6), (.int .i64 2)], (.ret (.bool true))),
  ([(.int .i64 8), (.int .i64 2)], (.ret (.bool true))),
  ([(.int .i64 8), (.int .i64 4)], (.ret (.bool true)))]
def p197 : PSpec := tab t197
theorem k197 : tabOk s197 t197 = true := by kernel_rfl
theorem gp197 : GoodP prog 197 p197 := goodP_tab g197 k197
end
end CwT
