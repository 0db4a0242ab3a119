/-
  The functions that the closed run comes to: their code for the evaluator, and that it is theirs.
-/
import Derived.Test.YtmmlgodbknhijaaGreatDoorCwGE
namespace CwT
open Go Cw
set_option maxRecDepth 100000
noncomputable section
def c303 : AFn := ⟨2, (.seq (.region 0 [⟨(some 4), .mov, [.c (mkStr [])], none⟩, ⟨(some 5), .mov, [.c (.bool false)], none⟩])
  (.seq (.seq (.region 1 [⟨(some 6), .mov, [.t 0], none⟩, ⟨(some 7), .mov, [.t 1], none⟩, ⟨(some 8), .pcall 252 p252, [.t 6, .t 7], none⟩, ⟨(some 9), .un .not, [.t 8], none⟩])
  (.cond (.t 9) (.seq (.region 2 [⟨(some 10), .mov, [.t 0], none⟩, ⟨(some 4), .mov, [.t 10], none⟩, ⟨(some 5), .mov, [.c (.bool false)], none⟩])
  .ret)
  .skip))
  (.seq (.region 3 [⟨(some 11), .mov, [.t 0], none⟩, ⟨(some 12), .mov, [.t 1], none⟩, ⟨(some 13), .lenS, [.t 12], none⟩, ⟨(some 14), .slS true false, [.t 11, .t 13], none⟩, ⟨(some 4), .mov, [.t 14], none⟩, ⟨(some 5), .mov, [.c (.bool true)], none⟩])
  .ret))), [.t 4, .t 5]⟩
def h303 : Hints := ⟨[], callsOf [(252, .pure p252)], [], [], []⟩
theorem hk303 : HOk prog h303 := hok_of ⟨gp252, trivial⟩ trivial trivial trivial
theorem e303 : elabF prog h303 [] 303 = some c303 := by kernel_rfl
def s303 : Spec := fspec prog c303
theorem g303 : Good prog 303 s303 := good_fspec hk303 mixed e303
def t303 : List (List Value × Res) := [([(mkStr [47]), (mkStr [47])], (.ret (.tuple ⟨[(mkStr []), (.bool true)]⟩)))]
def p303 : PSpec := tab t303
theorem k303 : tabOk s303 t303 = true := by kernel_rfl
theorem gp303 : GoodP prog 303 p303 := goodP_tab g303 k303

def c295 : AFn := ⟨2, (.seq (.region 0 [⟨(some 4), .mov, [.c (mkStr [])], none⟩, ⟨(some 5), .mov, [.c (.bool false)], none⟩])
  (.seq (.region 1 [⟨(some 6), .mov, [.t 0], none⟩, ⟨(some 7), .mov, [.t 1], none⟩, ⟨(some 8), .pcall 303 p303, [.t 6, .t 7], none⟩, ⟨(some 9), .ext 0, [.t 8], none⟩, ⟨(some 10), .ext 1, [.t 8], none⟩, ⟨(some 4), .mov, [.t 9], none⟩, ⟨(some 5), .mov, [.t 10], none⟩])
  .ret)), [.t 4, .t 5]⟩
def h295 : Hints := ⟨[], callsOf [(303, .pure p303)], [], [], []⟩
theorem hk295 : HOk prog h295 := hok_of ⟨gp303, trivial⟩ trivial trivial trivial
theorem e295 : elabF prog h295 [] 295 = some c295 := by kernel_rfl
def s295 : Spec := fspec prog c295
theorem g295 : Good prog 295 s295 := good_fspec hk295 mixed e295
def t295 : List (List Value × Res) := [([(mkStr [47]), (mkStr [47])], (.ret (.tuple ⟨[(mkStr []), (.bool true)]⟩)))]
def p295 : PSpec := tab t295
theorem k295 : tabOk s295 t295 = true := by kernel_rfl
theorem gp295 : GoodP prog 295 p295 := goodP_tab g295 k295

def c277 : AFn := ⟨1, (.seq (.region 0 [⟨(some 2), .mov, [.c (.slice none 0 0)], none⟩, ⟨(some 3), .mov, [.c (.int .i64 0)], none⟩])
  (.seq (.region 1 [⟨(some 9), .mov, [.t 0], none⟩, ⟨(some 10), .pcall 295 p295, [.t 9, .c (mkStr [47])], none⟩, ⟨(some 8), .mov, [.t 10], none⟩, ⟨(some 11), .ext 0, [.t 8], none⟩, ⟨(some 12), .ext 1, [.t 8], none⟩, ⟨(some 4), .mov, [.t 11], none⟩, ⟨(some 5), .mov, [.t 12], none⟩])
  (.seq (.block 0 (.seq (.region 2 [⟨(some 14), .mov, [.t 5], none⟩, ⟨(some 15), .un .not, [.t 14], none⟩, ⟨(some 13), .mov, [.t 15], none⟩])
  (.cond (.t 13) (.seq (.region 3 [⟨(some 2), .mov, [.c (.slice none 0 0)], none⟩, ⟨(some 3), .mov, [.c (.int .i64 90)], none⟩])
  .ret)
  (.seq (.region 4 [⟨(some 17), .mov, [.t 4], none⟩, ⟨(some 18), .bin .eql 9 true true 0, [.t 17, .c (mkStr [])], none⟩, ⟨(some 16), .mov, [.t 18], none⟩])
  (.cond (.t 16) (.seq (.region 5 [⟨(some 2), .mov, [.c (.slice none 0 0)], none⟩, ⟨(some 3), .mov, [.c (.int .i64 0)], none⟩])
  .ret)
  .skip)))))
  (.seq (.region 6 [⟨(some 19), .mov, [.t 4], none⟩, ⟨(some 20), .call 296 sNone, [.t 19, .c (mkStr [47])], none⟩, ⟨(some 6), .mov, [.t 20], none⟩])
  (.seq (.seq (.region 7 [⟨(some 21), .mov, [.t 6], none⟩, ⟨(some 22), .call 297 sNone, [.t 21], none⟩, ⟨(some 7), .mov, [.t 22], none⟩])
  (.seq (.region 8 [⟨(some 23), .mov, [.t 7], none⟩, ⟨(some 24), .bin .neq 38 true true 0, [.t 23, .c (.int .i64 0)], none⟩])
  (.cond (.t 24) (.seq (.region 9 [⟨(some 25), .mov, [.t 7], none⟩, ⟨(some 2), .mov, [.c (.slice none 0 0)], none⟩, ⟨(some 3), .mov, [.t 25], none⟩])
  .ret)
  .skip)))
  (.seq (.region 10 [⟨(some 26), .mov, [.t 6], none⟩, ⟨(some 2), .mov, [.t 26], none⟩, ⟨(some 3), .mov, [.c (.int .i64 0)], none⟩])
  .ret)))))), [.t 2, .t 3]⟩
def h277 : Hints := ⟨[], callsOf [(295, .pure p295), (296, .spec sNone), (297, .spec sNone)], [], [], []⟩
theorem hk277 : HOk prog h277 := hok_of ⟨gp295, good_none _ _, good_none _ _, trivial⟩ trivial trivial trivial
theorem e277 : elabF prog h277 [] 277 = some c277 := by kernel_rfl
def s277 : Spec := fspec prog c277
theorem g277 : Good prog 277 s277 := good_fspec hk277 mixed e277
def t277 : List (List Value × Res) := [([(mkStr [47])], (.ret (.tuple ⟨[(.slice none 0 0), (.int .i64 0)]⟩)))]
def p277 : PSpec := tab t277
theorem k277 : tabOk s277 t277 = true := by kernel_rfl
theorem gp277 : GoodP prog 277 p277 := goodP_tab g277 k277

def c94 : AFn := ⟨1, (.seq (.region 0 [⟨(some 2), .mov, [.t 0], none⟩, ⟨(some 3), .bin .neq 38 true true 0, [.t 2, .c (.int .i64 0)], none⟩])
  (.cond (.t 3) (.region 1 [⟨(some 4), .mov, [.t 0], none⟩, ⟨(some 5), .pcall 88 p88, [.t 4], none⟩, ⟨(some 6), .build [.nilIface] [(0, 1)], [.t 5], none⟩, ⟨(some 7), .mkif 182, [.t 6], none⟩, ⟨none, .panic, [.t 7], none⟩])
  .skip)), []⟩
def h94 : Hints := ⟨[], callsOf [(88, .pure p88)], [], [], []⟩
theorem hk94 : HOk prog h94 := hok_of ⟨gp88, trivial⟩ trivial trivial trivial
theorem e94 : elabF prog h94 [] 94 = some c94 := by kernel_rfl
def s94 : Spec := fspec prog c94
theorem g94 : Good prog 94 s94 := good_fspec hk94 mixed e94
def t94 : List (List Value × Res) := [([(.int .i64 0)], (.ret (.tuple ⟨[]⟩)))]
def p94 : PSpec := tab t94
theorem k94 : tabOk s94 t94 = true := by kernel_rfl
theorem gp94 : GoodP prog 94 p94 := goodP_tab g94 k94

def c273 : AFn := ⟨2, (.seq (.region 0 [⟨(some 4), .mov, [.c (.bool false)], none⟩])
  (.seq (.region 1 [⟨(some 5), .mov, [.t 0], none⟩, ⟨(some 6), .nilc, [.t 5], none⟩, ⟨(some 7), .faddr 4, [.t 6], none⟩, ⟨(some 8), .faddr 0, [.t 7], none⟩, ⟨(some 9), .load none, [.t 8], none⟩, ⟨(some 10), .mov, [.t 9], none⟩, ⟨(some 11), .mov, [.t 0], (some (10, false))⟩, ⟨(some 12), .nilc, [.t 11], (some (10, false))⟩, ⟨(some 13), .faddr 4, [.t 12], (some (10, false))⟩, ⟨(some 14), .faddr 1, [.t 13], (some (10, false))⟩, ⟨(some 15), .load none, [.t 14], (some (10, false))⟩, ⟨(some 16), .mov, [.t 1], (some (10, false))⟩, ⟨(some 17), .call 44 s44, [.t 15, .t 16], (some (10, false))⟩, ⟨(some 18), .pick, [.t 10, .c (.bool true), .t 17], none⟩, ⟨(some 4), .mov, [.t 18], none⟩])
  .ret)), [.t 4]⟩
def h273 : Hints := ⟨[], callsOf [(44, .spec s44)], [], [], []⟩
theorem hk273 : HOk prog h273 := hok_of ⟨g44, trivial⟩ trivial trivial trivial
theorem e273 : elabF prog h273 [] 273 = some c273 := by kernel_rfl
def s273 : Spec := fspec prog c273
theorem g273 : Good prog 273 s273 := good_fspec hk273 mixed e273

def c274 : AFn := ⟨2, (.seq (.region 0 [⟨(some 4), .mov, [.t 0], none⟩, ⟨(some 5), .mov, [.t 1], none⟩, ⟨(some 6), .call 273 s273, [.t 4, .t 5], none⟩, ⟨(some 7), .un .not, [.t 6], none⟩])
  (.cond (.t 7) (.region 1 [⟨(some 8), .mov, [.t 1], none⟩, ⟨(some 9), .pcall 88 p88, [.c (.int .i64 230)], none⟩, ⟨(some 10), .call 87 s87, [.c (mkStr [108, 101, 97, 115, 101]), .t 8, .t 9], none⟩, ⟨(some 11), .build [.nilIface] [(0, 1)], [.t 10], none⟩, ⟨(some 12), .mkif 182, [.t 11], none⟩, ⟨none, .panic, [.t 12], none⟩])
  .skip)), []⟩
def h274 : Hints := ⟨[], callsOf [(87, .spec s87), (88, .pure p88), (273, .spec s273)], [], [], []⟩
theorem hk274 : HOk prog h274 := hok_of ⟨g87, gp88, g273, trivial⟩ trivial trivial trivial
theorem e274 : elabF prog h274 [] 274 = some c274 := by kernel_rfl
def s274 : Spec := fspec prog c274
theorem g274 : Good prog 274 s274 := good_fspec hk274 mixed e274

def c191 : AFn := ⟨1, (.seq (.region 0 [⟨(some 2), .mov, [.t 0], none⟩, ⟨(some 3), .bin .neq 38 true true 0, [.t 2, .c (.int .i64 0)], none⟩])
  (.cond (.t 3) (.region 1 [⟨(some 4), .mov, [.t 0], none⟩, ⟨(some 5), .mkif 304, [.t 4], none⟩, ⟨none, .panic, [.t 5], none⟩])
  .skip)), []⟩
def h191 : Hints := ⟨[], callsOf [], [], [], []⟩
theorem hk191 : HOk prog h191 := hok_of trivial trivial trivial trivial
theorem e191 : elabF prog h191 [] 191 = some c191 := by kernel_rfl
def s191 : Spec := fspec prog c191
theorem g191 : Good prog 191 s191 := good_fspec hk191 mixed e191
def t191 : List (List Value × Res) := [([(.int .i64 0)], (.ret (.tuple ⟨[]⟩)))]
def p191 : PSpec := tab t191
theorem k191 : tabOk s191 t191 = true := by kernel_rfl
theorem gp191 : GoodP prog 191 p191 := goodP_tab g191 k191

def c122 : AFn := ⟨2, (.seq (.region 0 [⟨(some 4), .mov, [.c (mkStr [])], none⟩, ⟨(some 5), .mov, [.c (.int .i64 0)], none⟩])
  (.seq (.seq (.region 1 [⟨(some 6), .mov, [.t 1], none⟩, ⟨(some 7), .bin .lss 3 true true 0, [.t 6, .c (.int .i64 0)], none⟩, ⟨(some 8), .mov, [.t 7], none⟩, ⟨(some 9), .mov, [.t 1], (some (8, false))⟩, ⟨(some 10), .mov, [.t 0], (some (8, false))⟩, ⟨(some 11), .nilc, [.t 10], (some (8, false))⟩, ⟨(some 12), .faddr 0, [.t 11], (some (8, false))⟩, ⟨(some 13), .load none, [.t 12], (some (8, false))⟩, ⟨(some 14), .lenV, [.t 13], (some (8, false))⟩, ⟨(some 15), .bin .geq 3 false true 0, [.t 9, .t 14], (some (8, false))⟩, ⟨(some 16), .pick, [.t 8, .c (.bool true), .t 15], none⟩])
  (.cond (.t 16) (.seq (.region 2 [⟨(some 4), .mov, [.c (mkStr [])], none⟩, ⟨(some 5), .mov, [.c (.int .i64 1)], none⟩])
  .ret)
  .skip))
  (.seq (.region 3 [⟨(some 17), .mov, [.t 0], none⟩, ⟨(some 18), .nilc, [.t 17], none⟩, ⟨(some 19), .faddr 0, [.t 18], none⟩, ⟨(some 20), .load none, [.t 19], none⟩, ⟨(some 21), .mov, [.t 1], none⟩, ⟨(some 22), .iaddrS 1, [.t 20, .t 21], none⟩, ⟨(some 23), .load none, [.t 22], none⟩, ⟨(some 4), .mov, [.t 23], none⟩, ⟨(some 5), .mov, [.c (.int .i64 0)], none⟩])
  .ret))), [.t 4, .t 5]⟩
def h122 : Hints := ⟨[], callsOf [], [], [], []⟩
theorem hk122 : HOk prog h122 := hok_of trivial trivial trivial trivial
theorem e122 : elabF prog h122 [] 122 = some c122 := by kernel_rfl
def s122 : Spec := fspec prog c122
theorem g122 : Good prog 122 s122 := good_fspec hk122 mixed e122

def c136 : AFn := ⟨3, (.seq (.region 0 [⟨(some 6), .mov, [.c (.slice none 0 0)], none⟩])
  (.seq (.region 1 [⟨(some 7), .mov, [.c (.slice none 0 0)], none⟩])
  (.seq (.seq (.region 2 [⟨(some 10), .mov, [.t 0], none⟩, ⟨(some 11), .nilc, [.t 10], none⟩, ⟨(some 12), .faddr 0, [.t 11], none⟩, ⟨(some 13), .load none, [.t 12], none⟩, ⟨(some 14), .lenV, [.t 13], none⟩, ⟨(some 15), .mov, [.c (.int .i64 0)], none⟩])
  (.block 0 (.loop [1, 2, 7, 13, 14, 15] [] (.seq (.region 3 [⟨(some 16), .bin .lss 3 false true 0, [.t 15, .t 14], none⟩])
  (.seq (.cond (.t 16) .skip
  (.exit 0))
  (.seq (.block 1 (.seq (.region 4 [⟨(some 17), .mov, [.t 15], none⟩, ⟨(some 18), .iaddrS 6, [.t 13, .t 15], none⟩, ⟨(some 19), .load (some 6), [.t 18], none⟩, ⟨(some 9), .alloc (some 9) (.agg ⟨[(.int .i64 0), (.int .i64 0), (.int .i64 0), (mkStr []), (.slice none 0 0), (.int .i64 0)]⟩), [], none⟩, ⟨(some 8), .mov, [.t 17], none⟩, ⟨none, .store 6, [.t 9, .t 19], none⟩])
  (.seq (.region 5 [⟨(some 20), .faddr 1, [.t 9], none⟩, ⟨(some 21), .load none, [.t 20], none⟩, ⟨(some 22), .mov, [.t 1], none⟩, ⟨(some 23), .bin .eql 3 false true 0, [.t 21, .t 22], none⟩, ⟨(some 24), .mov, [.t 23], none⟩, ⟨(some 25), .faddr 5, [.t 9], (some (24, true))⟩, ⟨(some 26), .load none, [.t 25], (some (24, true))⟩, ⟨(some 27), .mov, [.t 2], (some (24, true))⟩, ⟨(some 28), .bin .eql 3 false true 0, [.t 26, .t 27], (some (24, true))⟩, ⟨(some 29), .pick, [.t 24, .t 28, .c (.bool false)], none⟩])
  (.cond (.t 29) (.region 6 [⟨(some 30), .mov, [.t 7], none⟩, ⟨(some 31), .mov, [.t 8], none⟩, ⟨(some 32), .bslice (some 32) 1 1 [(.int .i64 0)] [(0, 1)], [.t 31], none⟩, ⟨(some 33), .append 1 8, [.t 30, .t 32], none⟩, ⟨(some 7), .mov, [.t 33], none⟩])
  .skip))))
  (.region 7 [⟨(some 34), .bin .add 3 true true 0, [.t 15, .c (.int .i64 1)], none⟩, ⟨(some 15), .mov, [.t 34], none⟩])))))))
  (.seq (.region 8 [⟨(some 35), .mov, [.t 7], none⟩, ⟨(some 6), .mov, [.t 35], none⟩])
  .ret)))), [.t 6]⟩
def h136 : Hints := ⟨[9, 32], callsOf [], [], [], []⟩
theorem hk136 : HOk prog h136 := hok_of trivial trivial trivial trivial
theorem e136 : elabF prog h136 [([1, 2, 7, 13, 14, 15], [])] 136 = some c136 := by kernel_rfl
def s136 : Spec := fspec prog c136
theorem g136 : Good prog 136 s136 := good_fspec hk136 mixed e136

def c195 : AFn := ⟨3, (.seq (.region 0 [⟨(some 6), .mov, [.c (mkStr [])], none⟩, ⟨(some 7), .mov, [.c (.int .i64 0)], none⟩])
  (.seq (.region 1 [⟨(some 8), .mov, [.c (.slice none 0 0)], none⟩])
  (.seq (.seq (.region 2 [⟨(some 11), .mov, [.t 2], none⟩, ⟨(some 12), .lenV, [.t 11], none⟩, ⟨(some 13), .mov, [.c (.int .i64 0)], none⟩])
  (.block 0 (.loop [0, 1, 8, 11, 12, 13] [] (.seq (.region 3 [⟨(some 14), .bin .lss 3 false true 0, [.t 13, .t 12], none⟩])
  (.seq (.cond (.t 14) .skip
  (.exit 0))
  (.seq (.block 1 (.seq (.region 4 [⟨(some 15), .iaddrS 1, [.t 11, .t 13], none⟩, ⟨(some 16), .load none, [.t 15], none⟩, ⟨(some 10), .mov, [.t 16], none⟩])
  (.region 5 [⟨(some 17), .mov, [.t 8], none⟩, ⟨(some 18), .mov, [.t 0], none⟩, ⟨(some 19), .nilc, [.t 18], none⟩, ⟨(some 20), .faddr 0, [.t 19], none⟩, ⟨(some 21), .load none, [.t 20], none⟩, ⟨(some 22), .mov, [.t 10], none⟩, ⟨(some 23), .iaddrS 6, [.t 21, .t 22], none⟩, ⟨(some 24), .faddr 2, [.t 23], none⟩, ⟨(some 25), .load (some 2), [.t 24], none⟩, ⟨(some 26), .bslice (some 26) 2 1 [(.int .i64 0), (mkStr [])] [(0, 2)], [.t 25], none⟩, ⟨(some 27), .append 2 24, [.t 17, .t 26], none⟩, ⟨(some 8), .mov, [.t 27], none⟩])))
  (.region 6 [⟨(some 28), .bin .add 3 true true 0, [.t 13, .c (.int .i64 1)], none⟩, ⟨(some 13), .mov, [.t 28], none⟩])))))))
  (.seq (.region 7 [⟨(some 29), .mov, [.t 1], none⟩, ⟨(some 30), .mov, [.t 8], none⟩, ⟨(some 31), .call 182 s182, [.t 29, .t 30], none⟩, ⟨(some 32), .ext 0, [.t 31], none⟩, ⟨(some 33), .ext 1, [.t 31], none⟩, ⟨(some 6), .mov, [.t 32], none⟩, ⟨(some 7), .mov, [.t 33], none⟩])
  .ret)))), [.t 6, .t 7]⟩
def h195 : Hints := ⟨[26], callsOf [(182, .spec s182)], [], [], []⟩
theorem hk195 : HOk prog h195 := hok_of ⟨g182, trivial⟩ trivial trivial trivial
theorem e195 : elabF prog h195 [([0, 1, 8, 11, 12, 13], [])] 195 = some c195 := by kernel_rfl
def s195 : Spec := fspec prog c195
theorem g195 : Good prog 195 s195 := good_fspec hk195 mixed e195

def c123 : AFn := ⟨3, (.seq (.region 0 [⟨(some 6), .mov, [.c (mkStr [])], none⟩, ⟨(some 7), .mov, [.c (.int .i64 0)], none⟩])
  (.seq (.region 1 [⟨(some 9), .mov, [.t 0], none⟩, ⟨(some 10), .mov, [.t 1], none⟩, ⟨(some 11), .call 136 s136, [.t 9, .t 10, .c (.int .i64 1)], none⟩, ⟨(some 12), .mov, [.t 0], none⟩, ⟨(some 13), .mov, [.t 1], none⟩, ⟨(some 14), .call 136 s136, [.t 12, .t 13, .c (.int .i64 2)], none⟩, ⟨(some 15), .append 1 8, [.t 11, .t 14], none⟩, ⟨(some 8), .mov, [.t 15], none⟩])
  (.seq (.region 2 [⟨(some 16), .mov, [.t 8], none⟩, ⟨(some 17), .call 85 s85, [.t 16], none⟩])
  (.seq (.region 3 [⟨(some 18), .mov, [.t 0], none⟩, ⟨(some 19), .mov, [.t 2], none⟩, ⟨(some 20), .mov, [.t 8], none⟩, ⟨(some 21), .call 195 s195, [.t 18, .t 19, .t 20], none⟩, ⟨(some 22), .ext 0, [.t 21], none⟩, ⟨(some 23), .ext 1, [.t 21], none⟩, ⟨(some 6), .mov, [.t 22], none⟩, ⟨(some 7), .mov, [.t 23], none⟩])
  .ret)))), [.t 6, .t 7]⟩
def h123 : Hints := ⟨[], callsOf [(85, .spec s85), (136, .spec s136), (195, .spec s195)], [], [], []⟩
theorem hk123 : HOk prog h123 := hok_of ⟨g85, g136, g195, trivial⟩ trivial trivial trivial
theorem e123 : elabF prog h123 [] 123 = some c123 := by kernel_rfl
def s123 : Spec := fspec prog c123
theorem g123 : Good prog 123 s123 := good_fspec hk123 mixed e123

def c67 : AFn := ⟨2, (.seq (.region 0 [⟨(some 4), .mov, [.c (mkStr [])], none⟩, ⟨(some 5), .mov, [.c (.int .i64 0)], none⟩])
  (.seq (.region 1 [⟨(some 9), .mov, [.t 0], none⟩, ⟨(some 10), .nilc, [.t 9], none⟩, ⟨(some 11), .faddr 1, [.t 10], none⟩, ⟨(some 12), .load none, [.t 11], none⟩, ⟨(some 13), .mov, [.t 1], none⟩, ⟨(some 14), .call 122 s122, [.t 12, .t 13], none⟩, ⟨(some 8), .mov, [.t 14], none⟩, ⟨(some 15), .ext 0, [.t 8], none⟩, ⟨(some 16), .ext 1, [.t 8], none⟩, ⟨(some 6), .mov, [.t 15], none⟩, ⟨(some 7), .mov, [.t 16], none⟩])
  (.seq (.seq (.region 2 [⟨(some 17), .mov, [.t 7], none⟩, ⟨(some 18), .bin .neq 38 true true 0, [.t 17, .c (.int .i64 0)], none⟩])
  (.cond (.t 18) (.seq (.region 3 [⟨(some 19), .mov, [.t 7], none⟩, ⟨(some 4), .mov, [.c (mkStr [])], none⟩, ⟨(some 5), .mov, [.t 19], none⟩])
  .ret)
  .skip))
  (.seq (.region 4 [⟨(some 20), .mov, [.t 0], none⟩, ⟨(some 21), .nilc, [.t 20], none⟩, ⟨(some 22), .faddr 0, [.t 21], none⟩, ⟨(some 23), .load none, [.t 22], none⟩, ⟨(some 24), .mov, [.t 1], none⟩, ⟨(some 25), .mov, [.t 6], none⟩, ⟨(some 26), .call 123 s123, [.t 23, .t 24, .t 25], none⟩, ⟨(some 27), .ext 0, [.t 26], none⟩, ⟨(some 28), .ext 1, [.t 26], none⟩, ⟨(some 4), .mov, [.t 27], none⟩, ⟨(some 5), .mov, [.t 28], none⟩])
  .ret)))), [.t 4, .t 5]⟩
def h67 : Hints := ⟨[], callsOf [(122, .spec s122), (123, .spec s123)], [], [], []⟩
theorem hk67 : HOk prog h67 := hok_of ⟨g122, g123, trivial⟩ trivial trivial trivial
theorem e67 : elabF prog h67 [] 67 = some c67 := by kernel_rfl
def s67 : Spec := fspec prog c67
theorem g67 : Good prog 67 s67 := good_fspec hk67 mixed e67
end
end CwT
