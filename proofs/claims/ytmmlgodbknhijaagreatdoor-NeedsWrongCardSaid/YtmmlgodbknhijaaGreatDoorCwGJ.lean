/-
  The functions that the closed run comes to: their code for the evaluator, and that it is theirs.
-/
import Derived.Test.YtmmlgodbknhijaaGreatDoorCwGI
namespace CwT
open Go Cw
set_option maxRecDepth 100000
noncomputable section
def c24 : AFn := ⟨2, (.seq (.region 0 [⟨(some 4), .mov, [.c (.slice none 0 0)], none⟩])
  (.seq (.seq (.region 1 [⟨(some 7), .mov, [.t 0], none⟩, ⟨(some 8), .nilc, [.t 7], none⟩, ⟨(some 9), .faddr 7, [.t 8], none⟩, ⟨(some 10), .load none, [.t 9], none⟩, ⟨(some 11), .bin .neq 3 true true 0, [.t 10, .c (.int .i64 0)], none⟩])
  (.cond (.t 11) (.seq (.region 2 [⟨(some 4), .mov, [.c (.slice none 0 0)], none⟩])
  .ret)
  .skip))
  (.seq (.region 3 [⟨(some 13), .mov, [.t 0], none⟩, ⟨(some 14), .nilc, [.t 13], none⟩, ⟨(some 15), .faddr 6, [.t 14], none⟩, ⟨(some 16), .load none, [.t 15], none⟩, ⟨(some 17), .mov, [.t 1], none⟩, ⟨(some 18), .call 46 s46, [.t 16, .t 17], none⟩, ⟨(some 12), .mov, [.t 18], none⟩, ⟨(some 19), .ext 0, [.t 12], none⟩, ⟨(some 20), .ext 1, [.t 12], none⟩, ⟨(some 5), .mov, [.t 19], none⟩, ⟨(some 6), .mov, [.t 20], none⟩])
  (.seq (.region 4 [⟨(some 21), .mov, [.t 5], none⟩, ⟨(some 4), .mov, [.t 21], none⟩])
  .ret)))), [.t 4]⟩
def h24 : Hints := ⟨[], callsOf [(46, .spec s46)], [], [], []⟩
theorem hk24 : HOk prog h24 := hok_of ⟨g46, trivial⟩ trivial trivial trivial
theorem e24 : elabF prog h24 [] 24 = some c24 := by kernel_rfl
def s24 : Spec := fspec prog c24
theorem g24 : Good prog 24 s24 := good_fspec hk24 mixed e24

def c25 : AFn := ⟨1, (.seq (.region 0 [⟨(some 2), .alloc (some 2) (.agg ⟨[(.int .i64 0), (mkStr []), (mkStr []), (.int .i64 0), (.int .i64 0), (mkStr [])]⟩), [], none⟩])
  (.seq (.region 1 [⟨(some 3), .mov, [.t 0], none⟩, ⟨(some 4), .nilc, [.t 3], none⟩, ⟨(some 5), .faddr 0, [.t 4], none⟩, ⟨(some 6), .load (some 6), [.t 5], none⟩, ⟨none, .store 6, [.t 2, .t 6], none⟩])
  .ret)), [.cell 2 (some 6)]⟩
def h25 : Hints := ⟨[2], callsOf [], [], [], []⟩
theorem hk25 : HOk prog h25 := hok_of trivial trivial trivial trivial
theorem e25 : elabF prog h25 [] 25 = some c25 := by kernel_rfl
def s25 : Spec := fspec prog c25
theorem g25 : Good prog 25 s25 := good_fspec hk25 mixed e25

def c4 : AFn := ⟨3, (.seq (.region 0 [⟨(some 3), .box (some 3), [.t 0], none⟩, ⟨(some 4), .box (some 4), [.t 1], none⟩, ⟨(some 6), .mov, [.c (.bool false)], none⟩])
  (.seq (.region 1 [⟨(some 12), .load (some 6), [.t 3], none⟩, ⟨(some 13), .call 17 s17, [.t 12], none⟩, ⟨(some 7), .mov, [.t 13], none⟩])
  (.seq (.seq (.region 2 [⟨(some 14), .mov, [.t 7], none⟩, ⟨(some 15), .bin .eql 59 true true 1, [.t 14, .c (.pointer none)], none⟩, ⟨(some 16), .mov, [.t 15], none⟩, ⟨(some 17), .call 18 s18, [], (some (16, false))⟩, ⟨(some 18), .un .not, [.t 17], (some (16, false))⟩, ⟨(some 19), .pick, [.t 16, .c (.bool true), .t 18], none⟩])
  (.cond (.t 19) (.seq (.region 3 [⟨(some 6), .mov, [.c (.bool false)], none⟩])
  .ret)
  .skip))
  (.seq (.region 4 [⟨(some 21), .mov, [.t 7], none⟩, ⟨(some 22), .load (some 3), [.t 4], none⟩, ⟨(some 23), .mov, [.t 2], none⟩, ⟨(some 24), .call 19 s19, [.t 21, .c (.pointer none), .t 22, .t 23], none⟩, ⟨(some 20), .mov, [.t 24], none⟩, ⟨(some 25), .ext 0, [.t 20], none⟩, ⟨(some 26), .ext 1, [.t 20], none⟩, ⟨(some 8), .mov, [.t 25], none⟩, ⟨(some 9), .mov, [.t 26], none⟩])
  (.seq (.region 5 [⟨(some 28), .mov, [.t 7], none⟩, ⟨(some 29), .call 20 s20, [.t 28, .c (.pointer none)], none⟩, ⟨(some 27), .mov, [.t 29], none⟩, ⟨(some 30), .ext 0, [.t 27], none⟩, ⟨(some 31), .ext 1, [.t 27], none⟩, ⟨(some 11), .alloc (some 11) (.agg ⟨[(.int .i64 0), (.int .i64 0), (.int .i64 0), (.int .i64 0), (mkStr []), (.slice none 0 0)]⟩), [], none⟩, ⟨(some 10), .mov, [.t 30], none⟩, ⟨none, .store 6, [.t 11, .t 31], none⟩])
  (.seq (.draw 6 [⟨(some 32), .mov, [.t 8], none⟩, ⟨(some 33), .bin .eql 3 true true 0, [.t 32, .c (.int .i64 (-1))], none⟩, ⟨(some 34), .mov, [.t 33], none⟩, ⟨(some 35), .mov, [.t 9], (some (34, true))⟩, ⟨(some 36), .call 21 s21, [.t 35], (some (34, true))⟩, ⟨(some 37), .bin .eql 38 true true 0, [.t 36, .c (.int .i64 5)], (some (34, true))⟩, ⟨(some 38), .pick, [.t 34, .t 37, .c (.bool false)], none⟩, ⟨(some 39), .mov, [.t 38], none⟩, ⟨(some 40), .mov, [.t 10], (some (39, true))⟩, ⟨(some 41), .bin .eql 3 true true 0, [.t 40, .c (.int .i64 0)], (some (39, true))⟩, ⟨(some 42), .pick, [.t 39, .t 41, .c (.bool false)], none⟩, ⟨(some 43), .mov, [.t 42], none⟩, ⟨(some 44), .load (some 6), [.t 11], (some (43, true))⟩, ⟨(some 45), .build [(.int .i64 0), (.int .i64 0), (.int .i64 0), (.int .i64 0), (mkStr []), (.slice none 0 0)] [], [], (some (43, true))⟩, ⟨(some 46), .pcall 22 p22, [.t 44, .t 45], (some (43, true))⟩, ⟨(some 47), .pick, [.t 43, .t 46, .c (.bool false)], none⟩, ⟨(some 48), .mov, [.t 47], none⟩, ⟨(some 49), .mov, [.t 7], (some (48, true))⟩, ⟨(some 50), .call 23 s23, [.t 49], (some (48, true))⟩, ⟨(some 51), .lenV, [.t 50], (some (48, true))⟩, ⟨(some 52), .bin .eql 3 true true 0, [.t 51, .c (.int .i64 0)], (some (48, true))⟩, ⟨(some 53), .pick, [.t 48, .t 52, .c (.bool false)], none⟩, ⟨(some 54), .mov, [.t 53], none⟩, ⟨(some 55), .mov, [.t 7], (some (54, true))⟩, ⟨(some 56), .mov, [.t 2], (some (54, true))⟩, ⟨(some 57), .call 24 s24, [.t 55, .t 56], (some (54, true))⟩, ⟨(some 58), .lenV, [.t 57], (some (54, true))⟩, ⟨(some 59), .bin .eql 3 true true 0, [.t 58, .c (.int .i64 0)], (some (54, true))⟩, ⟨(some 60), .pick, [.t 54, .t 59, .c (.bool false)], none⟩, ⟨(some 61), .mov, [.t 60], none⟩, ⟨(some 62), .mov, [.t 7], (some (61, true))⟩, ⟨(some 63), .call 25 s25, [.t 62], (some (61, true))⟩, ⟨(some 64), .load (some 6), [.t 3], (some (61, true))⟩, ⟨(some 65), .bin .eql 58 false true 0, [.t 63, .t 64], (some (61, true))⟩, ⟨(some 66), .pick, [.t 61, .t 65, .c (.bool false)], none⟩, ⟨(some 6), .mov, [.t 66], none⟩] [([], []), ([], []), ([], []), ([], []), ([], []), ([], []), ([], []), ([], []), ([], []), ([], []), ([], []), ([], []), ([13], []), ([12], []), ([], []), ([], []), ([], []), ([], []), ([], []), ([], []), ([], []), ([], []), ([], []), ([24], []), ([23], []), ([], []), ([], []), ([], []), ([], []), ([], []), ([32], []), ([32], []), ([30, 31], [31]), ([], []), ([], []), ([], [])])
  .ret)))))), [.t 6]⟩
def h4 : Hints := ⟨[3, 4, 11], callsOf [(17, .spec s17), (18, .spec s18), (19, .spec s19), (20, .spec s20), (21, .spec s21), (22, .pure p22), (23, .spec s23), (24, .spec s24), (25, .spec s25)], [], [], []⟩
theorem hk4 : HOk prog h4 := hok_of ⟨g17, g18, g19, g20, g21, gp22, g23, g24, g25, trivial⟩ trivial trivial trivial
theorem e4 : elabF prog h4 [] 4 = some c4 := by kernel_rfl
def s4 : Spec := fspec prog c4
theorem g4 : Good prog 4 s4 := good_fspec hk4 mixed e4
end
end CwT
