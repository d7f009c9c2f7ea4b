/-
  The functions of this seat as AE's. Printed by xp.py out of the program's form; checked here by the kernel (fnsOk).
-/
import Derived.Test.YtpdamhhaepcffaaMB
import Derived.Test.YtpdamhhaepcffaaChecked
set_option linter.unusedVariables false
set_option maxRecDepth 100000
namespace Go.Proofs.Ytpdamhhaepcffaa.AE
open Go
/-- codesearch/codesearchlaw09.RegexecEnds -/
@[reducible] def R3_0 : List XO := [⟨(some 3), none, .box 5 (.t 0), []⟩, ⟨(some 6), none, .mv (.c (.bool false)), []⟩]
@[reducible] def R3_1 : List XO := [⟨(some 7), none, .call 10 [], []⟩, ⟨(some 8), none, .un .not (.t 7), [0]⟩]
@[reducible] def R3_2 : List XO := [⟨(some 6), none, .mv (.c (.bool false)), []⟩]
@[reducible] def R3_3 : List XO := [⟨(some 9), none, .mv (.t 1), []⟩, ⟨(some 10), none, .len true (.t 9), [0]⟩, ⟨(some 11), none, .bin false .gtr (.t 10) (.c (.int .i64 60)), [1]⟩]
@[reducible] def R3_4 : List XO := [⟨(some 6), none, .mv (.c (.bool true)), []⟩]
@[reducible] def R3_5 : List XO := [⟨(some 12), none, .load 5 true (.t 3), []⟩, ⟨(some 13), none, .mv (.t 1), []⟩, ⟨(some 14), none, .mv (.t 2), []⟩, ⟨(some 15), none, .call 12 [(.t 12), (.t 13), (.t 14)], [0, 1, 2]⟩, ⟨(some 16), none, .load 5 true (.t 3), []⟩, ⟨(some 17), none, .mv (.t 1), []⟩, ⟨(some 18), none, .mv (.t 2), []⟩, ⟨(some 19), none, .call 13 [(.t 16), (.t 17), (.t 18)], [4, 5, 6,
    3]⟩, ⟨(some 20), none, .call 11 [(.t 15), (.t 19)], [3, 7, 7]⟩, ⟨(some 6), none, .mv (.t 20), [8, 8, 0, 1, 2, 3, 4, 5, 6, 7, 8]⟩]
@[reducible] def F3 : XF := ⟨21, (.seq (.reg false [] R3_0) (.seq (.seq (.reg false [] R3_1) (.cond (.t 8) (.seq (.reg false [] R3_2) .ret) .skip)) (.seq (.seq (.reg false [] R3_3) (.cond (.t 11) (.seq (.reg false [] R3_4) .ret) .skip)) (.seq (.reg true [] R3_5) .ret)))), [(6, none)]⟩
/-- codesearch/codesearchlaw09.RegexecFinds -/
@[reducible] def R4_0 : List XO := [⟨(some 3), none, .box 5 (.t 0), []⟩, ⟨(some 6), none, .mv (.c (.bool false)), []⟩]
@[reducible] def R4_1 : List XO := [⟨(some 11), none, .call 10 [], []⟩, ⟨(some 12), none, .un .not (.t 11), [0]⟩]
@[reducible] def R4_2 : List XO := [⟨(some 6), none, .mv (.c (.bool false)), []⟩]
@[reducible] def R4_3 : List XO := [⟨(some 13), none, .mv (.t 1), []⟩, ⟨(some 14), none, .len true (.t 13), [0]⟩, ⟨(some 15), none, .bin false .gtr (.t 14) (.c (.int .i64 60)), [1]⟩]
@[reducible] def R4_4 : List XO := [⟨(some 6), none, .mv (.c (.bool true)), []⟩]
@[reducible] def R4_5 : List XO := [⟨(some 17), none, .load 5 true (.t 3), []⟩, ⟨(some 18), none, .mv (.t 1), []⟩, ⟨(some 19), none, .mv (.t 2), []⟩, ⟨(some 20), none, .call 14 [(.t 17), (.t 18), (.t 19)], [0, 1, 2]⟩, ⟨(some 16), none, .mv (.t 20), [3]⟩, ⟨(some 21), none, .ext (.t 16) 0, [4]⟩, ⟨(some 22), none, .ext (.t 16) 1, [4]⟩, ⟨(some 7), none, .alloc [(.int .i64 0), (.int .i64 0)], []⟩,
    ⟨none, none, .store 2 (.t 7) (.t 21), [7, 5, 3, 0, 1, 2, 3, 4, 5, 7]⟩, ⟨(some 8), none, .mv (.t 22), [6, 8, 0, 1, 2, 3, 4, 5, 6, 7, 8]⟩]
@[reducible] def R4_6 : List XO := [⟨(some 24), none, .load 5 true (.t 3), []⟩, ⟨(some 25), none, .mv (.t 1), []⟩, ⟨(some 26), none, .mv (.t 2), []⟩, ⟨(some 27), none, .call 15 [(.t 24), (.t 25), (.t 26)], [0, 1, 2]⟩, ⟨(some 23), none, .mv (.t 27), [3]⟩, ⟨(some 28), none, .ext (.t 23) 0, [4]⟩, ⟨(some 29), none, .ext (.t 23) 1, [4]⟩, ⟨(some 9), none, .alloc [(.int .i64 0), (.int .i64 0)], []⟩,
    ⟨none, none, .store 2 (.t 9) (.t 28), [7, 5, 3, 0, 1, 2, 3, 4, 5, 7]⟩, ⟨(some 10), none, .mv (.t 29), [6, 8, 0, 1, 2, 3, 4, 5, 6, 7, 8]⟩]
@[reducible] def R4_7 : List XO := [⟨(some 30), none, .load 2 true (.t 7), []⟩, ⟨(some 31), none, .load 2 true (.t 9), []⟩, ⟨(some 32), none, .eqs false [0, 0] (.t 30) (.t 31), [0, 1]⟩, ⟨(some 33), none, .mv (.t 32), [2]⟩, ⟨(some 34), (some (33, true)), .mv (.t 8), [3]⟩, ⟨(some 35), (some (33, true)), .mv (.t 10), [3]⟩, ⟨(some 36), (some (33, true)), .bin true .eql (.t 34) (.t 35), [4, 5, 3]⟩,
    ⟨(some 37), none, .pick (.t 33) (.t 36) (.c (.bool false)), [3, 6]⟩, ⟨(some 38), none, .mv (.t 37), [7, 3]⟩, ⟨(some 39), (some (38, true)), .load 5 true (.t 3), [8]⟩, ⟨(some 40), (some (38, true)), .mv (.t 1), [8]⟩, ⟨(some 41), (some (38, true)), .call 16 [(.t 39), (.t 40)], [9, 10, 8, 8]⟩, ⟨(some 42), (some (38, true)), .load 5 true (.t 3), [8]⟩, ⟨(some 43), (some (38, true)), .mv (.t 1),
    [8]⟩, ⟨(some 44), (some (38, true)), .call 17 [(.t 42), (.t 43)], [12, 13, 11, 8]⟩, ⟨(some 45), (some (38, true)), .bin true .eql (.t 41) (.t 44), [11, 14, 8]⟩, ⟨(some 46), none, .pick (.t 38) (.t 45) (.c (.bool false)), [8, 15]⟩, ⟨(some 47), none, .mv (.t 46), [16, 14]⟩, ⟨(some 48), (some (47, true)), .load 5 true (.t 3), [17]⟩, ⟨(some 49), (some (47, true)), .mv (.t 1), [17]⟩, ⟨(some 50),
    (some (47, true)), .call 18 [(.t 48), (.t 49)], [18, 19, 17, 17]⟩, ⟨(some 51), (some (47, true)), .load 5 true (.t 3), [17]⟩, ⟨(some 52), (some (47, true)), .mv (.t 1), [17]⟩, ⟨(some 53), (some (47, true)), .call 19 [(.t 51), (.t 52)], [21, 22, 20, 17]⟩, ⟨(some 54), (some (47, true)), .bin true .eql (.t 50) (.t 53), [20, 23, 17]⟩, ⟨(some 55), none, .pick (.t 47) (.t 54) (.c (.bool false)), [17,
    24]⟩, ⟨(some 6), none, .mv (.t 55), [25, 23, 0, 1, 2, 3, 4, 5, 6, 7, 8, 9, 10, 11, 12, 13, 14, 15, 16, 17, 18, 19, 20, 21, 22, 23, 24, 25]⟩]
@[reducible] def F4 : XF := ⟨56, (.seq (.reg false [] R4_0) (.seq (.seq (.reg false [] R4_1) (.cond (.t 12) (.seq (.reg false [] R4_2) .ret) .skip)) (.seq (.seq (.reg false [] R4_3) (.cond (.t 15) (.seq (.reg false [] R4_4) .ret) .skip)) (.seq (.reg false [] R4_5) (.seq (.reg false [] R4_6) (.seq (.reg true [] R4_7) .ret)))))), [(6, none)]⟩
/-- codesearch/codesearchlaw09.RegexecAlls -/
@[reducible] def R5_0 : List XO := [⟨(some 2), none, .box 5 (.t 0), []⟩, ⟨(some 4), none, .mv (.c (.bool false)), []⟩]
@[reducible] def R5_1 : List XO := [⟨(some 5), none, .call 10 [], []⟩, ⟨(some 6), none, .un .not (.t 5), [0]⟩]
@[reducible] def R5_2 : List XO := [⟨(some 4), none, .mv (.c (.bool false)), []⟩]
@[reducible] def R5_3 : List XO := [⟨(some 7), none, .mv (.t 1), []⟩, ⟨(some 8), none, .len true (.t 7), [0]⟩, ⟨(some 9), none, .bin false .gtr (.t 8) (.c (.int .i64 60)), [1]⟩]
@[reducible] def R5_4 : List XO := [⟨(some 4), none, .mv (.c (.bool true)), []⟩]
@[reducible] def R5_5 : List XO := [⟨(some 10), none, .load 5 true (.t 2), []⟩, ⟨(some 11), none, .mv (.t 1), []⟩, ⟨(some 12), none, .call 21 [(.t 10), (.t 11)], [0, 1]⟩, ⟨(some 13), none, .load 5 true (.t 2), []⟩, ⟨(some 14), none, .mv (.t 1), []⟩, ⟨(some 15), none, .call 22 [(.t 13), (.t 14)], [3, 4, 2]⟩, ⟨(some 16), none, .call 20 [(.t 12), (.t 15)], [2, 5, 5]⟩, ⟨(some 4), none, .mv (.t 16), [6,
    6, 0, 1, 2, 3, 4, 5, 6]⟩]
@[reducible] def F5 : XF := ⟨17, (.seq (.reg false [] R5_0) (.seq (.seq (.reg false [] R5_1) (.cond (.t 6) (.seq (.reg false [] R5_2) .ret) .skip)) (.seq (.seq (.reg false [] R5_3) (.cond (.t 9) (.seq (.reg false [] R5_4) .ret) .skip)) (.seq (.reg true [] R5_5) .ret)))), [(4, none)]⟩
/-- codesearch/codesearchlaw09.RegexecFirst -/
@[reducible] def R6_0 : List XO := [⟨(some 3), none, .box 5 (.t 0), []⟩, ⟨(some 6), none, .mv (.c (.bool false)), []⟩]
@[reducible] def R6_1 : List XO := [⟨(some 11), none, .call 10 [], []⟩, ⟨(some 12), none, .un .not (.t 11), [0]⟩]
@[reducible] def R6_2 : List XO := [⟨(some 6), none, .mv (.c (.bool false)), []⟩]
@[reducible] def R6_3 : List XO := [⟨(some 13), none, .mv (.t 1), []⟩, ⟨(some 14), none, .len true (.t 13), [0]⟩, ⟨(some 15), none, .bin false .gtr (.t 14) (.c (.int .i64 60)), [1]⟩]
@[reducible] def R6_4 : List XO := [⟨(some 6), none, .mv (.c (.bool true)), []⟩]
@[reducible] def R6_5 : List XO := [⟨(some 17), none, .load 5 true (.t 3), []⟩, ⟨(some 18), none, .mv (.t 1), []⟩, ⟨(some 19), none, .mv (.t 2), []⟩, ⟨(some 20), none, .call 14 [(.t 17), (.t 18), (.t 19)], [0, 1, 2]⟩, ⟨(some 16), none, .mv (.t 20), [3]⟩, ⟨(some 21), none, .ext (.t 16) 0, [4]⟩, ⟨(some 22), none, .ext (.t 16) 1, [4]⟩, ⟨(some 7), none, .alloc [(.int .i64 0), (.int .i64 0)], []⟩,
    ⟨none, none, .store 2 (.t 7) (.t 21), [7, 5, 3, 0, 1, 2, 3, 4, 5, 7]⟩, ⟨(some 8), none, .mv (.t 22), [6, 8, 0, 1, 2, 3, 4, 5, 6, 7, 8]⟩]
@[reducible] def R6_6 : List XO := [⟨(some 23), none, .mv (.t 2), []⟩, ⟨(some 24), none, .mm true (.t 23) (.c (.int .i64 0)), [0]⟩, ⟨(some 9), none, .mv (.t 24), [1, 0, 1]⟩]
@[reducible] def R6_7 : List XO := [⟨(some 25), none, .mv (.t 9), []⟩, ⟨(some 26), none, .mv (.t 1), []⟩, ⟨(some 27), none, .len true (.t 26), [1]⟩, ⟨(some 28), none, .bin false .leq (.t 25) (.t 27), [0, 2]⟩]
@[reducible] def R6_8 : List XO := [⟨(some 31), none, .load 5 true (.t 3), []⟩, ⟨(some 32), none, .mv (.t 1), []⟩, ⟨(some 33), none, .mv (.t 9), []⟩, ⟨(some 34), none, .call 12 [(.t 31), (.t 32), (.t 33)], [0, 1, 2]⟩, ⟨(some 10), none, .mv (.t 34), [3, 3, 0, 1, 2, 3]⟩]
@[reducible] def R6_9 : List XO := [⟨(some 35), none, .mv (.t 8), []⟩, ⟨(some 36), none, .mv (.t 35), [0]⟩, ⟨(some 37), (some (36, true)), .mv (.t 9), [1]⟩, ⟨(some 38), (some (36, true)), .fad 0 (.t 7), [1]⟩, ⟨(some 39), (some (36, true)), .load 1 false (.t 38), [3, 1]⟩, ⟨(some 40), (some (36, true)), .bin false .eql (.t 37) (.t 39), [2, 4, 1]⟩, ⟨(some 41), none, .pick (.t 36) (.t 40) (.c (.bool
    false)), [1, 5]⟩]
@[reducible] def R6_10 : List XO := [⟨(some 42), none, .mv (.t 10), []⟩, ⟨(some 43), none, .len false (.t 42), [0]⟩, ⟨(some 44), none, .bin false .gtr (.t 43) (.c (.int .i64 0)), [1]⟩, ⟨(some 45), none, .mv (.t 44), [2]⟩, ⟨(some 46), (some (45, true)), .mv (.t 10), [3]⟩, ⟨(some 47), (some (45, true)), .mv (.t 10), [3]⟩, ⟨(some 48), (some (45, true)), .len false (.t 47), [5, 3]⟩, ⟨(some 49), (some
    (45, true)), .bin false .sub (.t 48) (.c (.int .i64 1)), [6, 3]⟩, ⟨(some 50), (some (45, true)), .iaS 1 (.t 46) (.t 49), [4, 7, 3]⟩, ⟨(some 51), (some (45, true)), .load 1 false (.t 50), [8, 3]⟩, ⟨(some 52), (some (45, true)), .fad 1 (.t 7), [3]⟩, ⟨(some 53), (some (45, true)), .load 1 false (.t 52), [10, 3]⟩, ⟨(some 54), (some (45, true)), .bin false .eql (.t 51) (.t 53), [9, 11, 3]⟩, ⟨(some
    55), none, .pick (.t 45) (.t 54) (.c (.bool false)), [3, 12]⟩, ⟨(some 56), none, .mv (.t 55), [13, 3]⟩, ⟨(some 57), (some (56, true)), .mv (.t 2), [14]⟩, ⟨(some 58), (some (56, true)), .bin false .gtr (.t 57) (.c (.int .i64 0)), [15, 14]⟩, ⟨(some 59), (some (56, true)), .mv (.t 58), [16, 14, 14]⟩, ⟨(some 60), (some (59, false)), .load 5 true (.t 3), [17]⟩, ⟨(some 61), (some (59, false)), .mv
    (.t 1), [17]⟩, ⟨(some 62), (some (59, false)), .call 16 [(.t 60), (.t 61)], [18, 19, 17, 17]⟩, ⟨(some 63), (some (56, true)), .pick (.t 59) (.c (.bool true)) (.t 62), [17, 20, 14]⟩, ⟨(some 64), none, .pick (.t 56) (.t 63) (.c (.bool false)), [14, 21]⟩, ⟨(some 6), none, .mv (.t 64), [22, 20, 0, 1, 2, 3, 4, 5, 6, 7, 8, 9, 10, 11, 12, 13, 14, 15, 16, 17, 18, 19, 20, 21, 22]⟩]
@[reducible] def R6_11 : List XO := [⟨(some 65), none, .mv (.t 10), []⟩, ⟨(some 66), none, .len false (.t 65), [0]⟩, ⟨(some 67), none, .bin false .gtr (.t 66) (.c (.int .i64 0)), [1]⟩]
@[reducible] def R6_12 : List XO := [⟨(some 6), none, .mv (.c (.bool false)), []⟩]
@[reducible] def R6_13 : List XO := [⟨(some 29), none, .mv (.t 9), []⟩, ⟨(some 30), none, .bin false .add (.t 29) (.c (.int .i64 1)), [0]⟩, ⟨(some 9), none, .mv (.t 30), [1, 0, 1]⟩]
@[reducible] def L6_0 : XC := (.seq (.seq (.reg false [] R6_7) (.cond (.t 28) .skip (.exit 0))) (.seq (.blk 1 (.seq (.reg false [] R6_8) (.seq (.seq (.reg false [] R6_9) (.cond (.t 41) (.seq (.reg true [] R6_10) .ret) .skip)) (.seq (.reg false [] R6_11) (.cond (.t 67) (.seq (.reg false [] R6_12) .ret) .skip))))) (.reg false [] R6_13)))
@[reducible] def R6_14 : List XO := [⟨(some 68), none, .mv (.t 8), []⟩, ⟨(some 69), none, .un .not (.t 68), [0]⟩, ⟨(some 70), none, .mv (.t 69), [1]⟩, ⟨(some 71), (some (70, true)), .mv (.t 2), [2]⟩, ⟨(some 72), (some (70, true)), .bin false .gtr (.t 71) (.c (.int .i64 0)), [3, 2]⟩, ⟨(some 73), (some (70, true)), .mv (.t 72), [4, 2, 2]⟩, ⟨(some 74), (some (73, false)), .load 5 true (.t 3), [5]⟩,
    ⟨(some 75), (some (73, false)), .mv (.t 1), [5]⟩, ⟨(some 76), (some (73, false)), .call 16 [(.t 74), (.t 75)], [6, 7, 5, 5]⟩, ⟨(some 77), (some (73, false)), .un .not (.t 76), [8, 5]⟩, ⟨(some 78), (some (70, true)), .pick (.t 73) (.c (.bool true)) (.t 77), [5, 9, 2]⟩, ⟨(some 79), none, .pick (.t 70) (.t 78) (.c (.bool false)), [2, 10]⟩, ⟨(some 6), none, .mv (.t 79), [11, 8, 0, 1, 2, 3, 4, 5, 6,
    7, 8, 9, 10, 11]⟩]
@[reducible] def F6 : XF := ⟨80, (.seq (.reg false [] R6_0) (.seq (.seq (.reg false [] R6_1) (.cond (.t 12) (.seq (.reg false [] R6_2) .ret) .skip)) (.seq (.seq (.reg false [] R6_3) (.cond (.t 15) (.seq (.reg false [] R6_4) .ret) .skip)) (.seq (.reg false [] R6_5) (.seq (.seq (.reg false [] R6_6) (.blk 0 (.loop L6_0))) (.seq (.reg false [] R6_14) .ret)))))), [(6, none)]⟩
/-- codesearch/codesearchlaw09.RegexecJoins -/
@[reducible] def R7_0 : List XO := [⟨(some 3), none, .box 10 (.t 0), []⟩, ⟨(some 6), none, .mv (.c (.bool false)), []⟩]
@[reducible] def R7_1 : List XO := [⟨(some 16), none, .call 10 [], []⟩, ⟨(some 17), none, .un .not (.t 16), [0]⟩]
@[reducible] def R7_2 : List XO := [⟨(some 6), none, .mv (.c (.bool false)), []⟩]
@[reducible] def R7_3 : List XO := [⟨(some 18), none, .iaA 2 5 (.t 3) (.c (.int .i64 0)), []⟩, ⟨(some 19), none, .load 5 true (.t 18), [0]⟩, ⟨(some 20), none, .iaA 2 5 (.t 3) (.c (.int .i64 1)), []⟩, ⟨(some 21), none, .load 5 true (.t 20), [2]⟩, ⟨(some 22), none, .bsl 25 5 [(.int .i64 0), .nls, (.int .i64 0), (.int .i64 0), .nls] 2 [(0, (.t 19)), (1, (.t 21))], [1, 3]⟩, ⟨(some 23), none, .call 23
    [(.t 22)], [4]⟩, ⟨(some 7), none, .alloc [(.int .i64 0), .nls, (.int .i64 0), (.int .i64 0), .nls], []⟩, ⟨none, none, .store 5 (.t 7) (.t 23), [6, 5, 5, 0, 1, 2, 3, 4, 5, 6]⟩]
@[reducible] def R7_4 : List XO := [⟨(some 24), none, .iaA 2 5 (.t 3) (.c (.int .i64 0)), []⟩, ⟨(some 25), none, .load 5 true (.t 24), [0]⟩, ⟨(some 26), none, .iaA 2 5 (.t 3) (.c (.int .i64 1)), []⟩, ⟨(some 27), none, .load 5 true (.t 26), [2]⟩, ⟨(some 28), none, .bsl 25 5 [(.int .i64 0), .nls, (.int .i64 0), (.int .i64 0), .nls] 2 [(0, (.t 25)), (1, (.t 27))], [1, 3]⟩, ⟨(some 29), none, .bdf
    [(.int .i64 0), .nls, (.int .i64 0), (.int .i64 0), .nls] [(0, 1, (.c (.int .i64 3))), (4, 1, (.t 28))], [4]⟩, ⟨(some 8), none, .alloc [(.int .i64 0), .nls, (.int .i64 0), (.int .i64 0), .nls], []⟩, ⟨none, none, .store 5 (.t 8) (.t 29), [6, 5, 0, 1, 2, 3, 4, 5, 6]⟩]
@[reducible] def R7_5 : List XO := [⟨(some 30), none, .mv (.t 1), []⟩, ⟨(some 31), none, .len true (.t 30), [0]⟩, ⟨(some 32), none, .bin false .gtr (.t 31) (.c (.int .i64 60)), [1]⟩, ⟨(some 33), none, .mv (.t 32), [2]⟩, ⟨(some 34), (some (33, false)), .load 5 true (.t 7), [3]⟩, ⟨(some 35), (some (33, false)), .call 24 [(.t 34)], [4, 3, 3]⟩, ⟨(some 36), (some (33, false)), .bin false .neq (.t 35)
    (.c (.int .i64 0)), [5, 3]⟩, ⟨(some 37), none, .pick (.t 33) (.c (.bool true)) (.t 36), [3, 6]⟩, ⟨(some 38), none, .mv (.t 37), [7, 5]⟩, ⟨(some 39), (some (38, false)), .load 5 true (.t 8), [8]⟩, ⟨(some 40), (some (38, false)), .call 24 [(.t 39)], [9, 8, 8]⟩, ⟨(some 41), (some (38, false)), .bin false .neq (.t 40) (.c (.int .i64 0)), [10, 8]⟩, ⟨(some 42), none, .pick (.t 38) (.c (.bool true))
    (.t 41), [8, 11]⟩]
@[reducible] def R7_6 : List XO := [⟨(some 6), none, .mv (.c (.bool true)), []⟩]
@[reducible] def R7_7 : List XO := [⟨(some 43), none, .iaA 2 5 (.t 3) (.c (.int .i64 0)), []⟩, ⟨(some 44), none, .load 5 true (.t 43), [0]⟩, ⟨(some 45), none, .mv (.t 1), []⟩, ⟨(some 46), none, .mv (.t 2), []⟩, ⟨(some 47), none, .call 12 [(.t 44), (.t 45), (.t 46)], [1, 2, 3]⟩, ⟨(some 48), none, .iaA 2 5 (.t 3) (.c (.int .i64 1)), []⟩, ⟨(some 49), none, .load 5 true (.t 48), [5]⟩, ⟨(some 50), none,
    .mv (.t 1), []⟩, ⟨(some 51), none, .mv (.t 2), []⟩, ⟨(some 52), none, .call 12 [(.t 49), (.t 50), (.t 51)], [6, 7, 8, 4]⟩, ⟨(some 9), none, .mv (.t 47), [4, 9, 0, 1, 2, 3, 4]⟩, ⟨(some 10), none, .mv (.t 52), [9, 10, 0, 1, 2, 3, 4, 5, 6, 7, 8, 9, 10]⟩]
@[reducible] def R7_8 : List XO := [⟨(some 53), none, .load 5 true (.t 7), []⟩, ⟨(some 54), none, .mv (.t 1), []⟩, ⟨(some 55), none, .mv (.t 2), []⟩, ⟨(some 56), none, .call 12 [(.t 53), (.t 54), (.t 55)], [0, 1, 2]⟩, ⟨(some 57), none, .load 5 true (.t 8), []⟩, ⟨(some 58), none, .mv (.t 1), []⟩, ⟨(some 59), none, .mv (.t 2), []⟩, ⟨(some 60), none, .call 12 [(.t 57), (.t 58), (.t 59)], [4, 5, 6,
    3]⟩, ⟨(some 11), none, .mv (.t 56), [3, 7, 0, 1, 2, 3]⟩, ⟨(some 12), none, .mv (.t 60), [7, 8, 0, 1, 2, 3, 4, 5, 6, 7, 8]⟩]
@[reducible] def R7_9 : List XO := [⟨(some 13), none, .mv (.c (.int .i64 0)), []⟩]
@[reducible] def R7_10 : List XO := [⟨(some 61), none, .mv (.t 13), []⟩, ⟨(some 62), none, .mv (.t 1), []⟩, ⟨(some 63), none, .len true (.t 62), [1]⟩, ⟨(some 64), none, .bin false .leq (.t 61) (.t 63), [0, 2]⟩]
@[reducible] def R7_11 : List XO := [⟨(some 14), none, .mv (.c (.bool false)), []⟩]
@[reducible] def R7_12 : List XO := [⟨(some 15), none, .mv (.c (.int .i64 0)), []⟩]
@[reducible] def R7_13 : List XO := [⟨(some 67), none, .mv (.t 15), []⟩, ⟨(some 68), none, .mv (.t 9), []⟩, ⟨(some 69), none, .len false (.t 68), [1]⟩, ⟨(some 70), none, .bin false .lss (.t 67) (.t 69), [0, 2]⟩]
@[reducible] def R7_14 : List XO := [⟨(some 73), none, .mv (.t 14), []⟩, ⟨(some 74), none, .mv (.t 73), [0]⟩, ⟨(some 75), (some (74, false)), .iaA 2 5 (.t 3) (.c (.int .i64 1)), [1]⟩, ⟨(some 76), (some (74, false)), .load 5 true (.t 75), [2, 1]⟩, ⟨(some 77), (some (74, false)), .mv (.t 1), [1]⟩, ⟨(some 78), (some (74, false)), .mv (.t 9), [1]⟩, ⟨(some 79), (some (74, false)), .mv (.t 15), [1]⟩,
    ⟨(some 80), (some (74, false)), .iaS 1 (.t 78) (.t 79), [5, 6, 1]⟩, ⟨(some 81), (some (74, false)), .load 1 false (.t 80), [7, 1]⟩, ⟨(some 82), (some (74, false)), .call 12 [(.t 76), (.t 77), (.t 81)], [3, 4, 8, 1, 1]⟩, ⟨(some 83), (some (74, false)), .mv (.t 13), [1]⟩, ⟨(some 84), (some (74, false)), .call 25 [(.t 82), (.t 83)], [9, 10, 9, 1]⟩, ⟨(some 85), none, .pick (.t 74) (.c (.bool true))
    (.t 84), [1, 11]⟩, ⟨(some 14), none, .mv (.t 85), [12, 11, 0, 1, 2, 3, 4, 5, 6, 7, 8, 9, 10, 11, 12]⟩]
@[reducible] def R7_15 : List XO := [⟨(some 71), none, .mv (.t 15), []⟩, ⟨(some 72), none, .bin false .add (.t 71) (.c (.int .i64 1)), [0]⟩, ⟨(some 15), none, .mv (.t 72), [1, 0, 1]⟩]
@[reducible] def L7_0 : XC := (.seq (.seq (.reg false [] R7_13) (.cond (.t 70) .skip (.exit 2))) (.seq (.blk 3 (.reg true [] R7_14)) (.reg false [] R7_15)))
@[reducible] def R7_16 : List XO := [⟨(some 86), none, .mv (.t 11), []⟩, ⟨(some 87), none, .mv (.t 13), []⟩, ⟨(some 88), none, .call 25 [(.t 86), (.t 87)], [0, 1]⟩, ⟨(some 89), none, .mv (.t 14), []⟩, ⟨(some 90), none, .bin true .neq (.t 88) (.t 89), [2, 3]⟩, ⟨(some 91), none, .mv (.t 90), [4, 2]⟩, ⟨(some 92), (some (91, false)), .mv (.t 12), [5]⟩, ⟨(some 93), (some (91, false)), .mv (.t 13), [5]⟩,
    ⟨(some 94), (some (91, false)), .call 25 [(.t 92), (.t 93)], [6, 7, 5, 5]⟩, ⟨(some 95), (some (91, false)), .mv (.t 9), [5]⟩, ⟨(some 96), (some (91, false)), .mv (.t 13), [5]⟩, ⟨(some 97), (some (91, false)), .call 25 [(.t 95), (.t 96)], [9, 10, 8, 5]⟩, ⟨(some 98), (some (91, false)), .mv (.t 97), [11, 11, 5]⟩, ⟨(some 99), (some (98, false)), .mv (.t 10), [12]⟩, ⟨(some 100), (some (98, false)),
    .mv (.t 13), [12]⟩, ⟨(some 101), (some (98, false)), .call 25 [(.t 99), (.t 100)], [13, 14, 12, 12]⟩, ⟨(some 102), (some (91, false)), .pick (.t 98) (.c (.bool true)) (.t 101), [12, 15, 5]⟩, ⟨(some 103), (some (91, false)), .bin true .neq (.t 94) (.t 102), [8, 16, 5]⟩, ⟨(some 104), none, .pick (.t 91) (.c (.bool true)) (.t 103), [5, 17]⟩]
@[reducible] def R7_17 : List XO := [⟨(some 6), none, .mv (.c (.bool false)), []⟩]
@[reducible] def R7_18 : List XO := [⟨(some 65), none, .mv (.t 13), []⟩, ⟨(some 66), none, .bin false .add (.t 65) (.c (.int .i64 1)), [0]⟩, ⟨(some 13), none, .mv (.t 66), [1, 0, 1]⟩]
@[reducible] def L7_1 : XC := (.seq (.seq (.reg false [] R7_10) (.cond (.t 64) .skip (.exit 0))) (.seq (.blk 1 (.seq (.reg false [] R7_11) (.seq (.seq (.reg false [] R7_12) (.blk 2 (.loop L7_0))) (.seq (.reg false [] R7_16) (.cond (.t 104) (.seq (.reg false [] R7_17) .ret) .skip))))) (.reg false [] R7_18)))
@[reducible] def R7_19 : List XO := [⟨(some 6), none, .mv (.c (.bool true)), []⟩]
@[reducible] def F7 : XF := ⟨105, (.seq (.reg false [] R7_0) (.seq (.seq (.reg false [] R7_1) (.cond (.t 17) (.seq (.reg false [] R7_2) .ret) .skip)) (.seq (.reg false [] R7_3) (.seq (.reg false [] R7_4) (.seq (.seq (.reg false [] R7_5) (.cond (.t 42) (.seq (.reg false [] R7_6) .ret) .skip)) (.seq (.reg true [] R7_7) (.seq (.reg true [] R7_8) (.seq (.seq (.reg false [] R7_9) (.blk 0 (.loop L7_1)))
    (.seq (.reg false [] R7_19) .ret))))))))), [(6, none)]⟩
/-- codesearch/codesearchlaw09.RegexecRepeats -/
@[reducible] def R8_0 : List XO := [⟨(some 3), none, .box 5 (.t 0), []⟩, ⟨(some 5), none, .box 3 (.t 2), []⟩, ⟨(some 6), none, .mv (.c (.bool false)), []⟩]
@[reducible] def R8_1 : List XO := [⟨(some 21), none, .call 10 [], []⟩, ⟨(some 22), none, .un .not (.t 21), [0]⟩]
@[reducible] def R8_2 : List XO := [⟨(some 6), none, .mv (.c (.bool false)), []⟩]
@[reducible] def R8_3 : List XO := [⟨(some 23), none, .iaA 3 1 (.t 5) (.c (.int .i64 1)), []⟩, ⟨(some 24), none, .load 1 false (.t 23), [0]⟩, ⟨(some 25), none, .iaA 3 1 (.t 5) (.c (.int .i64 2)), []⟩, ⟨(some 26), none, .load 1 false (.t 25), [2]⟩, ⟨(some 7), none, .mv (.t 24), [1, 0, 1]⟩, ⟨(some 8), none, .mv (.t 26), [3, 4, 0, 1, 2, 3, 4]⟩]
@[reducible] def R8_4 : List XO := [⟨(some 27), none, .mv (.t 7), []⟩, ⟨(some 28), none, .mv (.t 8), []⟩, ⟨(some 29), none, .load 5 true (.t 3), []⟩, ⟨(some 30), none, .bsl 25 5 [(.int .i64 0), .nls, (.int .i64 0), (.int .i64 0), .nls] 1 [(0, (.t 29))], [2]⟩, ⟨(some 31), none, .bdf [(.int .i64 0), .nls, (.int .i64 0), (.int .i64 0), .nls] [(0, 1, (.c (.int .i64 4))), (2, 1, (.t 27)), (3, 1, (.t
    28)), (4, 1, (.t 30))], [0, 1, 3]⟩, ⟨(some 9), none, .alloc [(.int .i64 0), .nls, (.int .i64 0), (.int .i64 0), .nls], []⟩, ⟨none, none, .store 5 (.t 9) (.t 31), [5, 4, 0, 1, 2, 3, 4, 5]⟩]
@[reducible] def R8_5 : List XO := [⟨(some 32), none, .mv (.t 1), []⟩, ⟨(some 33), none, .len true (.t 32), [0]⟩, ⟨(some 34), none, .bin false .gtr (.t 33) (.c (.int .i64 40)), [1]⟩, ⟨(some 35), none, .mv (.t 34), [2]⟩, ⟨(some 36), (some (35, false)), .load 5 true (.t 9), [3]⟩, ⟨(some 37), (some (35, false)), .call 24 [(.t 36)], [4, 3, 3]⟩, ⟨(some 38), (some (35, false)), .bin false .neq (.t 37)
    (.c (.int .i64 0)), [5, 3]⟩, ⟨(some 39), none, .pick (.t 35) (.c (.bool true)) (.t 38), [3, 6]⟩]
@[reducible] def R8_6 : List XO := [⟨(some 6), none, .mv (.c (.bool true)), []⟩]
@[reducible] def R8_7 : List XO := [⟨(some 40), none, .iaA 3 1 (.t 5) (.c (.int .i64 0)), []⟩, ⟨(some 41), none, .load 1 false (.t 40), [0]⟩, ⟨(some 42), none, .bsl 3 1 [(.int .i64 0)] 1 [(0, (.t 41))], [1]⟩, ⟨(some 10), none, .mv (.t 42), [2, 0, 1, 2]⟩]
@[reducible] def R8_8 : List XO := [⟨(some 43), none, .iaA 3 1 (.t 5) (.c (.int .i64 0)), []⟩, ⟨(some 44), none, .load 1 false (.t 43), [0]⟩, ⟨(some 45), none, .bin false .lss (.t 44) (.c (.int .i64 0)), [1]⟩, ⟨(some 46), none, .mv (.t 45), [2]⟩, ⟨(some 47), (some (46, false)), .iaA 3 1 (.t 5) (.c (.int .i64 0)), [3]⟩, ⟨(some 48), (some (46, false)), .load 1 false (.t 47), [4, 3]⟩, ⟨(some 49),
    (some (46, false)), .mv (.t 1), [3]⟩, ⟨(some 50), (some (46, false)), .len true (.t 49), [6, 3]⟩, ⟨(some 51), (some (46, false)), .bin false .gtr (.t 48) (.t 50), [5, 7, 3]⟩, ⟨(some 52), none, .pick (.t 46) (.c (.bool true)) (.t 51), [3, 8]⟩]
@[reducible] def R8_9 : List XO := [⟨(some 10), none, .mv (.c .nls), []⟩]
@[reducible] def R8_10 : List XO := [⟨(some 53), none, .mv (.t 8), []⟩, ⟨(some 11), none, .mv (.t 53), [0, 0]⟩]
@[reducible] def R8_11 : List XO := [⟨(some 54), none, .mv (.t 8), []⟩, ⟨(some 55), none, .bin false .lss (.t 54) (.c (.int .i64 0)), [0]⟩]
@[reducible] def R8_12 : List XO := [⟨(some 56), none, .mv (.t 7), []⟩, ⟨(some 57), none, .mv (.t 1), []⟩, ⟨(some 58), none, .len true (.t 57), [1]⟩, ⟨(some 59), none, .bin false .add (.t 56) (.t 58), [0, 2]⟩, ⟨(some 60), none, .bin false .add (.t 59) (.c (.int .i64 1)), [3]⟩, ⟨(some 11), none, .mv (.t 60), [4, 0, 1, 2, 3, 4]⟩]
@[reducible] def R8_13 : List XO := [⟨(some 12), none, .mv (.c .nls), []⟩]
@[reducible] def R8_14 : List XO := [⟨(some 13), none, .mv (.c (.int .i64 0)), []⟩]
@[reducible] def R8_15 : List XO := [⟨(some 61), none, .mv (.t 13), []⟩, ⟨(some 62), none, .mv (.t 11), []⟩, ⟨(some 63), none, .bin false .leq (.t 61) (.t 62), [0, 1]⟩]
@[reducible] def R8_16 : List XO := [⟨(some 66), none, .mv (.t 13), []⟩, ⟨(some 67), none, .mv (.t 7), []⟩, ⟨(some 68), none, .bin false .geq (.t 66) (.t 67), [0, 1]⟩]
@[reducible] def R8_17 : List XO := [⟨(some 14), none, .mv (.c (.int .i64 0)), []⟩]
@[reducible] def R8_18 : List XO := [⟨(some 69), none, .mv (.t 14), []⟩, ⟨(some 70), none, .mv (.t 10), []⟩, ⟨(some 71), none, .len false (.t 70), [1]⟩, ⟨(some 72), none, .bin false .lss (.t 69) (.t 71), [0, 2]⟩]
@[reducible] def R8_19 : List XO := [⟨(some 75), none, .mv (.t 12), []⟩, ⟨(some 76), none, .mv (.t 10), []⟩, ⟨(some 77), none, .mv (.t 14), []⟩, ⟨(some 78), none, .iaS 1 (.t 76) (.t 77), [1, 2]⟩, ⟨(some 79), none, .load 1 false (.t 78), [3]⟩, ⟨(some 80), none, .call 25 [(.t 75), (.t 79)], [0, 4]⟩, ⟨(some 81), none, .un .not (.t 80), [5]⟩]
@[reducible] def R8_20 : List XO := [⟨(some 82), none, .mv (.t 12), []⟩, ⟨(some 83), none, .mv (.t 10), []⟩, ⟨(some 84), none, .mv (.t 14), []⟩, ⟨(some 85), none, .iaS 1 (.t 83) (.t 84), [1, 2]⟩, ⟨(some 86), none, .load 1 false (.t 85), [3]⟩, ⟨(some 87), none, .bsl 3 1 [(.int .i64 0)] 1 [(0, (.t 86))], [4]⟩, ⟨(some 88), none, .app 3 1 8 (.t 82) (.t 87), [0, 5]⟩, ⟨(some 12), none, .mv (.t 88), [6,
    6, 0, 1, 2, 3, 4, 5, 6]⟩]
@[reducible] def R8_21 : List XO := [⟨(some 73), none, .mv (.t 14), []⟩, ⟨(some 74), none, .bin false .add (.t 73) (.c (.int .i64 1)), [0]⟩, ⟨(some 14), none, .mv (.t 74), [1, 0, 1]⟩]
@[reducible] def L8_0 : XC := (.seq (.seq (.reg false [] R8_18) (.cond (.t 72) .skip (.exit 2))) (.seq (.blk 3 (.seq (.reg false [] R8_19) (.cond (.t 81) (.reg false [] R8_20) .skip))) (.reg false [] R8_21)))
@[reducible] def R8_22 : List XO := [⟨(some 15), none, .mv (.c .nls), []⟩]
@[reducible] def R8_23 : List XO := [⟨(some 16), none, .mv (.c (.int .i64 0)), []⟩]
@[reducible] def R8_24 : List XO := [⟨(some 89), none, .mv (.t 16), []⟩, ⟨(some 90), none, .mv (.t 10), []⟩, ⟨(some 91), none, .len false (.t 90), [1]⟩, ⟨(some 92), none, .bin false .lss (.t 89) (.t 91), [0, 2]⟩]
@[reducible] def R8_25 : List XO := [⟨(some 95), none, .load 5 true (.t 3), []⟩, ⟨(some 96), none, .mv (.t 1), []⟩, ⟨(some 97), none, .mv (.t 10), []⟩, ⟨(some 98), none, .mv (.t 16), []⟩, ⟨(some 99), none, .iaS 1 (.t 97) (.t 98), [2, 3]⟩, ⟨(some 100), none, .load 1 false (.t 99), [4]⟩, ⟨(some 101), none, .call 12 [(.t 95), (.t 96), (.t 100)], [0, 1, 5]⟩, ⟨(some 17), none, .mv (.t 101), [6, 6, 0, 1,
    2, 3, 4, 5, 6]⟩]
@[reducible] def R8_26 : List XO := [⟨(some 18), none, .mv (.c (.int .i64 0)), []⟩]
@[reducible] def R8_27 : List XO := [⟨(some 102), none, .mv (.t 18), []⟩, ⟨(some 103), none, .mv (.t 17), []⟩, ⟨(some 104), none, .len false (.t 103), [1]⟩, ⟨(some 105), none, .bin false .lss (.t 102) (.t 104), [0, 2]⟩]
@[reducible] def R8_28 : List XO := [⟨(some 108), none, .mv (.t 15), []⟩, ⟨(some 109), none, .mv (.t 17), []⟩, ⟨(some 110), none, .mv (.t 18), []⟩, ⟨(some 111), none, .iaS 1 (.t 109) (.t 110), [1, 2]⟩, ⟨(some 112), none, .load 1 false (.t 111), [3]⟩, ⟨(some 113), none, .call 25 [(.t 108), (.t 112)], [0, 4]⟩, ⟨(some 114), none, .un .not (.t 113), [5]⟩]
@[reducible] def R8_29 : List XO := [⟨(some 115), none, .mv (.t 15), []⟩, ⟨(some 116), none, .mv (.t 17), []⟩, ⟨(some 117), none, .mv (.t 18), []⟩, ⟨(some 118), none, .iaS 1 (.t 116) (.t 117), [1, 2]⟩, ⟨(some 119), none, .load 1 false (.t 118), [3]⟩, ⟨(some 120), none, .bsl 3 1 [(.int .i64 0)] 1 [(0, (.t 119))], [4]⟩, ⟨(some 121), none, .app 3 1 8 (.t 115) (.t 120), [0, 5]⟩, ⟨(some 15), none, .mv
    (.t 121), [6, 6, 0, 1, 2, 3, 4, 5, 6]⟩]
@[reducible] def R8_30 : List XO := [⟨(some 106), none, .mv (.t 18), []⟩, ⟨(some 107), none, .bin false .add (.t 106) (.c (.int .i64 1)), [0]⟩, ⟨(some 18), none, .mv (.t 107), [1, 0, 1]⟩]
@[reducible] def L8_1 : XC := (.seq (.seq (.reg false [] R8_27) (.cond (.t 105) .skip (.exit 6))) (.seq (.blk 7 (.seq (.reg false [] R8_28) (.cond (.t 114) (.reg false [] R8_29) .skip))) (.reg false [] R8_30)))
@[reducible] def R8_31 : List XO := [⟨(some 93), none, .mv (.t 16), []⟩, ⟨(some 94), none, .bin false .add (.t 93) (.c (.int .i64 1)), [0]⟩, ⟨(some 16), none, .mv (.t 94), [1, 0, 1]⟩]
@[reducible] def L8_2 : XC := (.seq (.seq (.reg false [] R8_24) (.cond (.t 92) .skip (.exit 4))) (.seq (.blk 5 (.seq (.reg true [] R8_25) (.seq (.reg false [] R8_26) (.blk 6 (.loop L8_1))))) (.reg false [] R8_31)))
@[reducible] def R8_32 : List XO := [⟨(some 122), none, .mv (.t 15), []⟩, ⟨(some 10), none, .mv (.t 122), [0, 0]⟩]
@[reducible] def R8_33 : List XO := [⟨(some 64), none, .mv (.t 13), []⟩, ⟨(some 65), none, .bin false .add (.t 64) (.c (.int .i64 1)), [0]⟩, ⟨(some 13), none, .mv (.t 65), [1, 0, 1]⟩]
@[reducible] def L8_3 : XC := (.seq (.seq (.reg false [] R8_15) (.cond (.t 63) .skip (.exit 0))) (.seq (.blk 1 (.seq (.seq (.reg false [] R8_16) (.cond (.t 68) (.seq (.reg false [] R8_17) (.blk 2 (.loop L8_0))) .skip)) (.seq (.reg false [] R8_22) (.seq (.seq (.reg false [] R8_23) (.blk 4 (.loop L8_2))) (.reg false [] R8_32))))) (.reg false [] R8_33)))
@[reducible] def R8_34 : List XO := [⟨(some 123), none, .load 5 true (.t 9), []⟩, ⟨(some 124), none, .mv (.t 1), []⟩, ⟨(some 125), none, .iaA 3 1 (.t 5) (.c (.int .i64 0)), []⟩, ⟨(some 126), none, .load 1 false (.t 125), [2]⟩, ⟨(some 127), none, .call 12 [(.t 123), (.t 124), (.t 126)], [0, 1, 3]⟩, ⟨(some 19), none, .mv (.t 127), [4, 4, 0, 1, 2, 3, 4]⟩]
@[reducible] def R8_35 : List XO := [⟨(some 128), none, .mv (.t 19), []⟩, ⟨(some 129), none, .len false (.t 128), [0]⟩, ⟨(some 130), none, .mv (.t 12), []⟩, ⟨(some 131), none, .len false (.t 130), [2]⟩, ⟨(some 132), none, .bin false .neq (.t 129) (.t 131), [1, 3]⟩]
@[reducible] def R8_36 : List XO := [⟨(some 6), none, .mv (.c (.bool false)), []⟩]
@[reducible] def R8_37 : List XO := [⟨(some 20), none, .mv (.c (.int .i64 0)), []⟩]
@[reducible] def R8_38 : List XO := [⟨(some 133), none, .mv (.t 20), []⟩, ⟨(some 134), none, .mv (.t 19), []⟩, ⟨(some 135), none, .len false (.t 134), [1]⟩, ⟨(some 136), none, .bin false .lss (.t 133) (.t 135), [0, 2]⟩]
@[reducible] def R8_39 : List XO := [⟨(some 139), none, .mv (.t 12), []⟩, ⟨(some 140), none, .mv (.t 19), []⟩, ⟨(some 141), none, .mv (.t 20), []⟩, ⟨(some 142), none, .iaS 1 (.t 140) (.t 141), [1, 2]⟩, ⟨(some 143), none, .load 1 false (.t 142), [3]⟩, ⟨(some 144), none, .call 25 [(.t 139), (.t 143)], [0, 4]⟩, ⟨(some 145), none, .un .not (.t 144), [5]⟩]
@[reducible] def R8_40 : List XO := [⟨(some 6), none, .mv (.c (.bool false)), []⟩]
@[reducible] def R8_41 : List XO := [⟨(some 137), none, .mv (.t 20), []⟩, ⟨(some 138), none, .bin false .add (.t 137) (.c (.int .i64 1)), [0]⟩, ⟨(some 20), none, .mv (.t 138), [1, 0, 1]⟩]
@[reducible] def L8_4 : XC := (.seq (.seq (.reg false [] R8_38) (.cond (.t 136) .skip (.exit 8))) (.seq (.blk 9 (.seq (.reg false [] R8_39) (.cond (.t 145) (.seq (.reg false [] R8_40) .ret) .skip))) (.reg false [] R8_41)))
@[reducible] def R8_42 : List XO := [⟨(some 6), none, .mv (.c (.bool true)), []⟩]
@[reducible] def F8 : XF := ⟨146, (.seq (.reg false [] R8_0) (.seq (.seq (.reg false [] R8_1) (.cond (.t 22) (.seq (.reg false [] R8_2) .ret) .skip)) (.seq (.reg true [] R8_3) (.seq (.reg false [] R8_4) (.seq (.seq (.reg false [] R8_5) (.cond (.t 39) (.seq (.reg false [] R8_6) .ret) .skip)) (.seq (.reg false [] R8_7) (.seq (.seq (.reg false [] R8_8) (.cond (.t 52) (.reg false [] R8_9) .skip)) (.seq
    (.reg false [] R8_10) (.seq (.seq (.reg false [] R8_11) (.cond (.t 55) (.reg false [] R8_12) .skip)) (.seq (.reg false [] R8_13) (.seq (.seq (.reg false [] R8_14) (.blk 0 (.loop L8_3))) (.seq (.reg false [] R8_34) (.seq (.seq (.reg false [] R8_35) (.cond (.t 132) (.seq (.reg false [] R8_36) .ret) .skip)) (.seq (.seq (.reg false [] R8_37) (.blk 8 (.loop L8_4))) (.seq (.reg false [] R8_42)
    .ret))))))))))))))), [(6, none)]⟩
/-- codesearch/codesearchlaw09.RegexecApart -/
@[reducible] def R9_0 : List XO := [⟨(some 2), none, .box 5 (.t 0), []⟩, ⟨(some 4), none, .mv (.c (.bool false)), []⟩]
@[reducible] def R9_1 : List XO := [⟨(some 7), none, .call 10 [], []⟩, ⟨(some 8), none, .un .not (.t 7), [0]⟩]
@[reducible] def R9_2 : List XO := [⟨(some 4), none, .mv (.c (.bool false)), []⟩]
@[reducible] def R9_3 : List XO := [⟨(some 9), none, .mv (.t 1), []⟩, ⟨(some 10), none, .len true (.t 9), [0]⟩, ⟨(some 11), none, .bin false .gtr (.t 10) (.c (.int .i64 60)), [1]⟩]
@[reducible] def R9_4 : List XO := [⟨(some 4), none, .mv (.c (.bool true)), []⟩]
@[reducible] def R9_5 : List XO := [⟨(some 12), none, .load 5 true (.t 2), []⟩, ⟨(some 13), none, .mv (.t 1), []⟩, ⟨(some 14), none, .call 21 [(.t 12), (.t 13)], [0, 1]⟩, ⟨(some 5), none, .mv (.t 14), [2, 2, 0, 1, 2]⟩]
@[reducible] def R9_6 : List XO := [⟨(some 6), none, .mv (.c (.int .i64 0)), []⟩]
@[reducible] def R9_7 : List XO := [⟨(some 15), none, .mv (.t 6), []⟩, ⟨(some 16), none, .mv (.t 5), []⟩, ⟨(some 17), none, .len false (.t 16), [1]⟩, ⟨(some 18), none, .bin false .lss (.t 15) (.t 17), [0, 2]⟩]
@[reducible] def R9_8 : List XO := [⟨(some 21), none, .load 5 true (.t 2), []⟩, ⟨(some 22), none, .mv (.t 1), []⟩, ⟨(some 23), none, .mv (.t 5), []⟩, ⟨(some 24), none, .mv (.t 6), []⟩, ⟨(some 25), none, .iaS 2 (.t 23) (.t 24), [2, 3]⟩, ⟨(some 26), none, .fad 0 (.t 25), [4]⟩, ⟨(some 27), none, .load 1 false (.t 26), [5]⟩, ⟨(some 28), none, .call 12 [(.t 21), (.t 22), (.t 27)], [0, 1, 6]⟩, ⟨(some
    29), none, .mv (.t 5), []⟩, ⟨(some 30), none, .mv (.t 6), []⟩, ⟨(some 31), none, .iaS 2 (.t 29) (.t 30), [8, 9]⟩, ⟨(some 32), none, .fad 1 (.t 31), [10]⟩, ⟨(some 33), none, .load 1 false (.t 32), [11]⟩, ⟨(some 34), none, .call 25 [(.t 28), (.t 33)], [7, 12, 7]⟩, ⟨(some 35), none, .un .not (.t 34), [13]⟩, ⟨(some 36), none, .mv (.t 35), [14, 13]⟩, ⟨(some 37), (some (36, false)), .mv (.t 6),
    [15]⟩, ⟨(some 38), (some (36, false)), .bin false .gtr (.t 37) (.c (.int .i64 0)), [16, 15]⟩, ⟨(some 39), (some (36, false)), .mv (.t 38), [17, 15, 15]⟩, ⟨(some 40), (some (39, true)), .mv (.t 5), [18]⟩, ⟨(some 41), (some (39, true)), .mv (.t 6), [18]⟩, ⟨(some 42), (some (39, true)), .iaS 2 (.t 40) (.t 41), [19, 20, 18]⟩, ⟨(some 43), (some (39, true)), .fad 0 (.t 42), [21, 18]⟩, ⟨(some 44),
    (some (39, true)), .load 1 false (.t 43), [22, 18]⟩, ⟨(some 45), (some (39, true)), .mv (.t 5), [18]⟩, ⟨(some 46), (some (39, true)), .mv (.t 6), [18]⟩, ⟨(some 47), (some (39, true)), .bin false .sub (.t 46) (.c (.int .i64 1)), [25, 18]⟩, ⟨(some 48), (some (39, true)), .iaS 2 (.t 45) (.t 47), [24, 26, 18]⟩, ⟨(some 49), (some (39, true)), .fad 1 (.t 48), [27, 18]⟩, ⟨(some 50), (some (39, true)),
    .load 1 false (.t 49), [28, 18]⟩, ⟨(some 51), (some (39, true)), .bin false .lss (.t 44) (.t 50), [23, 29, 18]⟩, ⟨(some 52), (some (39, true)), .mv (.t 51), [30, 18, 18]⟩, ⟨(some 53), (some (52, false)), .mv (.t 5), [31]⟩, ⟨(some 54), (some (52, false)), .mv (.t 6), [31]⟩, ⟨(some 55), (some (52, false)), .iaS 2 (.t 53) (.t 54), [32, 33, 31]⟩, ⟨(some 56), (some (52, false)), .load 2 true (.t
    55), [34, 31]⟩, ⟨(some 57), (some (52, false)), .mv (.t 5), [31]⟩, ⟨(some 58), (some (52, false)), .mv (.t 6), [31]⟩, ⟨(some 59), (some (52, false)), .bin false .sub (.t 58) (.c (.int .i64 1)), [37, 31]⟩, ⟨(some 60), (some (52, false)), .iaS 2 (.t 57) (.t 59), [36, 38, 31]⟩, ⟨(some 61), (some (52, false)), .load 2 true (.t 60), [39, 31]⟩, ⟨(some 62), (some (52, false)), .eqs false [0, 0] (.t
    56) (.t 61), [35, 40, 31]⟩, ⟨(some 63), (some (39, true)), .pick (.t 52) (.c (.bool true)) (.t 62), [31, 41, 18]⟩, ⟨(some 64), (some (36, false)), .pick (.t 39) (.t 63) (.c (.bool false)), [18, 42, 15]⟩, ⟨(some 65), none, .pick (.t 36) (.c (.bool true)) (.t 64), [15, 43]⟩]
@[reducible] def R9_9 : List XO := [⟨(some 4), none, .mv (.c (.bool false)), []⟩]
@[reducible] def R9_10 : List XO := [⟨(some 19), none, .mv (.t 6), []⟩, ⟨(some 20), none, .bin false .add (.t 19) (.c (.int .i64 1)), [0]⟩, ⟨(some 6), none, .mv (.t 20), [1, 0, 1]⟩]
@[reducible] def L9_0 : XC := (.seq (.seq (.reg false [] R9_7) (.cond (.t 18) .skip (.exit 0))) (.seq (.blk 1 (.seq (.reg true [] R9_8) (.cond (.t 65) (.seq (.reg false [] R9_9) .ret) .skip))) (.reg false [] R9_10)))
@[reducible] def R9_11 : List XO := [⟨(some 66), none, .mv (.t 5), []⟩, ⟨(some 67), none, .len false (.t 66), [0]⟩, ⟨(some 68), none, .bin false .gtr (.t 67) (.c (.int .i64 0)), [1]⟩, ⟨(some 69), none, .load 5 true (.t 2), []⟩, ⟨(some 70), none, .mv (.t 1), []⟩, ⟨(some 71), none, .call 16 [(.t 69), (.t 70)], [3, 4]⟩, ⟨(some 72), none, .bin true .eql (.t 68) (.t 71), [2, 5]⟩, ⟨(some 4), none, .mv
    (.t 72), [6, 5, 0, 1, 2, 3, 4, 5, 6]⟩]
@[reducible] def F9 : XF := ⟨73, (.seq (.reg false [] R9_0) (.seq (.seq (.reg false [] R9_1) (.cond (.t 8) (.seq (.reg false [] R9_2) .ret) .skip)) (.seq (.seq (.reg false [] R9_3) (.cond (.t 11) (.seq (.reg false [] R9_4) .ret) .skip)) (.seq (.reg false [] R9_5) (.seq (.seq (.reg false [] R9_6) (.blk 0 (.loop L9_0))) (.seq (.reg false [] R9_11) .ret)))))), [(4, none)]⟩
/-- codesearch/codesearchlaw09.alive -/
@[reducible] def R10_0 : List XO := [⟨(some 0), none, .mv (.c (.bool false)), []⟩]
@[reducible] def R10_1 : List XO := [⟨(some 8), none, .call 26 [(.c (.int .u8 98))], []⟩, ⟨(some 9), none, .bsl 25 5 [(.int .i64 0), .nls, (.int .i64 0), (.int .i64 0), .nls] 1 [(0, (.t 8))], [0]⟩, ⟨(some 10), none, .bdf [(.int .i64 0), .nls, (.int .i64 0), (.int .i64 0), .nls] [(0, 1, (.c (.int .i64 4))), (2, 1, (.c (.int .i64 1))), (3, 1, (.c (.int .i64 (-1)))), (4, 1, (.t 9))], [1]⟩, ⟨(some 1),
    none, .alloc [(.int .i64 0), .nls, (.int .i64 0), (.int .i64 0), .nls], []⟩, ⟨none, none, .store 5 (.t 1) (.t 10), [3, 2, 0, 0, 1, 2, 3]⟩]
@[reducible] def R10_2 : List XO := [⟨(some 11), none, .call 26 [(.c (.int .u8 97))], []⟩, ⟨(some 12), none, .bsl 25 5 [(.int .i64 0), .nls, (.int .i64 0), (.int .i64 0), .nls] 1 [(0, (.t 11))], [0]⟩, ⟨(some 13), none, .bdf [(.int .i64 0), .nls, (.int .i64 0), (.int .i64 0), .nls] [(0, 1, (.c (.int .i64 4))), (3, 1, (.c (.int .i64 (-1)))), (4, 1, (.t 12))], [1]⟩, ⟨(some 2), none, .alloc [(.int .i64
    0), .nls, (.int .i64 0), (.int .i64 0), .nls], []⟩, ⟨none, none, .store 5 (.t 2) (.t 13), [3, 2, 0, 0, 1, 2, 3]⟩]
@[reducible] def R10_3 : List XO := [⟨(some 14), none, .call 26 [(.c (.int .u8 97))], []⟩, ⟨(some 15), none, .call 26 [(.c (.int .u8 97))], [0]⟩, ⟨(some 16), none, .call 26 [(.c (.int .u8 98))], [1]⟩, ⟨(some 17), none, .bsl 25 5 [(.int .i64 0), .nls, (.int .i64 0), (.int .i64 0), .nls] 2 [(0, (.t 15)), (1, (.t 16))], [1, 2]⟩, ⟨(some 18), none, .call 23 [(.t 17)], [3, 2]⟩, ⟨(some 19), none, .bsl 25
    5 [(.int .i64 0), .nls, (.int .i64 0), (.int .i64 0), .nls] 2 [(0, (.t 14)), (1, (.t 18))], [0, 4]⟩, ⟨(some 20), none, .bdf [(.int .i64 0), .nls, (.int .i64 0), (.int .i64 0), .nls] [(0, 1, (.c (.int .i64 3))), (4, 1, (.t 19))], [5]⟩, ⟨(some 3), none, .alloc [(.int .i64 0), .nls, (.int .i64 0), (.int .i64 0), .nls], []⟩, ⟨none, none, .store 5 (.t 3) (.t 20), [7, 6, 4, 0, 1, 2, 3, 4, 5, 6, 7]⟩]
@[reducible] def R10_4 : List XO := [⟨(some 22), none, .call 26 [(.c (.int .u8 97))], []⟩, ⟨(some 23), none, .load 5 true (.t 1), []⟩, ⟨(some 24), none, .call 26 [(.c (.int .u8 99))], [0]⟩, ⟨(some 25), none, .bsf 25 5 [(.int .i64 0), .nls, (.int .i64 0), (.int .i64 0), .nls] 3 [(0, (.t 22)), (1, (.t 23)), (2, (.t 24))], [0, 1, 2]⟩, ⟨(some 26), none, .call 23 [(.t 25)], [3, 2]⟩, ⟨(some 27), none,
    .call 14 [(.t 26), (.c (.str (ByteArray.mk #[120, 97, 98, 98, 99]))), (.c (.int .i64 0))], [4, 4]⟩, ⟨(some 21), none, .mv (.t 27), [5]⟩, ⟨(some 28), none, .ext (.t 21) 0, [6]⟩, ⟨(some 29), none, .ext (.t 21) 1, [6]⟩, ⟨(some 4), none, .alloc [(.int .i64 0), (.int .i64 0)], []⟩, ⟨none, none, .store 2 (.t 4) (.t 28), [9, 7, 5, 0, 1, 2, 3, 4, 5, 6, 7, 9]⟩, ⟨(some 5), none, .mv (.t 29), [8, 10, 0,
    1, 2, 3, 4, 5, 6, 7, 8, 9, 10]⟩]
@[reducible] def R10_5 : List XO := [⟨(some 30), none, .mv (.t 5), []⟩, ⟨(some 31), none, .un .not (.t 30), [0]⟩, ⟨(some 32), none, .mv (.t 31), [1]⟩, ⟨(some 33), (some (32, false)), .load 2 true (.t 4), [2]⟩, ⟨(some 34), (some (32, false)), .build [(.int .i64 0), (.int .i64 0)] [(0, 1, (.c (.int .i64 1))), (1, 1, (.c (.int .i64 5)))], [2]⟩, ⟨(some 35), (some (32, false)), .eqs true [0, 0] (.t 33)
    (.t 34), [3, 4, 2]⟩, ⟨(some 36), none, .pick (.t 32) (.c (.bool true)) (.t 35), [2, 5]⟩, ⟨(some 37), none, .mv (.t 36), [6, 2]⟩, ⟨(some 38), (some (37, false)), .call 26 [(.c (.int .u8 97))], [7, 7]⟩, ⟨(some 39), (some (37, false)), .load 5 true (.t 1), [7]⟩, ⟨(some 40), (some (37, false)), .call 26 [(.c (.int .u8 99))], [8, 7]⟩, ⟨(some 41), (some (37, false)), .bsf 25 5 [(.int .i64 0), .nls,
    (.int .i64 0), (.int .i64 0), .nls] 3 [(0, (.t 38)), (1, (.t 39)), (2, (.t 40))], [8, 9, 10, 7]⟩, ⟨(some 42), (some (37, false)), .call 23 [(.t 41)], [11, 10, 7]⟩, ⟨(some 43), (some (37, false)), .call 12 [(.t 42), (.c (.str (ByteArray.mk #[120, 97, 98, 98, 99]))), (.c (.int .i64 0))], [12, 12, 7]⟩, ⟨(some 44), (some (37, false)), .len false (.t 43), [13, 7]⟩, ⟨(some 45), (some (37, false)),
    .bin false .neq (.t 44) (.c (.int .i64 0)), [14, 7]⟩, ⟨(some 46), none, .pick (.t 37) (.c (.bool true)) (.t 45), [7, 15]⟩]
@[reducible] def R10_6 : List XO := [⟨(some 0), none, .mv (.c (.bool false)), []⟩]
@[reducible] def R10_7 : List XO := [⟨(some 47), none, .load 5 true (.t 2), []⟩, ⟨(some 48), none, .call 21 [(.t 47), (.c (.str (ByteArray.mk #[97, 97, 98])))], [0]⟩, ⟨(some 49), none, .bdf [(.int .i64 0), (.int .i64 0)] [(0, 1, (.c (.int .i64 0))), (1, 1, (.c (.int .i64 2)))], []⟩, ⟨(some 50), none, .bdf [(.int .i64 0), (.int .i64 0)] [(0, 1, (.c (.int .i64 2))), (1, 1, (.c (.int .i64 2)))], []⟩,
    ⟨(some 51), none, .bdf [(.int .i64 0), (.int .i64 0)] [(0, 1, (.c (.int .i64 3))), (1, 1, (.c (.int .i64 3)))], []⟩, ⟨(some 52), none, .bsl 32 2 [(.int .i64 0), (.int .i64 0)] 3 [(0, (.t 49)), (1, (.t 50)), (2, (.t 51))], [2, 3, 4]⟩, ⟨(some 53), none, .call 20 [(.t 48), (.t 52)], [1, 5, 1]⟩, ⟨(some 54), none, .un .not (.t 53), [6]⟩, ⟨(some 55), none, .mv (.t 54), [7, 6]⟩, ⟨(some 56), (some (55,
    false)), .load 5 true (.t 3), [8]⟩, ⟨(some 57), (some (55, false)), .call 21 [(.t 56), (.c (.str (ByteArray.mk #[97, 98, 97, 98])))], [9, 8, 8]⟩, ⟨(some 58), (some (55, false)), .bdf [(.int .i64 0), (.int .i64 0)] [(0, 1, (.c (.int .i64 0))), (1, 1, (.c (.int .i64 2)))], [8]⟩, ⟨(some 59), (some (55, false)), .bdf [(.int .i64 0), (.int .i64 0)] [(0, 1, (.c (.int .i64 2))), (1, 1, (.c (.int .i64
    4)))], [8]⟩, ⟨(some 60), (some (55, false)), .bsl 32 2 [(.int .i64 0), (.int .i64 0)] 2 [(0, (.t 58)), (1, (.t 59))], [11, 12, 8]⟩, ⟨(some 61), (some (55, false)), .call 20 [(.t 57), (.t 60)], [10, 13, 10, 8]⟩, ⟨(some 62), (some (55, false)), .un .not (.t 61), [14, 8]⟩, ⟨(some 63), none, .pick (.t 55) (.c (.bool true)) (.t 62), [8, 15]⟩]
@[reducible] def R10_8 : List XO := [⟨(some 0), none, .mv (.c (.bool false)), []⟩]
@[reducible] def R10_9 : List XO := [⟨(some 64), none, .bdf [(.int .i64 0), .nls, (.int .i64 0), (.int .i64 0), .nls] [(0, 1, (.c (.int .i64 7)))], []⟩, ⟨(some 6), none, .alloc [(.int .i64 0), .nls, (.int .i64 0), (.int .i64 0), .nls], []⟩, ⟨none, none, .store 5 (.t 6) (.t 64), [1, 0, 0, 1]⟩]
@[reducible] def R10_10 : List XO := [⟨(some 66), none, .bdf [(.int .i64 0), .nls, (.int .i64 0), (.int .i64 0), .nls] [(0, 1, (.c (.int .i64 5)))], []⟩, ⟨(some 67), none, .call 26 [(.c (.int .u8 98))], []⟩, ⟨(some 68), none, .bsl 25 5 [(.int .i64 0), .nls, (.int .i64 0), (.int .i64 0), .nls] 2 [(0, (.t 66)), (1, (.t 67))], [0, 1]⟩, ⟨(some 69), none, .call 23 [(.t 68)], [2, 1]⟩, ⟨(some 70), none,
    .call 14 [(.t 69), (.c (.str (ByteArray.mk #[97, 10, 98]))), (.c (.int .i64 0))], [3, 3]⟩, ⟨(some 65), none, .mv (.t 70), [4]⟩, ⟨(some 71), none, .ext (.t 65) 0, [5]⟩, ⟨(some 72), none, .ext (.t 65) 1, [5]⟩, ⟨(some 7), none, .alloc [(.int .i64 0), (.int .i64 0)], []⟩, ⟨none, none, .store 2 (.t 7) (.t 71), [8, 6, 4, 0, 1, 2, 3, 4, 5, 6, 8]⟩, ⟨(some 5), none, .mv (.t 72), [7, 9, 0, 1, 2, 3, 4, 5,
    6, 7, 8, 9]⟩]
@[reducible] def R10_11 : List XO := [⟨(some 73), none, .mv (.t 5), []⟩, ⟨(some 74), none, .mv (.t 73), [0]⟩, ⟨(some 75), (some (74, true)), .load 2 true (.t 7), [1]⟩, ⟨(some 76), (some (74, true)), .build [(.int .i64 0), (.int .i64 0)] [(0, 1, (.c (.int .i64 2))), (1, 1, (.c (.int .i64 3)))], [1]⟩, ⟨(some 77), (some (74, true)), .eqs false [0, 0] (.t 75) (.t 76), [2, 3, 1]⟩, ⟨(some 78), none,
    .pick (.t 74) (.t 77) (.c (.bool false)), [1, 4]⟩, ⟨(some 79), none, .mv (.t 78), [5, 1]⟩, ⟨(some 80), (some (79, true)), .load 5 true (.t 6), [6]⟩, ⟨(some 81), (some (79, true)), .call 26 [(.c (.int .u8 102))], [6, 6]⟩, ⟨(some 82), (some (79, true)), .load 5 true (.t 6), [6]⟩, ⟨(some 83), (some (79, true)), .bsf 25 5 [(.int .i64 0), .nls, (.int .i64 0), (.int .i64 0), .nls] 3 [(0, (.t 80)),
    (1, (.t 81)), (2, (.t 82))], [7, 8, 9, 6]⟩, ⟨(some 84), (some (79, true)), .call 23 [(.t 83)], [10, 8, 6]⟩, ⟨(some 85), (some (79, true)), .call 16 [(.t 84), (.c (.str (ByteArray.mk #[102, 46, 98])))], [11, 11, 6]⟩, ⟨(some 86), none, .pick (.t 79) (.t 85) (.c (.bool false)), [6, 12]⟩, ⟨(some 87), none, .mv (.t 86), [13, 12]⟩, ⟨(some 88), (some (87, true)), .load 5 true (.t 6), [14]⟩, ⟨(some
    89), (some (87, true)), .call 26 [(.c (.int .u8 102))], [14, 14]⟩, ⟨(some 90), (some (87, true)), .load 5 true (.t 6), [14]⟩, ⟨(some 91), (some (87, true)), .bsf 25 5 [(.int .i64 0), .nls, (.int .i64 0), (.int .i64 0), .nls] 3 [(0, (.t 88)), (1, (.t 89)), (2, (.t 90))], [15, 16, 17, 14]⟩, ⟨(some 92), (some (87, true)), .call 23 [(.t 91)], [18, 16, 14]⟩, ⟨(some 93), (some (87, true)), .call 16
    [(.t 92), (.c (.str (ByteArray.mk #[102, 98])))], [19, 19, 14]⟩, ⟨(some 94), (some (87, true)), .un .not (.t 93), [20, 14]⟩, ⟨(some 95), none, .pick (.t 87) (.t 94) (.c (.bool false)), [14, 21]⟩, ⟨(some 96), none, .mv (.t 95), [22, 20]⟩, ⟨(some 97), (some (96, true)), .load 5 true (.t 2), [23]⟩, ⟨(some 98), (some (96, true)), .call 18 [(.t 97), (.c (.str (ByteArray.mk #[97, 97])))], [24, 23,
    23]⟩, ⟨(some 99), none, .pick (.t 96) (.t 98) (.c (.bool false)), [23, 25]⟩, ⟨(some 100), none, .mv (.t 99), [26, 25]⟩, ⟨(some 101), (some (100, true)), .load 5 true (.t 2), [27]⟩, ⟨(some 102), (some (100, true)), .call 18 [(.t 101), (.c (.str (ByteArray.mk #[97, 98])))], [28, 27, 27]⟩, ⟨(some 103), (some (100, true)), .un .not (.t 102), [29, 27]⟩, ⟨(some 104), none, .pick (.t 100) (.t 103) (.c
    (.bool false)), [27, 30]⟩, ⟨(some 0), none, .mv (.t 104), [31, 29, 0, 1, 2, 3, 4, 5, 6, 7, 8, 9, 10, 11, 12, 13, 14, 15, 16, 17, 18, 19, 20, 21, 22, 23, 24, 25, 26, 27, 28, 29, 30, 31]⟩]
@[reducible] def F10 : XF := ⟨105, (.seq (.reg false [] R10_0) (.seq (.reg false [] R10_1) (.seq (.reg false [] R10_2) (.seq (.reg false [] R10_3) (.seq (.reg true [] R10_4) (.seq (.seq (.reg true [] R10_5) (.cond (.t 46) (.seq (.reg false [] R10_6) .ret) .skip)) (.seq (.seq (.reg false [] R10_7) (.cond (.t 63) (.seq (.reg false [] R10_8) .ret) .skip)) (.seq (.reg false [] R10_9) (.seq (.reg false
    [] R10_10) (.seq (.reg true [] R10_11) .ret)))))))))), [(0, none)]⟩
/-- codesearch/codesearchref09.SameInts -/
@[reducible] def R11_0 : List XO := [⟨(some 4), none, .mv (.c (.bool false)), []⟩]
@[reducible] def R11_1 : List XO := [⟨(some 6), none, .mv (.t 0), []⟩, ⟨(some 7), none, .len false (.t 6), [0]⟩, ⟨(some 8), none, .mv (.t 1), []⟩, ⟨(some 9), none, .len false (.t 8), [2]⟩, ⟨(some 10), none, .bin false .neq (.t 7) (.t 9), [1, 3]⟩]
@[reducible] def R11_2 : List XO := [⟨(some 4), none, .mv (.c (.bool false)), []⟩]
@[reducible] def R11_3 : List XO := [⟨(some 5), none, .mv (.c (.int .i64 0)), []⟩]
@[reducible] def R11_4 : List XO := [⟨(some 11), none, .mv (.t 5), []⟩, ⟨(some 12), none, .mv (.t 0), []⟩, ⟨(some 13), none, .len false (.t 12), [1]⟩, ⟨(some 14), none, .bin false .lss (.t 11) (.t 13), [0, 2]⟩]
@[reducible] def R11_5 : List XO := [⟨(some 17), none, .mv (.t 0), []⟩, ⟨(some 18), none, .mv (.t 5), []⟩, ⟨(some 19), none, .iaS 1 (.t 17) (.t 18), [0, 1]⟩, ⟨(some 20), none, .load 1 false (.t 19), [2]⟩, ⟨(some 21), none, .mv (.t 1), []⟩, ⟨(some 22), none, .mv (.t 5), []⟩, ⟨(some 23), none, .iaS 1 (.t 21) (.t 22), [4, 5]⟩, ⟨(some 24), none, .load 1 false (.t 23), [6]⟩, ⟨(some 25), none, .bin false
    .neq (.t 20) (.t 24), [3, 7]⟩]
@[reducible] def R11_6 : List XO := [⟨(some 4), none, .mv (.c (.bool false)), []⟩]
@[reducible] def R11_7 : List XO := [⟨(some 15), none, .mv (.t 5), []⟩, ⟨(some 16), none, .bin false .add (.t 15) (.c (.int .i64 1)), [0]⟩, ⟨(some 5), none, .mv (.t 16), [1, 0, 1]⟩]
@[reducible] def L11_0 : XC := (.seq (.seq (.reg false [] R11_4) (.cond (.t 14) .skip (.exit 0))) (.seq (.blk 1 (.seq (.reg true [] R11_5) (.cond (.t 25) (.seq (.reg false [] R11_6) .ret) .skip))) (.reg false [] R11_7)))
@[reducible] def R11_8 : List XO := [⟨(some 4), none, .mv (.c (.bool true)), []⟩]
@[reducible] def F11 : XF := ⟨26, (.seq (.reg false [] R11_0) (.seq (.seq (.reg false [] R11_1) (.cond (.t 10) (.seq (.reg false [] R11_2) .ret) .skip)) (.seq (.seq (.reg false [] R11_3) (.blk 0 (.loop L11_0))) (.seq (.reg false [] R11_8) .ret)))), [(4, none)]⟩
/-- codesearch/regexec.Ends -/
@[reducible] def R12_0 : List XO := [⟨(some 3), none, .box 5 (.t 0), []⟩, ⟨(some 6), none, .mv (.c .nls), []⟩]
@[reducible] def R12_1 : List XO := [⟨(some 10), none, .mv (.t 2), []⟩, ⟨(some 11), none, .bin false .lss (.t 10) (.c (.int .i64 0)), [0]⟩, ⟨(some 12), none, .mv (.t 11), [1]⟩, ⟨(some 13), (some (12, false)), .mv (.t 2), [2]⟩, ⟨(some 14), (some (12, false)), .mv (.t 1), [2]⟩, ⟨(some 15), (some (12, false)), .len true (.t 14), [4, 2]⟩, ⟨(some 16), (some (12, false)), .bin false .gtr (.t 13) (.t 15),
    [3, 5, 2]⟩, ⟨(some 17), none, .pick (.t 12) (.c (.bool true)) (.t 16), [2, 6]⟩, ⟨(some 18), none, .mv (.t 17), [7, 2]⟩, ⟨(some 19), (some (18, false)), .load 5 true (.t 3), [8]⟩, ⟨(some 20), (some (18, false)), .call 27 [(.t 19)], [9, 8, 8]⟩, ⟨(some 21), (some (18, false)), .bin false .neq (.t 20) (.c (.int .i64 0)), [10, 8]⟩, ⟨(some 22), none, .pick (.t 18) (.c (.bool true)) (.t 21), [8, 11]⟩]
@[reducible] def R12_2 : List XO := [⟨(some 6), none, .mv (.c .nls), []⟩]
@[reducible] def R12_3 : List XO := [⟨(some 7), none, .mv (.c .nls), []⟩]
@[reducible] def R12_4 : List XO := [⟨(some 23), none, .load 5 true (.t 3), []⟩, ⟨(some 24), none, .mv (.t 1), []⟩, ⟨(some 25), none, .call 28 [(.t 23), (.t 24)], [0, 1]⟩, ⟨(some 26), none, .mv (.t 1), []⟩, ⟨(some 27), none, .mv (.t 2), []⟩, ⟨(some 28), none, .call 29 [(.t 26), (.t 27)], [3, 4, 2]⟩, ⟨(some 29), none, .callv (.t 25) [(.t 28)], [2, 5, 5]⟩, ⟨(some 30), none, .len false (.t 29), [6]⟩,
    ⟨(some 31), none, .mv (.c (.int .i64 0)), []⟩]
@[reducible] def R12_5 : List XO := [⟨(some 32), none, .bin false .lss (.t 31) (.t 30), []⟩]
@[reducible] def R12_6 : List XO := [⟨(some 33), none, .mv (.t 31), []⟩, ⟨(some 34), none, .iaS 1 (.t 29) (.t 31), []⟩, ⟨(some 35), none, .load 1 false (.t 34), [1]⟩, ⟨(some 8), none, .mv (.t 33), [0, 0, 1, 2]⟩, ⟨(some 9), none, .mv (.t 35), [2, 3, 0, 1, 2, 3]⟩]
@[reducible] def R12_7 : List XO := [⟨(some 36), none, .mv (.t 9), []⟩]
@[reducible] def R12_8 : List XO := [⟨(some 37), none, .mv (.t 7), []⟩, ⟨(some 38), none, .mv (.t 8), []⟩, ⟨(some 39), none, .bsl 3 1 [(.int .i64 0)] 1 [(0, (.t 38))], [1]⟩, ⟨(some 40), none, .app 3 1 8 (.t 37) (.t 39), [0, 2]⟩, ⟨(some 7), none, .mv (.t 40), [3, 3, 0, 1, 2, 3]⟩]
@[reducible] def R12_9 : List XO := [⟨(some 41), none, .bin false .add (.t 31) (.c (.int .i64 1)), []⟩, ⟨(some 31), none, .mv (.t 41), [0]⟩]
@[reducible] def L12_0 : XC := (.seq (.reg false [] R12_5) (.seq (.cond (.t 32) .skip (.exit 0)) (.seq (.blk 1 (.seq (.reg false [] R12_6) (.seq (.reg false [] R12_7) (.cond (.t 36) (.reg false [] R12_8) .skip)))) (.reg false [] R12_9))))
@[reducible] def R12_10 : List XO := [⟨(some 42), none, .mv (.t 7), []⟩, ⟨(some 6), none, .mv (.t 42), [0, 0]⟩]
@[reducible] def F12 : XF := ⟨43, (.seq (.reg false [] R12_0) (.seq (.seq (.reg false [] R12_1) (.cond (.t 22) (.seq (.reg false [] R12_2) .ret) .skip)) (.seq (.reg false [] R12_3) (.seq (.seq (.reg false [] R12_4) (.blk 0 (.loop L12_0))) (.seq (.reg false [] R12_10) .ret))))), [(6, none)]⟩
/-- codesearch/codesearchref09.Ends -/
@[reducible] def R13_0 : List XO := [⟨(some 3), none, .box 5 (.t 0), []⟩, ⟨(some 6), none, .mv (.c .nls), []⟩]
@[reducible] def R13_1 : List XO := [⟨(some 11), none, .mv (.t 2), []⟩, ⟨(some 12), none, .bin false .lss (.t 11) (.c (.int .i64 0)), [0]⟩, ⟨(some 13), none, .mv (.t 12), [1]⟩, ⟨(some 14), (some (13, false)), .mv (.t 2), [2]⟩, ⟨(some 15), (some (13, false)), .mv (.t 1), [2]⟩, ⟨(some 16), (some (13, false)), .len true (.t 15), [4, 2]⟩, ⟨(some 17), (some (13, false)), .bin false .gtr (.t 14) (.t 16),
    [3, 5, 2]⟩, ⟨(some 18), none, .pick (.t 13) (.c (.bool true)) (.t 17), [2, 6]⟩, ⟨(some 19), none, .mv (.t 18), [7, 2]⟩, ⟨(some 20), (some (19, false)), .load 5 true (.t 3), [8]⟩, ⟨(some 21), (some (19, false)), .call 24 [(.t 20)], [9, 8, 8]⟩, ⟨(some 22), (some (19, false)), .bin false .neq (.t 21) (.c (.int .i64 0)), [10, 8]⟩, ⟨(some 23), none, .pick (.t 19) (.c (.bool true)) (.t 22), [8, 11]⟩]
@[reducible] def R13_2 : List XO := [⟨(some 6), none, .mv (.c .nls), []⟩]
@[reducible] def R13_3 : List XO := [⟨(some 24), none, .mv (.t 1), []⟩, ⟨(some 25), none, .call 30 [(.t 24)], [0]⟩, ⟨(some 7), none, .mv (.t 25), [1, 1, 0, 1]⟩]
@[reducible] def R13_4 : List XO := [⟨(some 26), none, .mv (.t 7), []⟩, ⟨(some 27), none, .mv (.t 2), []⟩, ⟨(some 28), none, .iaS 1 (.t 26) (.t 27), [0, 1, 0, 1]⟩, ⟨none, none, .store 1 (.t 28) (.c (.bool true)), [2, 0, 1]⟩]
@[reducible] def R13_5 : List XO := [⟨(some 29), none, .load 5 true (.t 3), []⟩, ⟨(some 30), none, .mv (.t 1), []⟩, ⟨(some 31), none, .mv (.t 7), []⟩, ⟨(some 32), none, .call 31 [(.t 29), (.t 30), (.t 31)], [0, 1, 2]⟩, ⟨(some 8), none, .mv (.t 32), [3, 3, 0, 1, 2, 3]⟩]
@[reducible] def R13_6 : List XO := [⟨(some 9), none, .mv (.c .nls), []⟩]
@[reducible] def R13_7 : List XO := [⟨(some 10), none, .mv (.c (.int .i64 0)), []⟩]
@[reducible] def R13_8 : List XO := [⟨(some 33), none, .mv (.t 10), []⟩, ⟨(some 34), none, .mv (.t 8), []⟩, ⟨(some 35), none, .len false (.t 34), [1]⟩, ⟨(some 36), none, .bin false .lss (.t 33) (.t 35), [0, 2]⟩]
@[reducible] def R13_9 : List XO := [⟨(some 39), none, .mv (.t 8), []⟩, ⟨(some 40), none, .mv (.t 10), []⟩, ⟨(some 41), none, .iaS 1 (.t 39) (.t 40), [0, 1]⟩, ⟨(some 42), none, .load 1 false (.t 41), [2]⟩]
@[reducible] def R13_10 : List XO := [⟨(some 43), none, .mv (.t 9), []⟩, ⟨(some 44), none, .mv (.t 10), []⟩, ⟨(some 45), none, .bsl 3 1 [(.int .i64 0)] 1 [(0, (.t 44))], [1]⟩, ⟨(some 46), none, .app 3 1 8 (.t 43) (.t 45), [0, 2]⟩, ⟨(some 9), none, .mv (.t 46), [3, 3, 0, 1, 2, 3]⟩]
@[reducible] def R13_11 : List XO := [⟨(some 37), none, .mv (.t 10), []⟩, ⟨(some 38), none, .bin false .add (.t 37) (.c (.int .i64 1)), [0]⟩, ⟨(some 10), none, .mv (.t 38), [1, 0, 1]⟩]
@[reducible] def L13_0 : XC := (.seq (.seq (.reg false [] R13_8) (.cond (.t 36) .skip (.exit 0))) (.seq (.blk 1 (.seq (.reg false [] R13_9) (.cond (.t 42) (.reg false [] R13_10) .skip))) (.reg false [] R13_11)))
@[reducible] def R13_12 : List XO := [⟨(some 47), none, .mv (.t 9), []⟩, ⟨(some 6), none, .mv (.t 47), [0, 0]⟩]
@[reducible] def F13 : XF := ⟨48, (.seq (.reg false [] R13_0) (.seq (.seq (.reg false [] R13_1) (.cond (.t 23) (.seq (.reg false [] R13_2) .ret) .skip)) (.seq (.reg false [] R13_3) (.seq (.reg false [] R13_4) (.seq (.reg false [] R13_5) (.seq (.reg false [] R13_6) (.seq (.seq (.reg false [] R13_7) (.blk 0 (.loop L13_0))) (.seq (.reg false [] R13_12) .ret)))))))), [(6, none)]⟩
/-- codesearch/regexec.Find -/
@[reducible] def R14_0 : List XO := [⟨(some 3), none, .box 5 (.t 0), []⟩, ⟨(some 6), none, .alloc [(.int .i64 0), (.int .i64 0)], []⟩, ⟨(some 7), none, .mv (.c (.bool false)), []⟩]
@[reducible] def R14_1 : List XO := [⟨(some 8), none, .load 5 true (.t 3), []⟩, ⟨(some 9), none, .call 27 [(.t 8)], [0]⟩, ⟨(some 10), none, .bin false .neq (.t 9) (.c (.int .i64 0)), [1]⟩]
@[reducible] def R14_2 : List XO := [⟨(some 11), none, .bdf [(.int .i64 0), (.int .i64 0)] [], []⟩, ⟨none, none, .store 2 (.t 6) (.t 11), [0, 0]⟩, ⟨(some 7), none, .mv (.c (.bool false)), [1, 0, 1]⟩]
@[reducible] def R14_3 : List XO := [⟨(some 12), none, .load 5 true (.t 3), []⟩, ⟨(some 13), none, .mv (.t 1), []⟩, ⟨(some 14), none, .call 28 [(.t 12), (.t 13)], [0, 1]⟩, ⟨(some 15), none, .mv (.t 1), []⟩, ⟨(some 16), none, .mv (.t 2), []⟩, ⟨(some 17), none, .call 32 [(.t 14), (.t 15), (.t 16)], [2, 3, 4, 2]⟩, ⟨(some 18), none, .ext (.t 17) 0, [5]⟩, ⟨(some 19), none, .ext (.t 17) 1, [5]⟩, ⟨none,
    none, .store 2 (.t 6) (.t 18), [6, 5, 0, 1, 2, 3, 4, 5, 6, 7]⟩, ⟨(some 7), none, .mv (.t 19), [7, 8, 0, 1, 2, 3, 4, 5, 6, 7, 8]⟩]
@[reducible] def F14 : XF := ⟨20, (.seq (.reg false [] R14_0) (.seq (.seq (.reg false [] R14_1) (.cond (.t 10) (.seq (.reg false [] R14_2) .ret) .skip)) (.seq (.reg false [] R14_3) .ret))), [(6, some (2, true)), (7, none)]⟩
/-- codesearch/codesearchref09.Find -/
@[reducible] def R15_0 : List XO := [⟨(some 3), none, .box 5 (.t 0), []⟩, ⟨(some 6), none, .alloc [(.int .i64 0), (.int .i64 0)], []⟩, ⟨(some 7), none, .mv (.c (.bool false)), []⟩]
@[reducible] def R15_1 : List XO := [⟨(some 10), none, .mv (.t 2), []⟩, ⟨(some 11), none, .mm true (.t 10) (.c (.int .i64 0)), [0]⟩, ⟨(some 8), none, .mv (.t 11), [1, 0, 1]⟩]
@[reducible] def R15_2 : List XO := [⟨(some 12), none, .mv (.t 8), []⟩, ⟨(some 13), none, .mv (.t 1), []⟩, ⟨(some 14), none, .len true (.t 13), [1]⟩, ⟨(some 15), none, .bin false .leq (.t 12) (.t 14), [0, 2]⟩]
@[reducible] def R15_3 : List XO := [⟨(some 18), none, .load 5 true (.t 3), []⟩, ⟨(some 19), none, .mv (.t 1), []⟩, ⟨(some 20), none, .mv (.t 8), []⟩, ⟨(some 21), none, .call 13 [(.t 18), (.t 19), (.t 20)], [0, 1, 2]⟩, ⟨(some 9), none, .mv (.t 21), [3, 3, 0, 1, 2, 3]⟩]
@[reducible] def R15_4 : List XO := [⟨(some 22), none, .mv (.t 9), []⟩, ⟨(some 23), none, .len false (.t 22), [0]⟩, ⟨(some 24), none, .bin false .gtr (.t 23) (.c (.int .i64 0)), [1]⟩]
@[reducible] def R15_5 : List XO := [⟨(some 25), none, .mv (.t 8), []⟩, ⟨(some 26), none, .mv (.t 9), []⟩, ⟨(some 27), none, .mv (.t 9), []⟩, ⟨(some 28), none, .len false (.t 27), [2]⟩, ⟨(some 29), none, .bin false .sub (.t 28) (.c (.int .i64 1)), [3]⟩, ⟨(some 30), none, .iaS 1 (.t 26) (.t 29), [1, 4]⟩, ⟨(some 31), none, .load 1 false (.t 30), [5]⟩, ⟨(some 32), none, .bdf [(.int .i64 0), (.int .i64
    0)] [(0, 1, (.t 25)), (1, 1, (.t 31))], [0, 6]⟩, ⟨none, none, .store 2 (.t 6) (.t 32), [7, 0, 1, 2, 3, 4, 5, 6, 7]⟩, ⟨(some 7), none, .mv (.c (.bool true)), [8, 0, 1, 2, 3, 4, 5, 6, 7, 8]⟩]
@[reducible] def R15_6 : List XO := [⟨(some 16), none, .mv (.t 8), []⟩, ⟨(some 17), none, .bin false .add (.t 16) (.c (.int .i64 1)), [0]⟩, ⟨(some 8), none, .mv (.t 17), [1, 0, 1]⟩]
@[reducible] def L15_0 : XC := (.seq (.seq (.reg false [] R15_2) (.cond (.t 15) .skip (.exit 0))) (.seq (.blk 1 (.seq (.reg false [] R15_3) (.seq (.reg false [] R15_4) (.cond (.t 24) (.seq (.reg false [] R15_5) .ret) .skip)))) (.reg false [] R15_6)))
@[reducible] def R15_7 : List XO := [⟨(some 33), none, .bdf [(.int .i64 0), (.int .i64 0)] [], []⟩, ⟨none, none, .store 2 (.t 6) (.t 33), [0, 0]⟩, ⟨(some 7), none, .mv (.c (.bool false)), [1, 0, 1]⟩]
@[reducible] def F15 : XF := ⟨34, (.seq (.reg false [] R15_0) (.seq (.seq (.reg false [] R15_1) (.blk 0 (.loop L15_0))) (.seq (.reg false [] R15_7) .ret))), [(6, some (2, true)), (7, none)]⟩
/-- codesearch/regexec.Match -/
@[reducible] def R16_0 : List XO := [⟨(some 2), none, .box 5 (.t 0), []⟩, ⟨(some 4), none, .mv (.c (.bool false)), []⟩]
@[reducible] def R16_1 : List XO := [⟨(some 7), none, .load 5 true (.t 2), []⟩, ⟨(some 8), none, .call 27 [(.t 7)], [0]⟩, ⟨(some 9), none, .bin false .neq (.t 8) (.c (.int .i64 0)), [1]⟩]
@[reducible] def R16_2 : List XO := [⟨(some 4), none, .mv (.c (.bool false)), []⟩]
@[reducible] def R16_3 : List XO := [⟨(some 10), none, .mv (.t 1), []⟩, ⟨(some 11), none, .len true (.t 10), [0]⟩, ⟨(some 12), none, .bin false .add (.t 11) (.c (.int .i64 1)), [1]⟩, ⟨(some 13), none, .mks 4 1 1 [(.bool false)] (.t 12) (.t 12), [2, 2]⟩, ⟨(some 5), none, .mv (.t 13), [3, 0, 1, 2, 3]⟩]
@[reducible] def R16_4 : List XO := [⟨(some 14), none, .mv (.t 5), []⟩, ⟨(some 15), none, .len false (.t 14), [0]⟩, ⟨(some 16), none, .mv (.c (.int .i64 0)), []⟩]
@[reducible] def R16_5 : List XO := [⟨(some 17), none, .bin false .lss (.t 16) (.t 15), []⟩]
@[reducible] def R16_6 : List XO := [⟨(some 18), none, .mv (.t 16), []⟩, ⟨(some 6), none, .mv (.t 18), [0, 0]⟩]
@[reducible] def R16_7 : List XO := [⟨(some 19), none, .mv (.t 5), []⟩, ⟨(some 20), none, .mv (.t 6), []⟩, ⟨(some 21), none, .iaS 1 (.t 19) (.t 20), [0, 1, 0, 1]⟩, ⟨none, none, .store 1 (.t 21) (.c (.bool true)), [2, 0, 1]⟩]
@[reducible] def R16_8 : List XO := [⟨(some 22), none, .bin false .add (.t 16) (.c (.int .i64 1)), []⟩, ⟨(some 16), none, .mv (.t 22), [0]⟩]
@[reducible] def L16_0 : XC := (.seq (.reg false [] R16_5) (.seq (.cond (.t 17) .skip (.exit 0)) (.seq (.blk 1 (.seq (.reg false [] R16_6) (.reg false [] R16_7))) (.reg false [] R16_8))))
@[reducible] def R16_9 : List XO := [⟨(some 23), none, .load 5 true (.t 2), []⟩, ⟨(some 24), none, .mv (.t 1), []⟩, ⟨(some 25), none, .call 28 [(.t 23), (.t 24)], [0, 1]⟩, ⟨(some 26), none, .mv (.t 5), []⟩, ⟨(some 27), none, .callv (.t 25) [(.t 26)], [2, 3, 2]⟩, ⟨(some 28), none, .call 33 [(.t 27)], [4, 4]⟩, ⟨(some 4), none, .mv (.t 28), [5, 5, 0, 1, 2, 3, 4, 5]⟩]
@[reducible] def F16 : XF := ⟨29, (.seq (.reg false [] R16_0) (.seq (.seq (.reg false [] R16_1) (.cond (.t 9) (.seq (.reg false [] R16_2) .ret) .skip)) (.seq (.reg false [] R16_3) (.seq (.seq (.reg false [] R16_4) (.blk 0 (.loop L16_0))) (.seq (.reg false [] R16_9) .ret))))), [(4, none)]⟩
/-- codesearch/codesearchref09.Match -/
@[reducible] def R17_0 : List XO := [⟨(some 2), none, .box 5 (.t 0), []⟩, ⟨(some 4), none, .mv (.c (.bool false)), []⟩]
@[reducible] def R17_1 : List XO := [⟨(some 9), none, .load 5 true (.t 2), []⟩, ⟨(some 10), none, .call 24 [(.t 9)], [0]⟩, ⟨(some 11), none, .bin false .neq (.t 10) (.c (.int .i64 0)), [1]⟩]
@[reducible] def R17_2 : List XO := [⟨(some 4), none, .mv (.c (.bool false)), []⟩]
@[reducible] def R17_3 : List XO := [⟨(some 12), none, .mv (.t 1), []⟩, ⟨(some 13), none, .call 30 [(.t 12)], [0]⟩, ⟨(some 5), none, .mv (.t 13), [1, 1, 0, 1]⟩]
@[reducible] def R17_4 : List XO := [⟨(some 6), none, .mv (.c (.int .i64 0)), []⟩]
@[reducible] def R17_5 : List XO := [⟨(some 14), none, .mv (.t 6), []⟩, ⟨(some 15), none, .mv (.t 5), []⟩, ⟨(some 16), none, .len false (.t 15), [1]⟩, ⟨(some 17), none, .bin false .lss (.t 14) (.t 16), [0, 2]⟩]
@[reducible] def R17_6 : List XO := [⟨(some 20), none, .mv (.t 5), []⟩, ⟨(some 21), none, .mv (.t 6), []⟩, ⟨(some 22), none, .iaS 1 (.t 20) (.t 21), [0, 1, 0, 1]⟩, ⟨none, none, .store 1 (.t 22) (.c (.bool true)), [2, 0, 1]⟩]
@[reducible] def R17_7 : List XO := [⟨(some 18), none, .mv (.t 6), []⟩, ⟨(some 19), none, .bin false .add (.t 18) (.c (.int .i64 1)), [0]⟩, ⟨(some 6), none, .mv (.t 19), [1, 0, 1]⟩]
@[reducible] def L17_0 : XC := (.seq (.seq (.reg false [] R17_5) (.cond (.t 17) .skip (.exit 0))) (.seq (.blk 1 (.reg false [] R17_6)) (.reg false [] R17_7)))
@[reducible] def R17_8 : List XO := [⟨(some 24), none, .load 5 true (.t 2), []⟩, ⟨(some 25), none, .mv (.t 1), []⟩, ⟨(some 26), none, .mv (.t 5), []⟩, ⟨(some 27), none, .call 31 [(.t 24), (.t 25), (.t 26)], [0, 1, 2]⟩, ⟨(some 28), none, .mv (.t 1), []⟩, ⟨(some 29), none, .call 30 [(.t 28)], [4, 3]⟩, ⟨(some 30), none, .call 34 [(.t 27), (.t 29)], [3, 5, 5]⟩, ⟨(some 23), none, .mv (.t 30), [6]⟩,
    ⟨(some 31), none, .ext (.t 23) 0, [7]⟩, ⟨(some 32), none, .ext (.t 23) 1, [7]⟩, ⟨(some 7), none, .mv (.t 31), [8, 6, 0, 1, 2, 3, 4, 5, 6, 7, 8]⟩, ⟨(some 8), none, .mv (.t 32), [9, 10, 0, 1, 2, 3, 4, 5, 6, 7, 8, 9, 10]⟩]
@[reducible] def R17_9 : List XO := [⟨(some 33), none, .mv (.t 8), []⟩, ⟨(some 4), none, .mv (.t 33), [0, 0]⟩]
@[reducible] def F17 : XF := ⟨34, (.seq (.reg false [] R17_0) (.seq (.seq (.reg false [] R17_1) (.cond (.t 11) (.seq (.reg false [] R17_2) .ret) .skip)) (.seq (.reg false [] R17_3) (.seq (.seq (.reg false [] R17_4) (.blk 0 (.loop L17_0))) (.seq (.reg false [] R17_8) (.seq (.reg false [] R17_9) .ret)))))), [(4, none)]⟩
/-- codesearch/regexec.Whole -/
@[reducible] def R18_0 : List XO := [⟨(some 2), none, .box 5 (.t 0), []⟩, ⟨(some 4), none, .mv (.c (.bool false)), []⟩]
@[reducible] def R18_1 : List XO := [⟨(some 5), none, .load 5 true (.t 2), []⟩, ⟨(some 6), none, .call 27 [(.t 5)], [0]⟩, ⟨(some 7), none, .bin false .neq (.t 6) (.c (.int .i64 0)), [1]⟩]
@[reducible] def R18_2 : List XO := [⟨(some 4), none, .mv (.c (.bool false)), []⟩]
@[reducible] def R18_3 : List XO := [⟨(some 8), none, .load 5 true (.t 2), []⟩, ⟨(some 9), none, .mv (.t 1), []⟩, ⟨(some 10), none, .call 28 [(.t 8), (.t 9)], [0, 1]⟩, ⟨(some 11), none, .mv (.t 1), []⟩, ⟨(some 12), none, .call 29 [(.t 11), (.c (.int .i64 0))], [3, 2]⟩, ⟨(some 13), none, .callv (.t 10) [(.t 12)], [2, 4, 4]⟩, ⟨(some 14), none, .mv (.t 1), []⟩, ⟨(some 15), none, .len true (.t 14),
    [6]⟩, ⟨(some 16), none, .iaS 1 (.t 13) (.t 15), [5, 7]⟩, ⟨(some 17), none, .load 1 false (.t 16), [8]⟩, ⟨(some 4), none, .mv (.t 17), [9, 5, 0, 1, 2, 3, 4, 5, 6, 7, 8, 9]⟩]
@[reducible] def F18 : XF := ⟨18, (.seq (.reg false [] R18_0) (.seq (.seq (.reg false [] R18_1) (.cond (.t 7) (.seq (.reg false [] R18_2) .ret) .skip)) (.seq (.reg false [] R18_3) .ret))), [(4, none)]⟩
/-- codesearch/codesearchref09.Whole -/
@[reducible] def R19_0 : List XO := [⟨(some 2), none, .box 5 (.t 0), []⟩, ⟨(some 4), none, .mv (.c (.bool false)), []⟩]
@[reducible] def R19_1 : List XO := [⟨(some 6), none, .load 5 true (.t 2), []⟩, ⟨(some 7), none, .mv (.t 1), []⟩, ⟨(some 8), none, .call 13 [(.t 6), (.t 7), (.c (.int .i64 0))], [0, 1]⟩, ⟨(some 5), none, .mv (.t 8), [2, 2, 0, 1, 2]⟩]
@[reducible] def R19_2 : List XO := [⟨(some 9), none, .mv (.t 5), []⟩, ⟨(some 10), none, .len false (.t 9), [0]⟩, ⟨(some 11), none, .bin false .gtr (.t 10) (.c (.int .i64 0)), [1]⟩, ⟨(some 12), none, .mv (.t 11), [2]⟩, ⟨(some 13), (some (12, true)), .mv (.t 5), [3]⟩, ⟨(some 14), (some (12, true)), .mv (.t 5), [3]⟩, ⟨(some 15), (some (12, true)), .len false (.t 14), [5, 3]⟩, ⟨(some 16), (some (12,
    true)), .bin false .sub (.t 15) (.c (.int .i64 1)), [6, 3]⟩, ⟨(some 17), (some (12, true)), .iaS 1 (.t 13) (.t 16), [4, 7, 3]⟩, ⟨(some 18), (some (12, true)), .load 1 false (.t 17), [8, 3]⟩, ⟨(some 19), (some (12, true)), .mv (.t 1), [3]⟩, ⟨(some 20), (some (12, true)), .len true (.t 19), [10, 3]⟩, ⟨(some 21), (some (12, true)), .bin false .eql (.t 18) (.t 20), [9, 11, 3]⟩, ⟨(some 22), none,
    .pick (.t 12) (.t 21) (.c (.bool false)), [3, 12]⟩, ⟨(some 4), none, .mv (.t 22), [13, 3, 0, 1, 2, 3, 4, 5, 6, 7, 8, 9, 10, 11, 12, 13]⟩]
@[reducible] def F19 : XF := ⟨23, (.seq (.reg false [] R19_0) (.seq (.reg false [] R19_1) (.seq (.reg false [] R19_2) .ret))), [(4, none)]⟩
/-- codesearch/codesearchref09.SameSpans -/
@[reducible] def R20_0 : List XO := [⟨(some 4), none, .mv (.c (.bool false)), []⟩]
@[reducible] def R20_1 : List XO := [⟨(some 6), none, .mv (.t 0), []⟩, ⟨(some 7), none, .len false (.t 6), [0]⟩, ⟨(some 8), none, .mv (.t 1), []⟩, ⟨(some 9), none, .len false (.t 8), [2]⟩, ⟨(some 10), none, .bin false .neq (.t 7) (.t 9), [1, 3]⟩]
@[reducible] def R20_2 : List XO := [⟨(some 4), none, .mv (.c (.bool false)), []⟩]
@[reducible] def R20_3 : List XO := [⟨(some 5), none, .mv (.c (.int .i64 0)), []⟩]
@[reducible] def R20_4 : List XO := [⟨(some 11), none, .mv (.t 5), []⟩, ⟨(some 12), none, .mv (.t 0), []⟩, ⟨(some 13), none, .len false (.t 12), [1]⟩, ⟨(some 14), none, .bin false .lss (.t 11) (.t 13), [0, 2]⟩]
@[reducible] def R20_5 : List XO := [⟨(some 17), none, .mv (.t 0), []⟩, ⟨(some 18), none, .mv (.t 5), []⟩, ⟨(some 19), none, .iaS 2 (.t 17) (.t 18), [0, 1]⟩, ⟨(some 20), none, .load 2 true (.t 19), [2]⟩, ⟨(some 21), none, .mv (.t 1), []⟩, ⟨(some 22), none, .mv (.t 5), []⟩, ⟨(some 23), none, .iaS 2 (.t 21) (.t 22), [4, 5]⟩, ⟨(some 24), none, .load 2 true (.t 23), [6]⟩, ⟨(some 25), none, .eqs true
    [0, 0] (.t 20) (.t 24), [3, 7]⟩]
@[reducible] def R20_6 : List XO := [⟨(some 4), none, .mv (.c (.bool false)), []⟩]
@[reducible] def R20_7 : List XO := [⟨(some 15), none, .mv (.t 5), []⟩, ⟨(some 16), none, .bin false .add (.t 15) (.c (.int .i64 1)), [0]⟩, ⟨(some 5), none, .mv (.t 16), [1, 0, 1]⟩]
@[reducible] def L20_0 : XC := (.seq (.seq (.reg false [] R20_4) (.cond (.t 14) .skip (.exit 0))) (.seq (.blk 1 (.seq (.reg true [] R20_5) (.cond (.t 25) (.seq (.reg false [] R20_6) .ret) .skip))) (.reg false [] R20_7)))
@[reducible] def R20_8 : List XO := [⟨(some 4), none, .mv (.c (.bool true)), []⟩]
@[reducible] def F20 : XF := ⟨26, (.seq (.reg false [] R20_0) (.seq (.seq (.reg false [] R20_1) (.cond (.t 10) (.seq (.reg false [] R20_2) .ret) .skip)) (.seq (.seq (.reg false [] R20_3) (.blk 0 (.loop L20_0))) (.seq (.reg false [] R20_8) .ret)))), [(4, none)]⟩
/-- codesearch/regexec.All -/
@[reducible] def R21_0 : List XO := [⟨(some 2), none, .box 5 (.t 0), []⟩, ⟨(some 4), none, .mv (.c .nls), []⟩]
@[reducible] def R21_1 : List XO := [⟨(some 10), none, .load 5 true (.t 2), []⟩, ⟨(some 11), none, .call 27 [(.t 10)], [0]⟩, ⟨(some 12), none, .bin false .neq (.t 11) (.c (.int .i64 0)), [1]⟩]
@[reducible] def R21_2 : List XO := [⟨(some 4), none, .mv (.c .nls), []⟩]
@[reducible] def R21_3 : List XO := [⟨(some 5), none, .mv (.c .nls), []⟩]
@[reducible] def R21_4 : List XO := [⟨(some 13), none, .load 5 true (.t 2), []⟩, ⟨(some 14), none, .mv (.t 1), []⟩, ⟨(some 15), none, .call 28 [(.t 13), (.t 14)], [0, 1]⟩, ⟨(some 6), none, .mv (.t 15), [2, 2, 0, 1, 2]⟩]
@[reducible] def R21_5 : List XO := [⟨(some 7), none, .mv (.c (.int .i64 0)), []⟩]
@[reducible] def R21_6 : List XO := [⟨(some 17), none, .mv (.t 6), []⟩, ⟨(some 18), none, .mv (.t 1), []⟩, ⟨(some 19), none, .mv (.t 7), []⟩, ⟨(some 20), none, .call 32 [(.t 17), (.t 18), (.t 19)], [0, 1, 2]⟩, ⟨(some 16), none, .mv (.t 20), [3]⟩, ⟨(some 21), none, .ext (.t 16) 0, [4]⟩, ⟨(some 22), none, .ext (.t 16) 1, [4]⟩, ⟨(some 8), none, .alloc [(.int .i64 0), (.int .i64 0)], []⟩, ⟨none, none,
    .store 2 (.t 8) (.t 21), [7, 5, 3, 0, 1, 2, 3, 4, 5, 7]⟩, ⟨(some 9), none, .mv (.t 22), [6, 8, 0, 1, 2, 3, 4, 5, 6, 7, 8]⟩]
@[reducible] def R21_7 : List XO := [⟨(some 23), none, .mv (.t 9), []⟩, ⟨(some 24), none, .un .not (.t 23), [0]⟩]
@[reducible] def R21_8 : List XO := [⟨(some 25), none, .mv (.t 5), []⟩, ⟨(some 4), none, .mv (.t 25), [0, 0]⟩]
@[reducible] def R21_9 : List XO := [⟨(some 26), none, .mv (.t 5), []⟩, ⟨(some 27), none, .load 2 true (.t 8), []⟩, ⟨(some 28), none, .bsl 32 2 [(.int .i64 0), (.int .i64 0)] 1 [(0, (.t 27))], [1]⟩, ⟨(some 29), none, .app 32 2 16 (.t 26) (.t 28), [0, 2]⟩, ⟨(some 5), none, .mv (.t 29), [3, 3, 0, 1, 2, 3]⟩]
@[reducible] def R21_10 : List XO := [⟨(some 30), none, .fad 1 (.t 8), []⟩, ⟨(some 31), none, .load 1 false (.t 30), [0]⟩, ⟨(some 7), none, .mv (.t 31), [1, 0, 1]⟩]
@[reducible] def R21_11 : List XO := [⟨(some 32), none, .fad 0 (.t 8), []⟩, ⟨(some 33), none, .load 1 false (.t 32), [0]⟩, ⟨(some 34), none, .fad 1 (.t 8), []⟩, ⟨(some 35), none, .load 1 false (.t 34), [2]⟩, ⟨(some 36), none, .bin false .eql (.t 33) (.t 35), [1, 3]⟩]
@[reducible] def R21_12 : List XO := [⟨(some 37), none, .mv (.t 7), []⟩, ⟨(some 38), none, .bin false .add (.t 37) (.c (.int .i64 1)), [0]⟩, ⟨(some 7), none, .mv (.t 38), [1, 0, 1]⟩]
@[reducible] def L21_0 : XC := (.blk 1 (.seq (.reg false [] R21_6) (.seq (.seq (.reg false [] R21_7) (.cond (.t 24) (.seq (.reg false [] R21_8) .ret) .skip)) (.seq (.reg false [] R21_9) (.seq (.reg false [] R21_10) (.seq (.reg false [] R21_11) (.cond (.t 36) (.reg false [] R21_12) .skip)))))))
@[reducible] def F21 : XF := ⟨39, (.seq (.reg false [] R21_0) (.seq (.seq (.reg false [] R21_1) (.cond (.t 12) (.seq (.reg false [] R21_2) .ret) .skip)) (.seq (.reg false [] R21_3) (.seq (.reg false [] R21_4) (.seq (.reg false [] R21_5) (.blk 0 (.loop L21_0))))))), [(4, none)]⟩
/-- codesearch/codesearchref09.All -/
@[reducible] def R22_0 : List XO := [⟨(some 2), none, .box 5 (.t 0), []⟩, ⟨(some 4), none, .mv (.c .nls), []⟩]
@[reducible] def R22_1 : List XO := [⟨(some 5), none, .mv (.c .nls), []⟩]
@[reducible] def R22_2 : List XO := [⟨(some 6), none, .mv (.c (.int .i64 0)), []⟩]
@[reducible] def R22_3 : List XO := [⟨(some 10), none, .load 5 true (.t 2), []⟩, ⟨(some 11), none, .mv (.t 1), []⟩, ⟨(some 12), none, .mv (.t 6), []⟩, ⟨(some 13), none, .call 15 [(.t 10), (.t 11), (.t 12)], [0, 1, 2]⟩, ⟨(some 9), none, .mv (.t 13), [3]⟩, ⟨(some 14), none, .ext (.t 9) 0, [4]⟩, ⟨(some 15), none, .ext (.t 9) 1, [4]⟩, ⟨(some 7), none, .alloc [(.int .i64 0), (.int .i64 0)], []⟩, ⟨none,
    none, .store 2 (.t 7) (.t 14), [7, 5, 3, 0, 1, 2, 3, 4, 5, 7]⟩, ⟨(some 8), none, .mv (.t 15), [6, 8, 0, 1, 2, 3, 4, 5, 6, 7, 8]⟩]
@[reducible] def R22_4 : List XO := [⟨(some 16), none, .mv (.t 8), []⟩, ⟨(some 17), none, .un .not (.t 16), [0]⟩]
@[reducible] def R22_5 : List XO := [⟨(some 18), none, .mv (.t 5), []⟩, ⟨(some 4), none, .mv (.t 18), [0, 0]⟩]
@[reducible] def R22_6 : List XO := [⟨(some 19), none, .mv (.t 5), []⟩, ⟨(some 20), none, .load 2 true (.t 7), []⟩, ⟨(some 21), none, .bsl 32 2 [(.int .i64 0), (.int .i64 0)] 1 [(0, (.t 20))], [1]⟩, ⟨(some 22), none, .app 32 2 16 (.t 19) (.t 21), [0, 2]⟩, ⟨(some 5), none, .mv (.t 22), [3, 3, 0, 1, 2, 3]⟩]
@[reducible] def R22_7 : List XO := [⟨(some 23), none, .fad 1 (.t 7), []⟩, ⟨(some 24), none, .load 1 false (.t 23), [0]⟩, ⟨(some 6), none, .mv (.t 24), [1, 0, 1]⟩]
@[reducible] def R22_8 : List XO := [⟨(some 25), none, .fad 0 (.t 7), []⟩, ⟨(some 26), none, .load 1 false (.t 25), [0]⟩, ⟨(some 27), none, .fad 1 (.t 7), []⟩, ⟨(some 28), none, .load 1 false (.t 27), [2]⟩, ⟨(some 29), none, .bin false .eql (.t 26) (.t 28), [1, 3]⟩]
@[reducible] def R22_9 : List XO := [⟨(some 30), none, .mv (.t 6), []⟩, ⟨(some 31), none, .bin false .add (.t 30) (.c (.int .i64 1)), [0]⟩, ⟨(some 6), none, .mv (.t 31), [1, 0, 1]⟩]
@[reducible] def L22_0 : XC := (.blk 1 (.seq (.reg false [] R22_3) (.seq (.seq (.reg false [] R22_4) (.cond (.t 17) (.seq (.reg false [] R22_5) .ret) .skip)) (.seq (.reg false [] R22_6) (.seq (.reg false [] R22_7) (.seq (.reg false [] R22_8) (.cond (.t 29) (.reg false [] R22_9) .skip)))))))
@[reducible] def F22 : XF := ⟨32, (.seq (.reg false [] R22_0) (.seq (.reg false [] R22_1) (.seq (.reg false [] R22_2) (.blk 0 (.loop L22_0))))), [(4, none)]⟩
/-- codesearch/codesearchlaw09.cat -/
@[reducible] def R23_0 : List XO := [⟨(some 2), none, .alloc [(.int .i64 0), .nls, (.int .i64 0), (.int .i64 0), .nls], []⟩]
@[reducible] def R23_1 : List XO := [⟨(some 3), none, .mv (.t 0), []⟩, ⟨(some 4), none, .bdf [(.int .i64 0), .nls, (.int .i64 0), (.int .i64 0), .nls] [(0, 1, (.c (.int .i64 2))), (4, 1, (.t 3))], [0]⟩, ⟨none, none, .store 5 (.t 2) (.t 4), [1, 0, 1]⟩]
@[reducible] def F23 : XF := ⟨5, (.seq (.reg false [] R23_0) (.seq (.reg false [] R23_1) .ret)), [(2, some (5, true))]⟩
/-- codesearch/codesearchref08.Right -/
@[reducible] def R24_0 : List XO := [⟨(some 1), none, .box 5 (.t 0), []⟩, ⟨(some 2), none, .mv (.c (.int .i64 0)), []⟩]
@[reducible] def R24_1 : List XO := [⟨(some 4), none, .load 5 true (.t 1), []⟩, ⟨(some 5), none, .call 35 [(.t 4)], [0]⟩, ⟨(some 3), none, .mv (.t 5), [1, 1, 0, 1]⟩]
@[reducible] def R24_2 : List XO := [⟨(some 6), none, .mv (.t 3), []⟩, ⟨(some 7), none, .bin false .neq (.t 6) (.c (.int .i64 0)), [0]⟩]
@[reducible] def R24_3 : List XO := [⟨(some 8), none, .mv (.t 3), []⟩, ⟨(some 2), none, .mv (.t 8), [0, 0]⟩]
@[reducible] def R24_4 : List XO := [⟨(some 9), none, .load 5 true (.t 1), []⟩, ⟨(some 10), none, .call 36 [(.t 9)], [0]⟩, ⟨(some 11), none, .bin false .gtr (.t 10) (.c (.int .i64 40)), [1]⟩, ⟨(some 12), none, .mv (.t 11), [2, 1]⟩, ⟨(some 13), (some (12, false)), .load 5 true (.t 1), [3]⟩, ⟨(some 14), (some (12, false)), .call 37 [(.t 13)], [4, 3, 3]⟩, ⟨(some 15), (some (12, false)), .bin false
    .gtr (.t 14) (.c (.int .i64 12)), [5, 3]⟩, ⟨(some 16), none, .pick (.t 12) (.c (.bool true)) (.t 15), [3, 6]⟩]
@[reducible] def R24_5 : List XO := [⟨(some 2), none, .mv (.c (.int .i64 4)), []⟩]
@[reducible] def R24_6 : List XO := [⟨(some 2), none, .mv (.c (.int .i64 0)), []⟩]
@[reducible] def F24 : XF := ⟨17, (.seq (.reg false [] R24_0) (.seq (.reg false [] R24_1) (.seq (.seq (.reg false [] R24_2) (.cond (.t 7) (.seq (.reg false [] R24_3) .ret) .skip)) (.seq (.seq (.reg false [] R24_4) (.cond (.t 16) (.seq (.reg false [] R24_5) .ret) .skip)) (.seq (.reg false [] R24_6) .ret))))), [(2, none)]⟩
/-- codesearch/codesearchlaw09.has -/
@[reducible] def R25_0 : List XO := [⟨(some 4), none, .mv (.c (.bool false)), []⟩]
@[reducible] def R25_1 : List XO := [⟨(some 5), none, .mv (.c (.int .i64 0)), []⟩]
@[reducible] def R25_2 : List XO := [⟨(some 6), none, .mv (.t 5), []⟩, ⟨(some 7), none, .mv (.t 0), []⟩, ⟨(some 8), none, .len false (.t 7), [1]⟩, ⟨(some 9), none, .bin false .lss (.t 6) (.t 8), [0, 2]⟩]
@[reducible] def R25_3 : List XO := [⟨(some 12), none, .mv (.t 0), []⟩, ⟨(some 13), none, .mv (.t 5), []⟩, ⟨(some 14), none, .iaS 1 (.t 12) (.t 13), [0, 1]⟩, ⟨(some 15), none, .load 1 false (.t 14), [2]⟩, ⟨(some 16), none, .mv (.t 1), []⟩, ⟨(some 17), none, .bin false .eql (.t 15) (.t 16), [3, 4]⟩]
@[reducible] def R25_4 : List XO := [⟨(some 4), none, .mv (.c (.bool true)), []⟩]
@[reducible] def R25_5 : List XO := [⟨(some 10), none, .mv (.t 5), []⟩, ⟨(some 11), none, .bin false .add (.t 10) (.c (.int .i64 1)), [0]⟩, ⟨(some 5), none, .mv (.t 11), [1, 0, 1]⟩]
@[reducible] def L25_0 : XC := (.seq (.seq (.reg false [] R25_2) (.cond (.t 9) .skip (.exit 0))) (.seq (.blk 1 (.seq (.reg false [] R25_3) (.cond (.t 17) (.seq (.reg false [] R25_4) .ret) .skip))) (.reg false [] R25_5)))
@[reducible] def R25_6 : List XO := [⟨(some 4), none, .mv (.c (.bool false)), []⟩]
@[reducible] def F25 : XF := ⟨18, (.seq (.reg false [] R25_0) (.seq (.seq (.reg false [] R25_1) (.blk 0 (.loop L25_0))) (.seq (.reg false [] R25_6) .ret))), [(4, none)]⟩
/-- codesearch/codesearchlaw09.set -/
@[reducible] def R26_0 : List XO := [⟨(some 2), none, .alloc [(.int .i64 0), .nls, (.int .i64 0), (.int .i64 0), .nls], []⟩]
@[reducible] def R26_1 : List XO := [⟨(some 3), none, .mv (.t 0), []⟩, ⟨(some 4), none, .mv (.t 0), []⟩, ⟨(some 5), none, .bdf [(.int .u8 0), (.int .u8 0)] [(0, 1, (.t 3)), (1, 1, (.t 4))], [0, 1]⟩, ⟨(some 6), none, .bsl 61 2 [(.int .u8 0), (.int .u8 0)] 1 [(0, (.t 5))], [2]⟩, ⟨(some 7), none, .bdf [(.int .i64 0), .nls, (.int .i64 0), (.int .i64 0), .nls] [(0, 1, (.c (.int .i64 1))), (1, 1, (.t
    6))], [3]⟩, ⟨none, none, .store 5 (.t 2) (.t 7), [4, 0, 1, 2, 3, 4]⟩]
@[reducible] def F26 : XF := ⟨8, (.seq (.reg false [] R26_0) (.seq (.reg false [] R26_1) .ret)), [(2, some (5, true))]⟩
/-- codesearch/regex.Right -/
@[reducible] def R27_0 : List XO := [⟨(some 1), none, .box 5 (.t 0), []⟩, ⟨(some 2), none, .mv (.c (.int .i64 0)), []⟩]
@[reducible] def R27_1 : List XO := [⟨(some 6), none, .load 5 true (.t 1), []⟩, ⟨(some 7), none, .call 38 [(.t 6)], [0]⟩, ⟨(some 3), none, .mv (.t 7), [1, 1, 0, 1]⟩]
@[reducible] def R27_2 : List XO := [⟨(some 8), none, .mv (.t 3), []⟩, ⟨(some 9), none, .bin false .neq (.t 8) (.c (.int .i64 0)), [0]⟩]
@[reducible] def R27_3 : List XO := [⟨(some 10), none, .mv (.t 3), []⟩, ⟨(some 2), none, .mv (.t 10), [0, 0]⟩]
@[reducible] def R27_4 : List XO := [⟨(some 12), none, .load 5 true (.t 1), []⟩, ⟨(some 13), none, .call 39 [(.t 12)], [0]⟩, ⟨(some 11), none, .mv (.t 13), [1]⟩, ⟨(some 14), none, .ext (.t 11) 0, [2]⟩, ⟨(some 15), none, .ext (.t 11) 1, [2]⟩, ⟨(some 4), none, .mv (.t 14), [3, 1, 0, 1, 2, 3]⟩, ⟨(some 5), none, .mv (.t 15), [4, 5, 0, 1, 2, 3, 4, 5]⟩]
@[reducible] def R27_5 : List XO := [⟨(some 16), none, .mv (.t 4), []⟩, ⟨(some 17), none, .bin false .gtr (.t 16) (.c (.int .i64 40)), [0]⟩, ⟨(some 18), none, .mv (.t 17), [1]⟩, ⟨(some 19), (some (18, false)), .mv (.t 5), [2]⟩, ⟨(some 20), (some (18, false)), .bin false .gtr (.t 19) (.c (.int .i64 12)), [3, 2]⟩, ⟨(some 21), none, .pick (.t 18) (.c (.bool true)) (.t 20), [2, 4]⟩]
@[reducible] def R27_6 : List XO := [⟨(some 2), none, .mv (.c (.int .i64 4)), []⟩]
@[reducible] def R27_7 : List XO := [⟨(some 2), none, .mv (.c (.int .i64 0)), []⟩]
@[reducible] def F27 : XF := ⟨22, (.seq (.reg false [] R27_0) (.seq (.seq (.reg false [] R27_1) (.seq (.reg false [] R27_2) (.cond (.t 9) (.seq (.reg false [] R27_3) .ret) .skip))) (.seq (.seq (.reg false [] R27_4) (.seq (.reg false [] R27_5) (.cond (.t 21) (.seq (.reg false [] R27_6) .ret) .skip))) (.seq (.reg false [] R27_7) .ret)))), [(2, none)]⟩
/-- codesearch/regexec.compile -/
@[reducible] def R28_0 : List XO := [⟨(some 2), none, .box 5 (.t 0), []⟩, ⟨(some 3), none, .box 1 (.t 1), []⟩, ⟨(some 4), none, .mv (.c .nlf), []⟩]
@[reducible] def R28_1 : List XO := [⟨(some 5), none, .alloc [.nls], []⟩]
@[reducible] def R28_2 : List XO := [⟨(some 7), none, .fad 4 (.t 2), []⟩, ⟨(some 8), none, .load 1 false (.t 7), [0]⟩, ⟨(some 9), none, .len false (.t 8), [1]⟩, ⟨(some 10), none, .mv (.c (.int .i64 0)), []⟩]
@[reducible] def R28_3 : List XO := [⟨(some 11), none, .bin false .lss (.t 10) (.t 9), []⟩]
@[reducible] def R28_4 : List XO := [⟨(some 12), none, .mv (.t 10), []⟩, ⟨(some 6), none, .mv (.t 12), [0, 0]⟩]
@[reducible] def R28_5 : List XO := [⟨(some 13), none, .load 1 false (.t 5), []⟩, ⟨(some 14), none, .fad 4 (.t 2), []⟩, ⟨(some 15), none, .load 1 false (.t 14), [1]⟩, ⟨(some 16), none, .mv (.t 6), []⟩, ⟨(some 17), none, .iaS 5 (.t 15) (.t 16), [2, 3]⟩, ⟨(some 18), none, .load 5 true (.t 17), [4]⟩, ⟨(some 19), none, .load 1 false (.t 3), []⟩, ⟨(some 20), none, .call 28 [(.t 18), (.t 19)], [5, 6]⟩,
    ⟨(some 21), none, .bsf 51 1 [.nlf] 1 [(0, (.t 20))], [7]⟩, ⟨(some 22), none, .app 51 1 8 (.t 13) (.t 21), [0, 8, 7]⟩, ⟨none, none, .store 1 (.t 5) (.t 22), [9, 9, 0, 1, 2, 3, 4, 5, 6, 7, 8, 9]⟩]
@[reducible] def R28_6 : List XO := [⟨(some 23), none, .bin false .add (.t 10) (.c (.int .i64 1)), []⟩, ⟨(some 10), none, .mv (.t 23), [0]⟩]
@[reducible] def L28_0 : XC := (.seq (.reg false [] R28_3) (.seq (.cond (.t 11) .skip (.exit 0)) (.seq (.blk 1 (.seq (.reg false [] R28_4) (.reg true [] R28_5))) (.reg false [] R28_6))))
@[reducible] def R28_7 : List XO := [⟨(some 24), none, .fad 0 (.t 2), []⟩, ⟨(some 25), none, .load 1 false (.t 24), [0]⟩]
@[reducible] def R28_8 : List XO := [⟨(some 27), none, .bin false .eql (.t 25) (.c (.int .i64 1)), []⟩, ⟨(some 26), none, .mv (.t 27), [0]⟩]
@[reducible] def R28_9 : List XO := [⟨(some 28), none, .fad 1 (.t 2), []⟩, ⟨(some 29), none, .load 1 false (.t 28), [0]⟩, ⟨(some 30), none, .load 1 false (.t 3), []⟩, ⟨(some 31), none, .call 40 [(.t 29), (.t 30)], [1, 2]⟩, ⟨(some 4), none, .mv (.t 31), [3, 3, 0, 1, 2, 3]⟩]
@[reducible] def R28_10 : List XO := [⟨(some 33), none, .bin false .eql (.t 25) (.c (.int .i64 2)), []⟩, ⟨(some 32), none, .mv (.t 33), [0]⟩]
@[reducible] def R28_11 : List XO := [⟨(some 34), none, .mkfn 41 [(.t 5)], []⟩, ⟨(some 4), none, .mv (.t 34), [0, 0]⟩]
@[reducible] def R28_12 : List XO := [⟨(some 36), none, .bin false .eql (.t 25) (.c (.int .i64 3)), []⟩, ⟨(some 35), none, .mv (.t 36), [0]⟩]
@[reducible] def R28_13 : List XO := [⟨(some 37), none, .mkfn 42 [(.t 5)], []⟩, ⟨(some 4), none, .mv (.t 37), [0, 0]⟩]
@[reducible] def R28_14 : List XO := [⟨(some 39), none, .bin false .eql (.t 25) (.c (.int .i64 4)), []⟩, ⟨(some 38), none, .mv (.t 39), [0]⟩]
@[reducible] def R28_15 : List XO := [⟨(some 40), none, .load 1 false (.t 5), []⟩, ⟨(some 41), none, .iaS 1 (.t 40) (.c (.int .i64 0)), [0]⟩, ⟨(some 42), none, .load 1 false (.t 41), [1]⟩, ⟨(some 43), none, .fad 2 (.t 2), []⟩, ⟨(some 44), none, .load 1 false (.t 43), [3]⟩, ⟨(some 45), none, .fad 3 (.t 2), []⟩, ⟨(some 46), none, .load 1 false (.t 45), [5]⟩, ⟨(some 47), none, .call 44 [(.t 42), (.t
    44), (.t 46)], [2, 4, 6]⟩, ⟨(some 4), none, .mv (.t 47), [7, 7, 0, 1, 2, 3, 4, 5, 6, 7]⟩]
@[reducible] def R28_16 : List XO := [⟨(some 49), none, .bin false .eql (.t 25) (.c (.int .i64 5)), []⟩, ⟨(some 48), none, .mv (.t 49), [0]⟩]
@[reducible] def R28_17 : List XO := [⟨(some 50), none, .mkfn 46 [(.t 3)], []⟩, ⟨(some 51), none, .call 45 [(.t 50)], [0]⟩, ⟨(some 4), none, .mv (.t 51), [1, 1, 0, 1]⟩]
@[reducible] def R28_18 : List XO := [⟨(some 53), none, .bin false .eql (.t 25) (.c (.int .i64 6)), []⟩, ⟨(some 52), none, .mv (.t 53), [0]⟩]
@[reducible] def R28_19 : List XO := [⟨(some 54), none, .mkfn 47 [(.t 3)], []⟩, ⟨(some 55), none, .call 45 [(.t 54)], [0]⟩, ⟨(some 4), none, .mv (.t 55), [1, 1, 0, 1]⟩]
@[reducible] def R28_20 : List XO := [⟨(some 56), none, .mkfn 48 [(.t 3)], []⟩, ⟨(some 57), none, .call 45 [(.t 56)], [0]⟩, ⟨(some 4), none, .mv (.t 57), [1, 1, 0, 1]⟩]
@[reducible] def F28 : XF := ⟨58, (.seq (.reg false [] R28_0) (.seq (.reg false [] R28_1) (.seq (.seq (.reg false [] R28_2) (.blk 0 (.loop L28_0))) (.seq (.seq (.reg false [] R28_7) (.blk 2 (.seq (.reg false [] R28_8) (.cond (.t 26) (.seq (.reg false [] R28_9) .ret) (.seq (.reg false [] R28_10) (.cond (.t 32) (.seq (.reg false [] R28_11) .ret) (.seq (.reg false [] R28_12) (.cond (.t 35) (.seq (.reg
    false [] R28_13) .ret) (.seq (.reg false [] R28_14) (.cond (.t 38) (.seq (.reg true [] R28_15) .ret) (.seq (.reg false [] R28_16) (.cond (.t 48) (.seq (.reg false [] R28_17) .ret) (.seq (.reg false [] R28_18) (.cond (.t 52) (.seq (.reg false [] R28_19) .ret) .skip)))))))))))))) (.seq (.reg false [] R28_20) .ret))))), [(4, none)]⟩
/-- codesearch/regexec.start -/
@[reducible] def R29_0 : List XO := [⟨(some 4), none, .mv (.c .nls), []⟩]
@[reducible] def R29_1 : List XO := [⟨(some 6), none, .mv (.t 0), []⟩, ⟨(some 7), none, .len true (.t 6), [0]⟩, ⟨(some 8), none, .bin false .add (.t 7) (.c (.int .i64 1)), [1]⟩, ⟨(some 9), none, .mks 4 1 1 [(.bool false)] (.t 8) (.t 8), [2, 2]⟩, ⟨(some 5), none, .mv (.t 9), [3, 0, 1, 2, 3]⟩]
@[reducible] def R29_2 : List XO := [⟨(some 10), none, .mv (.t 5), []⟩, ⟨(some 11), none, .mv (.t 1), []⟩, ⟨(some 12), none, .iaS 1 (.t 10) (.t 11), [0, 1, 0, 1]⟩, ⟨none, none, .store 1 (.t 12) (.c (.bool true)), [2, 0, 1]⟩]
@[reducible] def R29_3 : List XO := [⟨(some 13), none, .mv (.t 5), []⟩, ⟨(some 4), none, .mv (.t 13), [0, 0]⟩]
@[reducible] def F29 : XF := ⟨14, (.seq (.reg false [] R29_0) (.seq (.reg false [] R29_1) (.seq (.reg false [] R29_2) (.seq (.reg false [] R29_3) .ret)))), [(4, none)]⟩
/-- codesearch/codesearchref09.none -/
@[reducible] def R30_0 : List XO := [⟨(some 2), none, .mv (.c .nls), []⟩]
@[reducible] def R30_1 : List XO := [⟨(some 3), none, .mv (.c .nls), []⟩]
@[reducible] def R30_2 : List XO := [⟨(some 4), none, .mv (.c (.int .i64 0)), []⟩]
@[reducible] def R30_3 : List XO := [⟨(some 5), none, .mv (.t 4), []⟩, ⟨(some 6), none, .mv (.t 0), []⟩, ⟨(some 7), none, .len true (.t 6), [1]⟩, ⟨(some 8), none, .bin false .leq (.t 5) (.t 7), [0, 2]⟩]
@[reducible] def R30_4 : List XO := [⟨(some 11), none, .mv (.t 3), []⟩, ⟨(some 12), none, .bsl 4 1 [(.bool false)] 1 [(0, (.c (.bool false)))], []⟩, ⟨(some 13), none, .app 4 1 1 (.t 11) (.t 12), [0, 1]⟩, ⟨(some 3), none, .mv (.t 13), [2, 2, 0, 1, 2]⟩]
@[reducible] def R30_5 : List XO := [⟨(some 9), none, .mv (.t 4), []⟩, ⟨(some 10), none, .bin false .add (.t 9) (.c (.int .i64 1)), [0]⟩, ⟨(some 4), none, .mv (.t 10), [1, 0, 1]⟩]
@[reducible] def L30_0 : XC := (.seq (.seq (.reg false [] R30_3) (.cond (.t 8) .skip (.exit 0))) (.seq (.blk 1 (.reg false [] R30_4)) (.reg false [] R30_5)))
@[reducible] def R30_6 : List XO := [⟨(some 14), none, .mv (.t 3), []⟩, ⟨(some 2), none, .mv (.t 14), [0, 0]⟩]
@[reducible] def F30 : XF := ⟨15, (.seq (.reg false [] R30_0) (.seq (.reg false [] R30_1) (.seq (.seq (.reg false [] R30_2) (.blk 0 (.loop L30_0))) (.seq (.reg false [] R30_6) .ret)))), [(2, none)]⟩
/-- codesearch/codesearchref09.step -/
@[reducible] def R31_0 : List XO := [⟨(some 3), none, .box 5 (.t 0), []⟩, ⟨(some 6), none, .mv (.c .nls), []⟩]
@[reducible] def R31_1 : List XO := [⟨(some 13), none, .fad 0 (.t 3), []⟩, ⟨(some 14), none, .load 1 false (.t 13), [0]⟩]
@[reducible] def R31_2 : List XO := [⟨(some 16), none, .bin false .eql (.t 14) (.c (.int .i64 2)), []⟩, ⟨(some 15), none, .mv (.t 16), [0]⟩]
@[reducible] def R31_3 : List XO := [⟨(some 17), none, .mv (.t 2), []⟩, ⟨(some 7), none, .mv (.t 17), [0, 0]⟩]
@[reducible] def R31_4 : List XO := [⟨(some 8), none, .mv (.c (.int .i64 0)), []⟩]
@[reducible] def R31_5 : List XO := [⟨(some 18), none, .mv (.t 8), []⟩, ⟨(some 19), none, .fad 4 (.t 3), []⟩, ⟨(some 20), none, .load 1 false (.t 19), [1]⟩, ⟨(some 21), none, .len false (.t 20), [2]⟩, ⟨(some 22), none, .bin false .lss (.t 18) (.t 21), [0, 3]⟩]
@[reducible] def R31_6 : List XO := [⟨(some 25), none, .fad 4 (.t 3), []⟩, ⟨(some 26), none, .load 1 false (.t 25), [0]⟩, ⟨(some 27), none, .mv (.t 8), []⟩, ⟨(some 28), none, .iaS 5 (.t 26) (.t 27), [1, 2]⟩, ⟨(some 29), none, .load 5 true (.t 28), [3]⟩, ⟨(some 30), none, .mv (.t 1), []⟩, ⟨(some 31), none, .mv (.t 7), []⟩, ⟨(some 32), none, .call 31 [(.t 29), (.t 30), (.t 31)], [4, 5, 6]⟩, ⟨(some
    7), none, .mv (.t 32), [7, 7, 0, 1, 2, 3, 4, 5, 6, 7]⟩]
@[reducible] def R31_7 : List XO := [⟨(some 23), none, .mv (.t 8), []⟩, ⟨(some 24), none, .bin false .add (.t 23) (.c (.int .i64 1)), [0]⟩, ⟨(some 8), none, .mv (.t 24), [1, 0, 1]⟩]
@[reducible] def L31_0 : XC := (.seq (.seq (.reg false [] R31_5) (.cond (.t 22) .skip (.exit 1))) (.seq (.blk 2 (.reg false [] R31_6)) (.reg false [] R31_7)))
@[reducible] def R31_8 : List XO := [⟨(some 33), none, .mv (.t 7), []⟩, ⟨(some 6), none, .mv (.t 33), [0, 0]⟩]
@[reducible] def R31_9 : List XO := [⟨(some 35), none, .bin false .eql (.t 14) (.c (.int .i64 3)), []⟩, ⟨(some 34), none, .mv (.t 35), [0]⟩]
@[reducible] def R31_10 : List XO := [⟨(some 36), none, .mv (.t 1), []⟩, ⟨(some 37), none, .call 30 [(.t 36)], [0]⟩, ⟨(some 9), none, .mv (.t 37), [1, 1, 0, 1]⟩]
@[reducible] def R31_11 : List XO := [⟨(some 10), none, .mv (.c (.int .i64 0)), []⟩]
@[reducible] def R31_12 : List XO := [⟨(some 38), none, .mv (.t 10), []⟩, ⟨(some 39), none, .fad 4 (.t 3), []⟩, ⟨(some 40), none, .load 1 false (.t 39), [1]⟩, ⟨(some 41), none, .len false (.t 40), [2]⟩, ⟨(some 42), none, .bin false .lss (.t 38) (.t 41), [0, 3]⟩]
@[reducible] def R31_13 : List XO := [⟨(some 45), none, .mv (.t 9), []⟩, ⟨(some 46), none, .fad 4 (.t 3), []⟩, ⟨(some 47), none, .load 1 false (.t 46), [1]⟩, ⟨(some 48), none, .mv (.t 10), []⟩, ⟨(some 49), none, .iaS 5 (.t 47) (.t 48), [2, 3]⟩, ⟨(some 50), none, .load 5 true (.t 49), [4]⟩, ⟨(some 51), none, .mv (.t 1), []⟩, ⟨(some 52), none, .mv (.t 2), []⟩, ⟨(some 53), none, .call 31 [(.t 50), (.t
    51), (.t 52)], [5, 6, 7]⟩, ⟨(some 54), none, .call 50 [(.t 45), (.t 53)], [0, 8, 8]⟩, ⟨(some 9), none, .mv (.t 54), [9, 9, 0, 1, 2, 3, 4, 5, 6, 7, 8, 9]⟩]
@[reducible] def R31_14 : List XO := [⟨(some 43), none, .mv (.t 10), []⟩, ⟨(some 44), none, .bin false .add (.t 43) (.c (.int .i64 1)), [0]⟩, ⟨(some 10), none, .mv (.t 44), [1, 0, 1]⟩]
@[reducible] def L31_1 : XC := (.seq (.seq (.reg false [] R31_12) (.cond (.t 42) .skip (.exit 3))) (.seq (.blk 4 (.reg false [] R31_13)) (.reg false [] R31_14)))
@[reducible] def R31_15 : List XO := [⟨(some 55), none, .mv (.t 9), []⟩, ⟨(some 6), none, .mv (.t 55), [0, 0]⟩]
@[reducible] def R31_16 : List XO := [⟨(some 57), none, .bin false .eql (.t 14) (.c (.int .i64 4)), []⟩, ⟨(some 56), none, .mv (.t 57), [0]⟩]
@[reducible] def R31_17 : List XO := [⟨(some 58), none, .load 5 true (.t 3), []⟩, ⟨(some 59), none, .mv (.t 1), []⟩, ⟨(some 60), none, .mv (.t 2), []⟩, ⟨(some 61), none, .call 51 [(.t 58), (.t 59), (.t 60)], [0, 1, 2]⟩, ⟨(some 6), none, .mv (.t 61), [3, 3, 0, 1, 2, 3]⟩]
@[reducible] def R31_18 : List XO := [⟨(some 62), none, .mv (.t 1), []⟩, ⟨(some 63), none, .call 30 [(.t 62)], [0]⟩, ⟨(some 11), none, .mv (.t 63), [1, 1, 0, 1]⟩]
@[reducible] def R31_19 : List XO := [⟨(some 12), none, .mv (.c (.int .i64 0)), []⟩]
@[reducible] def R31_20 : List XO := [⟨(some 64), none, .mv (.t 12), []⟩, ⟨(some 65), none, .mv (.t 1), []⟩, ⟨(some 66), none, .len true (.t 65), [1]⟩, ⟨(some 67), none, .bin false .leq (.t 64) (.t 66), [0, 2]⟩]
@[reducible] def R31_21 : List XO := [⟨(some 70), none, .mv (.t 2), []⟩, ⟨(some 71), none, .mv (.t 12), []⟩, ⟨(some 72), none, .iaS 1 (.t 70) (.t 71), [0, 1]⟩, ⟨(some 73), none, .load 1 false (.t 72), [2]⟩, ⟨(some 74), none, .un .not (.t 73), [3]⟩]
@[reducible] def R31_22 : List XO := [⟨(some 75), none, .fad 0 (.t 3), []⟩, ⟨(some 76), none, .load 1 false (.t 75), [0]⟩, ⟨(some 77), none, .bin false .eql (.t 76) (.c (.int .i64 1)), [1]⟩]
@[reducible] def R31_23 : List XO := [⟨(some 78), none, .mv (.t 12), []⟩, ⟨(some 79), none, .mv (.t 1), []⟩, ⟨(some 80), none, .len true (.t 79), [1]⟩, ⟨(some 81), none, .bin false .lss (.t 78) (.t 80), [0, 2]⟩, ⟨(some 82), none, .mv (.t 81), [3]⟩, ⟨(some 83), (some (82, true)), .fad 1 (.t 3), [4]⟩, ⟨(some 84), (some (82, true)), .load 1 false (.t 83), [5, 4]⟩, ⟨(some 85), (some (82, true)), .mv
    (.t 1), [4]⟩, ⟨(some 86), (some (82, true)), .mv (.t 12), [4]⟩, ⟨(some 87), (some (82, true)), .ixS (.t 85) (.t 86), [7, 8, 4]⟩, ⟨(some 88), (some (82, true)), .call 52 [(.t 84), (.t 87)], [6, 9, 4, 4]⟩, ⟨(some 89), none, .pick (.t 82) (.t 88) (.c (.bool false)), [4, 10]⟩]
@[reducible] def R31_24 : List XO := [⟨(some 90), none, .mv (.t 11), []⟩, ⟨(some 91), none, .mv (.t 12), []⟩, ⟨(some 92), none, .bin false .add (.t 91) (.c (.int .i64 1)), [1]⟩, ⟨(some 93), none, .iaS 1 (.t 90) (.t 92), [0, 2, 0, 1, 2]⟩, ⟨none, none, .store 1 (.t 93) (.c (.bool true)), [3, 0, 1, 2]⟩]
@[reducible] def R31_25 : List XO := [⟨(some 94), none, .fad 0 (.t 3), []⟩, ⟨(some 95), none, .load 1 false (.t 94), [0]⟩, ⟨(some 96), none, .mv (.t 1), []⟩, ⟨(some 97), none, .mv (.t 12), []⟩, ⟨(some 98), none, .call 53 [(.t 95), (.t 96), (.t 97)], [1, 2, 3]⟩]
@[reducible] def R31_26 : List XO := [⟨(some 99), none, .mv (.t 11), []⟩, ⟨(some 100), none, .mv (.t 12), []⟩, ⟨(some 101), none, .iaS 1 (.t 99) (.t 100), [0, 1, 0, 1]⟩, ⟨none, none, .store 1 (.t 101) (.c (.bool true)), [2, 0, 1]⟩]
@[reducible] def R31_27 : List XO := [⟨(some 68), none, .mv (.t 12), []⟩, ⟨(some 69), none, .bin false .add (.t 68) (.c (.int .i64 1)), [0]⟩, ⟨(some 12), none, .mv (.t 69), [1, 0, 1]⟩]
@[reducible] def L31_2 : XC := (.seq (.seq (.reg false [] R31_20) (.cond (.t 67) .skip (.exit 5))) (.seq (.blk 6 (.seq (.seq (.reg false [] R31_21) (.cond (.t 74) (.exit 6) .skip)) (.seq (.reg false [] R31_22) (.cond (.t 77) (.seq (.reg true [] R31_23) (.cond (.t 89) (.reg false [] R31_24) .skip)) (.seq (.reg false [] R31_25) (.cond (.t 98) (.reg false [] R31_26) .skip)))))) (.reg false []
    R31_27)))
@[reducible] def R31_28 : List XO := [⟨(some 102), none, .mv (.t 11), []⟩, ⟨(some 6), none, .mv (.t 102), [0, 0]⟩]
@[reducible] def F31 : XF := ⟨103, (.seq (.reg false [] R31_0) (.seq (.seq (.reg false [] R31_1) (.blk 0 (.seq (.reg false [] R31_2) (.cond (.t 15) (.seq (.reg false [] R31_3) (.seq (.seq (.reg false [] R31_4) (.blk 1 (.loop L31_0))) (.seq (.reg false [] R31_8) .ret))) (.seq (.reg false [] R31_9) (.cond (.t 34) (.seq (.reg false [] R31_10) (.seq (.seq (.reg false [] R31_11) (.blk 3 (.loop L31_1)))
    (.seq (.reg false [] R31_15) .ret))) (.seq (.reg false [] R31_16) (.cond (.t 56) (.seq (.reg false [] R31_17) .ret) .skip)))))))) (.seq (.reg false [] R31_18) (.seq (.seq (.reg false [] R31_19) (.blk 5 (.loop L31_2))) (.seq (.reg false [] R31_28) .ret))))), [(6, none)]⟩
/-- codesearch/regexec.search -/
@[reducible] def R32_0 : List XO := [⟨(some 6), none, .alloc [(.int .i64 0), (.int .i64 0)], []⟩, ⟨(some 7), none, .mv (.c (.bool false)), []⟩]
@[reducible] def R32_1 : List XO := [⟨(some 11), none, .mv (.t 2), []⟩, ⟨(some 12), none, .mm true (.t 11) (.c (.int .i64 0)), [0]⟩, ⟨(some 8), none, .mv (.t 12), [1, 0, 1]⟩]
@[reducible] def R32_2 : List XO := [⟨(some 13), none, .mv (.t 8), []⟩, ⟨(some 14), none, .mv (.t 1), []⟩, ⟨(some 15), none, .len true (.t 14), [1]⟩, ⟨(some 16), none, .bin false .leq (.t 13) (.t 15), [0, 2]⟩]
@[reducible] def R32_3 : List XO := [⟨(some 19), none, .mv (.t 0), []⟩, ⟨(some 20), none, .mv (.t 1), []⟩, ⟨(some 21), none, .mv (.t 8), []⟩, ⟨(some 22), none, .call 29 [(.t 20), (.t 21)], [1, 2]⟩, ⟨(some 23), none, .callv (.t 19) [(.t 22)], [0, 3, 3]⟩, ⟨(some 9), none, .mv (.t 23), [4, 4, 0, 1, 2, 3, 4]⟩]
@[reducible] def R32_4 : List XO := [⟨(some 24), none, .mv (.t 1), []⟩, ⟨(some 25), none, .len true (.t 24), [0]⟩, ⟨(some 10), none, .mv (.t 25), [1, 0, 1]⟩]
@[reducible] def R32_5 : List XO := [⟨(some 26), none, .mv (.t 10), []⟩, ⟨(some 27), none, .mv (.t 8), []⟩, ⟨(some 28), none, .bin false .geq (.t 26) (.t 27), [0, 1]⟩]
@[reducible] def R32_6 : List XO := [⟨(some 31), none, .mv (.t 9), []⟩, ⟨(some 32), none, .mv (.t 10), []⟩, ⟨(some 33), none, .iaS 1 (.t 31) (.t 32), [0, 1]⟩, ⟨(some 34), none, .load 1 false (.t 33), [2]⟩]
@[reducible] def R32_7 : List XO := [⟨(some 35), none, .mv (.t 8), []⟩, ⟨(some 36), none, .mv (.t 10), []⟩, ⟨(some 37), none, .bdf [(.int .i64 0), (.int .i64 0)] [(0, 1, (.t 35)), (1, 1, (.t 36))], [0, 1]⟩, ⟨none, none, .store 2 (.t 6) (.t 37), [2, 0, 1, 2]⟩, ⟨(some 7), none, .mv (.c (.bool true)), [3, 0, 1, 2, 3]⟩]
@[reducible] def R32_8 : List XO := [⟨(some 29), none, .mv (.t 10), []⟩, ⟨(some 30), none, .bin false .sub (.t 29) (.c (.int .i64 1)), [0]⟩, ⟨(some 10), none, .mv (.t 30), [1, 0, 1]⟩]
@[reducible] def L32_0 : XC := (.seq (.seq (.reg false [] R32_5) (.cond (.t 28) .skip (.exit 2))) (.seq (.blk 3 (.seq (.reg false [] R32_6) (.cond (.t 34) (.seq (.reg false [] R32_7) .ret) .skip))) (.reg false [] R32_8)))
@[reducible] def R32_9 : List XO := [⟨(some 17), none, .mv (.t 8), []⟩, ⟨(some 18), none, .bin false .add (.t 17) (.c (.int .i64 1)), [0]⟩, ⟨(some 8), none, .mv (.t 18), [1, 0, 1]⟩]
@[reducible] def L32_1 : XC := (.seq (.seq (.reg false [] R32_2) (.cond (.t 16) .skip (.exit 0))) (.seq (.blk 1 (.seq (.reg false [] R32_3) (.seq (.reg false [] R32_4) (.blk 2 (.loop L32_0))))) (.reg false [] R32_9)))
@[reducible] def R32_10 : List XO := [⟨(some 38), none, .bdf [(.int .i64 0), (.int .i64 0)] [], []⟩, ⟨none, none, .store 2 (.t 6) (.t 38), [0, 0]⟩, ⟨(some 7), none, .mv (.c (.bool false)), [1, 0, 1]⟩]
@[reducible] def F32 : XF := ⟨39, (.seq (.reg false [] R32_0) (.seq (.seq (.reg false [] R32_1) (.blk 0 (.loop L32_1))) (.seq (.reg false [] R32_10) .ret))), [(6, some (2, true)), (7, none)]⟩
/-- (codesearch/regexec.set).some -/
@[reducible] def R33_0 : List XO := [⟨(some 2), none, .mv (.c (.bool false)), []⟩]
@[reducible] def R33_1 : List XO := [⟨(some 4), none, .mv (.t 0), []⟩, ⟨(some 5), none, .len false (.t 4), [0]⟩, ⟨(some 6), none, .mv (.c (.int .i64 0)), []⟩]
@[reducible] def R33_2 : List XO := [⟨(some 7), none, .bin false .lss (.t 6) (.t 5), []⟩]
@[reducible] def R33_3 : List XO := [⟨(some 8), none, .mv (.t 6), []⟩, ⟨(some 3), none, .mv (.t 8), [0, 0]⟩]
@[reducible] def R33_4 : List XO := [⟨(some 9), none, .mv (.t 0), []⟩, ⟨(some 10), none, .mv (.t 3), []⟩, ⟨(some 11), none, .iaS 1 (.t 9) (.t 10), [0, 1]⟩, ⟨(some 12), none, .load 1 false (.t 11), [2]⟩]
@[reducible] def R33_5 : List XO := [⟨(some 2), none, .mv (.c (.bool true)), []⟩]
@[reducible] def R33_6 : List XO := [⟨(some 13), none, .bin false .add (.t 6) (.c (.int .i64 1)), []⟩, ⟨(some 6), none, .mv (.t 13), [0]⟩]
@[reducible] def L33_0 : XC := (.seq (.reg false [] R33_2) (.seq (.cond (.t 7) .skip (.exit 0)) (.seq (.blk 1 (.seq (.reg false [] R33_3) (.seq (.reg false [] R33_4) (.cond (.t 12) (.seq (.reg false [] R33_5) .ret) .skip)))) (.reg false [] R33_6))))
@[reducible] def R33_7 : List XO := [⟨(some 2), none, .mv (.c (.bool false)), []⟩]
@[reducible] def F33 : XF := ⟨14, (.seq (.reg false [] R33_0) (.seq (.seq (.reg false [] R33_1) (.blk 0 (.loop L33_0))) (.seq (.reg false [] R33_7) .ret))), [(2, none)]⟩
/-- codesearch/codesearchref09.fresh -/
@[reducible] def R34_0 : List XO := [⟨(some 4), none, .mv (.c .nls), []⟩, ⟨(some 5), none, .mv (.c (.bool false)), [0]⟩]
@[reducible] def R34_1 : List XO := [⟨(some 6), none, .mv (.c .nls), []⟩]
@[reducible] def R34_2 : List XO := [⟨(some 7), none, .mv (.c (.bool false)), []⟩]
@[reducible] def R34_3 : List XO := [⟨(some 8), none, .mv (.c (.int .i64 0)), []⟩]
@[reducible] def R34_4 : List XO := [⟨(some 9), none, .mv (.t 8), []⟩, ⟨(some 10), none, .mv (.t 0), []⟩, ⟨(some 11), none, .len false (.t 10), [1]⟩, ⟨(some 12), none, .bin false .lss (.t 9) (.t 11), [0, 2]⟩]
@[reducible] def R34_5 : List XO := [⟨(some 15), none, .mv (.t 6), []⟩, ⟨(some 16), none, .mv (.t 0), []⟩, ⟨(some 17), none, .mv (.t 8), []⟩, ⟨(some 18), none, .iaS 1 (.t 16) (.t 17), [1, 2]⟩, ⟨(some 19), none, .load 1 false (.t 18), [3]⟩, ⟨(some 20), none, .mv (.t 19), [4]⟩, ⟨(some 21), (some (20, true)), .mv (.t 1), [5]⟩, ⟨(some 22), (some (20, true)), .mv (.t 8), [5]⟩, ⟨(some 23), (some (20,
    true)), .iaS 1 (.t 21) (.t 22), [6, 7, 5]⟩, ⟨(some 24), (some (20, true)), .load 1 false (.t 23), [8, 5]⟩, ⟨(some 25), (some (20, true)), .un .not (.t 24), [9, 5]⟩, ⟨(some 26), none, .pick (.t 20) (.t 25) (.c (.bool false)), [5, 10]⟩, ⟨(some 27), none, .bsl 4 1 [(.bool false)] 1 [(0, (.t 26))], [11]⟩, ⟨(some 28), none, .app 4 1 1 (.t 15) (.t 27), [0, 12, 5]⟩, ⟨(some 6), none, .mv (.t 28), [13,
    13, 0, 1, 2, 3, 4, 5, 6, 7, 8, 9, 10, 11, 12, 13]⟩]
@[reducible] def R34_6 : List XO := [⟨(some 29), none, .mv (.t 7), []⟩, ⟨(some 30), none, .mv (.t 29), [0]⟩, ⟨(some 31), (some (30, false)), .mv (.t 0), [1]⟩, ⟨(some 32), (some (30, false)), .mv (.t 8), [1]⟩, ⟨(some 33), (some (30, false)), .iaS 1 (.t 31) (.t 32), [2, 3, 1]⟩, ⟨(some 34), (some (30, false)), .load 1 false (.t 33), [4, 1]⟩, ⟨(some 35), (some (30, false)), .mv (.t 34), [5, 1, 1]⟩,
    ⟨(some 36), (some (35, true)), .mv (.t 1), [6]⟩, ⟨(some 37), (some (35, true)), .mv (.t 8), [6]⟩, ⟨(some 38), (some (35, true)), .iaS 1 (.t 36) (.t 37), [7, 8, 6]⟩, ⟨(some 39), (some (35, true)), .load 1 false (.t 38), [9, 6]⟩, ⟨(some 40), (some (35, true)), .un .not (.t 39), [10, 6]⟩, ⟨(some 41), (some (30, false)), .pick (.t 35) (.t 40) (.c (.bool false)), [6, 11, 1]⟩, ⟨(some 42), none, .pick
    (.t 30) (.c (.bool true)) (.t 41), [1, 12]⟩, ⟨(some 7), none, .mv (.t 42), [13, 6, 0, 1, 2, 3, 4, 5, 6, 7, 8, 9, 10, 11, 12, 13]⟩]
@[reducible] def R34_7 : List XO := [⟨(some 13), none, .mv (.t 8), []⟩, ⟨(some 14), none, .bin false .add (.t 13) (.c (.int .i64 1)), [0]⟩, ⟨(some 8), none, .mv (.t 14), [1, 0, 1]⟩]
@[reducible] def L34_0 : XC := (.seq (.seq (.reg false [] R34_4) (.cond (.t 12) .skip (.exit 0))) (.seq (.blk 1 (.seq (.reg false [] R34_5) (.reg false [] R34_6))) (.reg false [] R34_7)))
@[reducible] def R34_8 : List XO := [⟨(some 43), none, .mv (.t 6), []⟩, ⟨(some 44), none, .mv (.t 7), []⟩, ⟨(some 4), none, .mv (.t 43), [0, 0]⟩, ⟨(some 5), none, .mv (.t 44), [1, 2, 0, 1, 2]⟩]
@[reducible] def F34 : XF := ⟨45, (.seq (.reg false [] R34_0) (.seq (.reg false [] R34_1) (.seq (.reg false [] R34_2) (.seq (.seq (.reg false [] R34_3) (.blk 0 (.loop L34_0))) (.seq (.reg false [] R34_8) .ret))))), [(4, none), (5, none)]⟩
/-- codesearch/codesearchref08.node -/
@[reducible] def R35_0 : List XO := [⟨(some 1), none, .box 5 (.t 0), []⟩, ⟨(some 2), none, .mv (.c (.int .i64 0)), []⟩]
@[reducible] def R35_1 : List XO := [⟨(some 5), none, .load 5 true (.t 1), []⟩, ⟨(some 6), none, .call 54 [(.t 5)], [0]⟩, ⟨(some 7), none, .un .not (.t 6), [1]⟩]
@[reducible] def R35_2 : List XO := [⟨(some 2), none, .mv (.c (.int .i64 1)), []⟩]
@[reducible] def R35_3 : List XO := [⟨(some 8), none, .fad 0 (.t 1), []⟩, ⟨(some 9), none, .load 1 false (.t 8), [0]⟩, ⟨(some 10), none, .bin false .eql (.t 9) (.c (.int .i64 4)), [1]⟩, ⟨(some 11), none, .mv (.t 10), [2]⟩, ⟨(some 12), (some (11, true)), .fad 2 (.t 1), [3]⟩, ⟨(some 13), (some (11, true)), .load 1 false (.t 12), [4, 3]⟩, ⟨(some 14), (some (11, true)), .bin false .lss (.t 13) (.c
    (.int .i64 0)), [5, 3]⟩, ⟨(some 15), (some (11, true)), .mv (.t 14), [6, 3, 3]⟩, ⟨(some 16), (some (15, false)), .fad 2 (.t 1), [7]⟩, ⟨(some 17), (some (15, false)), .load 1 false (.t 16), [8, 7]⟩, ⟨(some 18), (some (15, false)), .bin false .gtr (.t 17) (.c (.int .i64 8)), [9, 7]⟩, ⟨(some 19), (some (11, true)), .pick (.t 15) (.c (.bool true)) (.t 18), [7, 10, 3]⟩, ⟨(some 20), (some (11,
    true)), .mv (.t 19), [11, 7, 3]⟩, ⟨(some 21), (some (20, false)), .fad 3 (.t 1), [12]⟩, ⟨(some 22), (some (20, false)), .load 1 false (.t 21), [13, 12]⟩, ⟨(some 23), (some (20, false)), .bin false .neq (.t 22) (.c (.int .i64 (-1))), [14, 12]⟩, ⟨(some 24), (some (20, false)), .mv (.t 23), [15, 12, 12]⟩, ⟨(some 25), (some (24, true)), .fad 3 (.t 1), [16]⟩, ⟨(some 26), (some (24, true)), .load 1
    false (.t 25), [17, 16]⟩, ⟨(some 27), (some (24, true)), .bin false .lss (.t 26) (.c (.int .i64 1)), [18, 16]⟩, ⟨(some 28), (some (24, true)), .mv (.t 27), [19, 16, 16]⟩, ⟨(some 29), (some (28, false)), .fad 3 (.t 1), [20]⟩, ⟨(some 30), (some (28, false)), .load 1 false (.t 29), [21, 20]⟩, ⟨(some 31), (some (28, false)), .bin false .gtr (.t 30) (.c (.int .i64 8)), [22, 20]⟩, ⟨(some 32), (some
    (24, true)), .pick (.t 28) (.c (.bool true)) (.t 31), [20, 23, 16]⟩, ⟨(some 33), (some (24, true)), .mv (.t 32), [24, 20, 16]⟩, ⟨(some 34), (some (33, false)), .fad 3 (.t 1), [25]⟩, ⟨(some 35), (some (33, false)), .load 1 false (.t 34), [26, 25]⟩, ⟨(some 36), (some (33, false)), .fad 2 (.t 1), [25]⟩, ⟨(some 37), (some (33, false)), .load 1 false (.t 36), [28, 25]⟩, ⟨(some 38), (some (33,
    false)), .bin false .lss (.t 35) (.t 37), [27, 29, 25]⟩, ⟨(some 39), (some (24, true)), .pick (.t 33) (.c (.bool true)) (.t 38), [25, 30, 16]⟩, ⟨(some 40), (some (20, false)), .pick (.t 24) (.t 39) (.c (.bool false)), [16, 31, 12]⟩, ⟨(some 41), (some (11, true)), .pick (.t 20) (.c (.bool true)) (.t 40), [12, 32, 3]⟩, ⟨(some 42), none, .pick (.t 11) (.t 41) (.c (.bool false)), [3, 33]⟩]
@[reducible] def R35_4 : List XO := [⟨(some 2), none, .mv (.c (.int .i64 2)), []⟩]
@[reducible] def R35_5 : List XO := [⟨(some 3), none, .mv (.c (.int .i64 0)), []⟩]
@[reducible] def R35_6 : List XO := [⟨(some 43), none, .mv (.t 3), []⟩, ⟨(some 44), none, .fad 4 (.t 1), []⟩, ⟨(some 45), none, .load 1 false (.t 44), [1]⟩, ⟨(some 46), none, .len false (.t 45), [2]⟩, ⟨(some 47), none, .bin false .lss (.t 43) (.t 46), [0, 3]⟩]
@[reducible] def R35_7 : List XO := [⟨(some 50), none, .fad 4 (.t 1), []⟩, ⟨(some 51), none, .load 1 false (.t 50), [0]⟩, ⟨(some 52), none, .mv (.t 3), []⟩, ⟨(some 53), none, .iaS 5 (.t 51) (.t 52), [1, 2]⟩, ⟨(some 54), none, .load 5 true (.t 53), [3]⟩, ⟨(some 55), none, .call 35 [(.t 54)], [4]⟩, ⟨(some 4), none, .mv (.t 55), [5, 5, 0, 1, 2, 3, 4, 5]⟩]
@[reducible] def R35_8 : List XO := [⟨(some 56), none, .mv (.t 4), []⟩, ⟨(some 57), none, .bin false .neq (.t 56) (.c (.int .i64 0)), [0]⟩]
@[reducible] def R35_9 : List XO := [⟨(some 58), none, .mv (.t 4), []⟩, ⟨(some 2), none, .mv (.t 58), [0, 0]⟩]
@[reducible] def R35_10 : List XO := [⟨(some 48), none, .mv (.t 3), []⟩, ⟨(some 49), none, .bin false .add (.t 48) (.c (.int .i64 1)), [0]⟩, ⟨(some 3), none, .mv (.t 49), [1, 0, 1]⟩]
@[reducible] def L35_0 : XC := (.seq (.seq (.reg false [] R35_6) (.cond (.t 47) .skip (.exit 0))) (.seq (.blk 1 (.seq (.reg false [] R35_7) (.seq (.reg false [] R35_8) (.cond (.t 57) (.seq (.reg false [] R35_9) .ret) .skip)))) (.reg false [] R35_10)))
@[reducible] def R35_11 : List XO := [⟨(some 2), none, .mv (.c (.int .i64 0)), []⟩]
@[reducible] def F35 : XF := ⟨59, (.seq (.reg false [] R35_0) (.seq (.seq (.reg false [] R35_1) (.cond (.t 7) (.seq (.reg false [] R35_2) .ret) .skip)) (.seq (.seq (.reg false [] R35_3) (.cond (.t 42) (.seq (.reg false [] R35_4) .ret) .skip)) (.seq (.seq (.reg false [] R35_5) (.blk 0 (.loop L35_0))) (.seq (.reg false [] R35_11) .ret))))), [(2, none)]⟩
/-- codesearch/codesearchref08.Size -/
@[reducible] def R36_0 : List XO := [⟨(some 1), none, .box 5 (.t 0), []⟩, ⟨(some 2), none, .mv (.c (.int .i64 0)), []⟩]
@[reducible] def R36_1 : List XO := [⟨(some 3), none, .mv (.c (.int .i64 1)), []⟩]
@[reducible] def R36_2 : List XO := [⟨(some 4), none, .mv (.c (.int .i64 0)), []⟩]
@[reducible] def R36_3 : List XO := [⟨(some 5), none, .mv (.t 4), []⟩, ⟨(some 6), none, .fad 4 (.t 1), []⟩, ⟨(some 7), none, .load 1 false (.t 6), [1]⟩, ⟨(some 8), none, .len false (.t 7), [2]⟩, ⟨(some 9), none, .bin false .lss (.t 5) (.t 8), [0, 3]⟩]
@[reducible] def R36_4 : List XO := [⟨(some 12), none, .mv (.t 3), []⟩, ⟨(some 13), none, .fad 4 (.t 1), []⟩, ⟨(some 14), none, .load 1 false (.t 13), [1]⟩, ⟨(some 15), none, .mv (.t 4), []⟩, ⟨(some 16), none, .iaS 5 (.t 14) (.t 15), [2, 3]⟩, ⟨(some 17), none, .load 5 true (.t 16), [4]⟩, ⟨(some 18), none, .call 36 [(.t 17)], [5]⟩, ⟨(some 19), none, .bin false .add (.t 12) (.t 18), [0, 6]⟩, ⟨(some
    3), none, .mv (.t 19), [7, 6, 0, 1, 2, 3, 4, 5, 6, 7]⟩]
@[reducible] def R36_5 : List XO := [⟨(some 10), none, .mv (.t 4), []⟩, ⟨(some 11), none, .bin false .add (.t 10) (.c (.int .i64 1)), [0]⟩, ⟨(some 4), none, .mv (.t 11), [1, 0, 1]⟩]
@[reducible] def L36_0 : XC := (.seq (.seq (.reg false [] R36_3) (.cond (.t 9) .skip (.exit 0))) (.seq (.blk 1 (.reg false [] R36_4)) (.reg false [] R36_5)))
@[reducible] def R36_6 : List XO := [⟨(some 20), none, .mv (.t 3), []⟩, ⟨(some 2), none, .mv (.t 20), [0, 0]⟩]
@[reducible] def F36 : XF := ⟨21, (.seq (.reg false [] R36_0) (.seq (.reg false [] R36_1) (.seq (.seq (.reg false [] R36_2) (.blk 0 (.loop L36_0))) (.seq (.reg false [] R36_6) .ret)))), [(2, none)]⟩
/-- codesearch/codesearchref08.Depth -/
@[reducible] def R37_0 : List XO := [⟨(some 1), none, .box 5 (.t 0), []⟩, ⟨(some 2), none, .mv (.c (.int .i64 0)), []⟩]
@[reducible] def R37_1 : List XO := [⟨(some 3), none, .mv (.c (.int .i64 0)), []⟩]
@[reducible] def R37_2 : List XO := [⟨(some 4), none, .mv (.c (.int .i64 0)), []⟩]
@[reducible] def R37_3 : List XO := [⟨(some 6), none, .mv (.t 4), []⟩, ⟨(some 7), none, .fad 4 (.t 1), []⟩, ⟨(some 8), none, .load 1 false (.t 7), [1]⟩, ⟨(some 9), none, .len false (.t 8), [2]⟩, ⟨(some 10), none, .bin false .lss (.t 6) (.t 9), [0, 3]⟩]
@[reducible] def R37_4 : List XO := [⟨(some 13), none, .fad 4 (.t 1), []⟩, ⟨(some 14), none, .load 1 false (.t 13), [0]⟩, ⟨(some 15), none, .mv (.t 4), []⟩, ⟨(some 16), none, .iaS 5 (.t 14) (.t 15), [1, 2]⟩, ⟨(some 17), none, .load 5 true (.t 16), [3]⟩, ⟨(some 18), none, .call 37 [(.t 17)], [4]⟩, ⟨(some 5), none, .mv (.t 18), [5, 5, 0, 1, 2, 3, 4, 5]⟩]
@[reducible] def R37_5 : List XO := [⟨(some 19), none, .mv (.t 5), []⟩, ⟨(some 20), none, .mv (.t 3), []⟩, ⟨(some 21), none, .bin false .gtr (.t 19) (.t 20), [0, 1]⟩]
@[reducible] def R37_6 : List XO := [⟨(some 22), none, .mv (.t 5), []⟩, ⟨(some 3), none, .mv (.t 22), [0, 0]⟩]
@[reducible] def R37_7 : List XO := [⟨(some 11), none, .mv (.t 4), []⟩, ⟨(some 12), none, .bin false .add (.t 11) (.c (.int .i64 1)), [0]⟩, ⟨(some 4), none, .mv (.t 12), [1, 0, 1]⟩]
@[reducible] def L37_0 : XC := (.seq (.seq (.reg false [] R37_3) (.cond (.t 10) .skip (.exit 0))) (.seq (.blk 1 (.seq (.reg false [] R37_4) (.seq (.reg false [] R37_5) (.cond (.t 21) (.reg false [] R37_6) .skip)))) (.reg false [] R37_7)))
@[reducible] def R37_8 : List XO := [⟨(some 23), none, .mv (.t 3), []⟩, ⟨(some 24), none, .bin false .add (.t 23) (.c (.int .i64 1)), [0]⟩, ⟨(some 2), none, .mv (.t 24), [1, 0, 1]⟩]
@[reducible] def F37 : XF := ⟨25, (.seq (.reg false [] R37_0) (.seq (.reg false [] R37_1) (.seq (.seq (.reg false [] R37_2) (.blk 0 (.loop L37_0))) (.seq (.reg false [] R37_8) .ret)))), [(2, none)]⟩
/-- codesearch/regex.node -/
@[reducible] def R38_0 : List XO := [⟨(some 1), none, .box 5 (.t 0), []⟩, ⟨(some 2), none, .mv (.c (.int .i64 0)), []⟩]
@[reducible] def R38_1 : List XO := [⟨(some 11), none, .fad 0 (.t 1), []⟩, ⟨(some 12), none, .load 1 false (.t 11), [0]⟩, ⟨(some 13), none, .bin false .eql (.t 12) (.c (.int .i64 1)), [1]⟩, ⟨(some 14), none, .fad 0 (.t 1), []⟩, ⟨(some 15), none, .load 1 false (.t 14), [3]⟩, ⟨(some 16), none, .bin false .eql (.t 15) (.c (.int .i64 4)), [4]⟩, ⟨(some 3), none, .mv (.t 13), [2, 0, 1, 2]⟩, ⟨(some 4),
    none, .mv (.t 16), [5, 6, 0, 1, 2, 3, 4, 5, 6]⟩]
@[reducible] def R38_2 : List XO := [⟨(some 17), none, .mv (.t 4), []⟩, ⟨(some 18), none, .mv (.t 17), [0]⟩, ⟨(some 19), (some (18, false)), .fad 0 (.t 1), [1]⟩, ⟨(some 20), (some (18, false)), .load 1 false (.t 19), [2, 1]⟩, ⟨(some 21), (some (18, false)), .bin false .eql (.t 20) (.c (.int .i64 2)), [3, 1]⟩, ⟨(some 22), none, .pick (.t 18) (.c (.bool true)) (.t 21), [1, 4]⟩, ⟨(some 23), none, .mv
    (.t 22), [5, 1]⟩, ⟨(some 24), (some (23, false)), .fad 0 (.t 1), [6]⟩, ⟨(some 25), (some (23, false)), .load 1 false (.t 24), [7, 6]⟩, ⟨(some 26), (some (23, false)), .bin false .eql (.t 25) (.c (.int .i64 3)), [8, 6]⟩, ⟨(some 27), none, .pick (.t 23) (.c (.bool true)) (.t 26), [6, 9]⟩, ⟨(some 5), none, .mv (.t 27), [10, 6, 0, 1, 2, 3, 4, 5, 6, 7, 8, 9, 10]⟩]
@[reducible] def R38_3 : List XO := [⟨(some 29), none, .fad 0 (.t 1), []⟩, ⟨(some 30), none, .load 1 false (.t 29), [0]⟩, ⟨(some 31), none, .bin false .lss (.t 30) (.c (.int .i64 1)), [1]⟩, ⟨(some 32), none, .mv (.t 31), [2]⟩, ⟨(some 33), (some (32, false)), .fad 0 (.t 1), [3]⟩, ⟨(some 34), (some (32, false)), .load 1 false (.t 33), [4, 3]⟩, ⟨(some 35), (some (32, false)), .bin false .gtr (.t 34)
    (.c (.int .i64 7)), [5, 3]⟩, ⟨(some 36), none, .pick (.t 32) (.c (.bool true)) (.t 35), [3, 6]⟩, ⟨(some 28), none, .mv (.t 36), [7, 3]⟩]
@[reducible] def R38_4 : List XO := [⟨(some 37), none, .mv (.t 3), []⟩, ⟨(some 38), none, .fad 1 (.t 1), []⟩, ⟨(some 39), none, .load 1 false (.t 38), [1]⟩, ⟨(some 40), none, .len false (.t 39), [2]⟩, ⟨(some 41), none, .bin false .eql (.t 40) (.c (.int .i64 0)), [3]⟩, ⟨(some 42), none, .bin true .eql (.t 37) (.t 41), [0, 4]⟩, ⟨(some 28), none, .mv (.t 42), [5]⟩]
@[reducible] def R38_5 : List XO := [⟨(some 43), none, .mv (.t 4), []⟩, ⟨(some 44), none, .mv (.t 43), [0]⟩, ⟨(some 45), (some (44, true)), .fad 4 (.t 1), [1]⟩, ⟨(some 46), (some (44, true)), .load 1 false (.t 45), [2, 1]⟩, ⟨(some 47), (some (44, true)), .len false (.t 46), [3, 1]⟩, ⟨(some 48), (some (44, true)), .bin false .neq (.t 47) (.c (.int .i64 1)), [4, 1]⟩, ⟨(some 49), none, .pick (.t 44)
    (.t 48) (.c (.bool false)), [1, 5]⟩, ⟨(some 28), none, .mv (.t 49), [6, 1]⟩]
@[reducible] def R38_6 : List XO := [⟨(some 50), none, .fad 0 (.t 1), []⟩, ⟨(some 51), none, .load 1 false (.t 50), [0]⟩, ⟨(some 52), none, .bin false .eql (.t 51) (.c (.int .i64 3)), [1]⟩, ⟨(some 53), none, .mv (.t 52), [2]⟩, ⟨(some 54), (some (53, true)), .fad 4 (.t 1), [3]⟩, ⟨(some 55), (some (53, true)), .load 1 false (.t 54), [4, 3]⟩, ⟨(some 56), (some (53, true)), .len false (.t 55), [5, 3]⟩,
    ⟨(some 57), (some (53, true)), .bin false .lss (.t 56) (.c (.int .i64 2)), [6, 3]⟩, ⟨(some 58), none, .pick (.t 53) (.t 57) (.c (.bool false)), [3, 7]⟩, ⟨(some 28), none, .mv (.t 58), [8, 3]⟩]
@[reducible] def R38_7 : List XO := [⟨(some 59), none, .mv (.t 5), []⟩, ⟨(some 60), none, .un .not (.t 59), [0]⟩, ⟨(some 61), none, .mv (.t 60), [1]⟩, ⟨(some 62), (some (61, true)), .fad 4 (.t 1), [2]⟩, ⟨(some 63), (some (61, true)), .load 1 false (.t 62), [3, 2]⟩, ⟨(some 64), (some (61, true)), .len false (.t 63), [4, 2]⟩, ⟨(some 65), (some (61, true)), .bin false .gtr (.t 64) (.c (.int .i64 0)),
    [5, 2]⟩, ⟨(some 66), none, .pick (.t 61) (.t 65) (.c (.bool false)), [2, 6]⟩, ⟨(some 28), none, .mv (.t 66), [7, 2]⟩]
@[reducible] def R38_8 : List XO := [⟨(some 67), none, .mv (.t 4), []⟩, ⟨(some 68), none, .un .not (.t 67), [0]⟩, ⟨(some 69), none, .mv (.t 68), [1]⟩, ⟨(some 70), (some (69, true)), .fad 2 (.t 1), [2]⟩, ⟨(some 71), (some (69, true)), .load 1 false (.t 70), [3, 2]⟩, ⟨(some 72), (some (69, true)), .bin false .neq (.t 71) (.c (.int .i64 0)), [4, 2]⟩, ⟨(some 73), (some (69, true)), .mv (.t 72), [5, 2,
    2]⟩, ⟨(some 74), (some (73, false)), .fad 3 (.t 1), [6]⟩, ⟨(some 75), (some (73, false)), .load 1 false (.t 74), [7, 6]⟩, ⟨(some 76), (some (73, false)), .bin false .neq (.t 75) (.c (.int .i64 0)), [8, 6]⟩, ⟨(some 77), (some (69, true)), .pick (.t 73) (.c (.bool true)) (.t 76), [6, 9, 2]⟩, ⟨(some 78), none, .pick (.t 69) (.t 77) (.c (.bool false)), [2, 10]⟩, ⟨(some 28), none, .mv (.t 78), [11,
    6]⟩]
@[reducible] def R38_9 : List XO := [⟨(some 2), none, .mv (.c (.int .i64 1)), []⟩]
@[reducible] def R38_10 : List XO := [⟨(some 79), none, .fad 1 (.t 1), []⟩, ⟨(some 80), none, .load 1 false (.t 79), [0]⟩, ⟨(some 81), none, .len false (.t 80), [1]⟩, ⟨(some 82), none, .mv (.c (.int .i64 0)), []⟩]
@[reducible] def R38_11 : List XO := [⟨(some 83), none, .bin false .lss (.t 82) (.t 81), []⟩]
@[reducible] def R38_12 : List XO := [⟨(some 84), none, .iaS 2 (.t 80) (.t 82), []⟩, ⟨(some 85), none, .load 2 true (.t 84), [0]⟩, ⟨(some 7), none, .alloc [(.int .u8 0), (.int .u8 0)], []⟩, ⟨none, none, .store 2 (.t 7) (.t 85), [2, 1, 0, 1, 2]⟩]
@[reducible] def R38_13 : List XO := [⟨(some 86), none, .fad 1 (.t 7), []⟩, ⟨(some 87), none, .load 1 false (.t 86), [0]⟩, ⟨(some 88), none, .fad 0 (.t 7), []⟩, ⟨(some 89), none, .load 1 false (.t 88), [2]⟩, ⟨(some 90), none, .bin false .lss (.t 87) (.t 89), [1, 3]⟩]
@[reducible] def R38_14 : List XO := [⟨(some 2), none, .mv (.c (.int .i64 1)), []⟩]
@[reducible] def R38_15 : List XO := [⟨(some 91), none, .bin false .add (.t 82) (.c (.int .i64 1)), []⟩, ⟨(some 82), none, .mv (.t 91), [0]⟩]
@[reducible] def L38_0 : XC := (.seq (.reg false [] R38_11) (.seq (.cond (.t 83) .skip (.exit 1)) (.seq (.blk 2 (.seq (.reg false [] R38_12) (.seq (.reg false [] R38_13) (.cond (.t 90) (.seq (.reg false [] R38_14) .ret) .skip)))) (.reg false [] R38_15))))
@[reducible] def R38_16 : List XO := [⟨(some 92), none, .mv (.t 4), []⟩, ⟨(some 93), none, .mv (.t 92), [0]⟩, ⟨(some 94), (some (93, true)), .fad 2 (.t 1), [1]⟩, ⟨(some 95), (some (93, true)), .load 1 false (.t 94), [2, 1]⟩, ⟨(some 96), (some (93, true)), .bin false .lss (.t 95) (.c (.int .i64 0)), [3, 1]⟩, ⟨(some 97), (some (93, true)), .mv (.t 96), [4, 1, 1]⟩, ⟨(some 98), (some (97, false)), .fad
    2 (.t 1), [5]⟩, ⟨(some 99), (some (97, false)), .load 1 false (.t 98), [6, 5]⟩, ⟨(some 100), (some (97, false)), .bin false .gtr (.t 99) (.c (.int .i64 8)), [7, 5]⟩, ⟨(some 101), (some (93, true)), .pick (.t 97) (.c (.bool true)) (.t 100), [5, 8, 1]⟩, ⟨(some 102), (some (93, true)), .mv (.t 101), [9, 5, 1]⟩, ⟨(some 103), (some (102, false)), .fad 3 (.t 1), [10]⟩, ⟨(some 104), (some (102,
    false)), .load 1 false (.t 103), [11, 10]⟩, ⟨(some 105), (some (102, false)), .bin false .neq (.t 104) (.c (.int .i64 (-1))), [12, 10]⟩, ⟨(some 106), (some (102, false)), .mv (.t 105), [13, 10, 10]⟩, ⟨(some 107), (some (106, true)), .fad 3 (.t 1), [14]⟩, ⟨(some 108), (some (106, true)), .load 1 false (.t 107), [15, 14]⟩, ⟨(some 109), (some (106, true)), .bin false .lss (.t 108) (.c (.int .i64
    1)), [16, 14]⟩, ⟨(some 110), (some (106, true)), .mv (.t 109), [17, 14, 14]⟩, ⟨(some 111), (some (110, false)), .fad 3 (.t 1), [18]⟩, ⟨(some 112), (some (110, false)), .load 1 false (.t 111), [19, 18]⟩, ⟨(some 113), (some (110, false)), .bin false .gtr (.t 112) (.c (.int .i64 8)), [20, 18]⟩, ⟨(some 114), (some (106, true)), .pick (.t 110) (.c (.bool true)) (.t 113), [18, 21, 14]⟩, ⟨(some 115),
    (some (106, true)), .mv (.t 114), [22, 18, 14]⟩, ⟨(some 116), (some (115, false)), .fad 3 (.t 1), [23]⟩, ⟨(some 117), (some (115, false)), .load 1 false (.t 116), [24, 23]⟩, ⟨(some 118), (some (115, false)), .fad 2 (.t 1), [23]⟩, ⟨(some 119), (some (115, false)), .load 1 false (.t 118), [26, 23]⟩, ⟨(some 120), (some (115, false)), .bin false .lss (.t 117) (.t 119), [25, 27, 23]⟩, ⟨(some 121),
    (some (106, true)), .pick (.t 115) (.c (.bool true)) (.t 120), [23, 28, 14]⟩, ⟨(some 122), (some (102, false)), .pick (.t 106) (.t 121) (.c (.bool false)), [14, 29, 10]⟩, ⟨(some 123), (some (93, true)), .pick (.t 102) (.c (.bool true)) (.t 122), [10, 30, 1]⟩, ⟨(some 124), none, .pick (.t 93) (.t 123) (.c (.bool false)), [1, 31]⟩]
@[reducible] def R38_17 : List XO := [⟨(some 2), none, .mv (.c (.int .i64 2)), []⟩]
@[reducible] def R38_18 : List XO := [⟨(some 125), none, .fad 4 (.t 1), []⟩, ⟨(some 126), none, .load 1 false (.t 125), [0]⟩, ⟨(some 127), none, .len false (.t 126), [1]⟩, ⟨(some 128), none, .mv (.c (.int .i64 0)), []⟩]
@[reducible] def R38_19 : List XO := [⟨(some 129), none, .bin false .lss (.t 128) (.t 127), []⟩]
@[reducible] def R38_20 : List XO := [⟨(some 130), none, .iaS 5 (.t 126) (.t 128), []⟩, ⟨(some 131), none, .load 5 true (.t 130), [0]⟩, ⟨(some 9), none, .alloc [(.int .i64 0), .nls, (.int .i64 0), (.int .i64 0), .nls], []⟩, ⟨none, none, .store 5 (.t 9) (.t 131), [2, 1, 0, 1, 2]⟩]
@[reducible] def R38_21 : List XO := [⟨(some 132), none, .load 5 true (.t 9), []⟩, ⟨(some 133), none, .call 38 [(.t 132)], [0]⟩, ⟨(some 10), none, .mv (.t 133), [1, 1, 0, 1]⟩]
@[reducible] def R38_22 : List XO := [⟨(some 134), none, .mv (.t 10), []⟩, ⟨(some 135), none, .bin false .neq (.t 134) (.c (.int .i64 0)), [0]⟩]
@[reducible] def R38_23 : List XO := [⟨(some 136), none, .mv (.t 10), []⟩, ⟨(some 2), none, .mv (.t 136), [0, 0]⟩]
@[reducible] def R38_24 : List XO := [⟨(some 137), none, .bin false .add (.t 128) (.c (.int .i64 1)), []⟩, ⟨(some 128), none, .mv (.t 137), [0]⟩]
@[reducible] def L38_1 : XC := (.seq (.reg false [] R38_19) (.seq (.cond (.t 129) .skip (.exit 3)) (.seq (.blk 4 (.seq (.reg false [] R38_20) (.seq (.reg false [] R38_21) (.seq (.reg false [] R38_22) (.cond (.t 135) (.seq (.reg false [] R38_23) .ret) .skip))))) (.reg false [] R38_24))))
@[reducible] def R38_25 : List XO := [⟨(some 2), none, .mv (.c (.int .i64 0)), []⟩]
@[reducible] def F38 : XF := ⟨138, (.seq (.reg false [] R38_0) (.seq (.reg true [] R38_1) (.seq (.reg false [] R38_2) (.seq (.blk 0 (.seq (.seq (.reg false [] R38_3) (.cond (.t 28) .skip (.seq (.reg false [] R38_4) (.cond (.t 28) .skip (.seq (.reg false [] R38_5) (.cond (.t 28) .skip (.seq (.reg false [] R38_6) (.cond (.t 28) .skip (.seq (.reg false [] R38_7) (.cond (.t 28) .skip (.reg false []
    R38_8))))))))))) (.cond (.t 28) (.seq (.reg false [] R38_9) .ret) .skip))) (.seq (.seq (.reg false [] R38_10) (.blk 1 (.loop L38_0))) (.seq (.seq (.reg false [] R38_16) (.cond (.t 124) (.seq (.reg false [] R38_17) .ret) .skip)) (.seq (.seq (.reg false [] R38_18) (.blk 3 (.loop L38_1))) (.seq (.reg false [] R38_25) .ret)))))))), [(2, none)]⟩
/-- codesearch/regex.size -/
@[reducible] def R39_0 : List XO := [⟨(some 1), none, .box 5 (.t 0), []⟩, ⟨(some 2), none, .mv (.c (.int .i64 0)), []⟩, ⟨(some 3), none, .mv (.c (.int .i64 0)), [1]⟩]
@[reducible] def R39_1 : List XO := [⟨(some 4), none, .mv (.c (.int .i64 1)), []⟩, ⟨(some 5), none, .mv (.c (.int .i64 0)), [0, 0]⟩]
@[reducible] def R39_2 : List XO := [⟨(some 10), none, .fad 4 (.t 1), []⟩, ⟨(some 11), none, .load 1 false (.t 10), [0]⟩, ⟨(some 12), none, .len false (.t 11), [1]⟩, ⟨(some 13), none, .mv (.c (.int .i64 0)), []⟩]
@[reducible] def R39_3 : List XO := [⟨(some 14), none, .bin false .lss (.t 13) (.t 12), []⟩]
@[reducible] def R39_4 : List XO := [⟨(some 15), none, .iaS 5 (.t 11) (.t 13), []⟩, ⟨(some 16), none, .load 5 true (.t 15), [0]⟩, ⟨(some 7), none, .alloc [(.int .i64 0), .nls, (.int .i64 0), (.int .i64 0), .nls], []⟩, ⟨none, none, .store 5 (.t 7) (.t 16), [2, 1, 0, 1, 2]⟩]
@[reducible] def R39_5 : List XO := [⟨(some 18), none, .load 5 true (.t 7), []⟩, ⟨(some 19), none, .call 39 [(.t 18)], [0]⟩, ⟨(some 17), none, .mv (.t 19), [1]⟩, ⟨(some 20), none, .ext (.t 17) 0, [2]⟩, ⟨(some 21), none, .ext (.t 17) 1, [2]⟩, ⟨(some 8), none, .mv (.t 20), [3, 1, 0, 1, 2, 3]⟩, ⟨(some 9), none, .mv (.t 21), [4, 5, 0, 1, 2, 3, 4, 5]⟩]
@[reducible] def R39_6 : List XO := [⟨(some 22), none, .mv (.t 4), []⟩, ⟨(some 23), none, .mv (.t 8), []⟩, ⟨(some 24), none, .bin false .add (.t 22) (.t 23), [0, 1]⟩, ⟨(some 25), none, .mv (.t 5), []⟩, ⟨(some 26), none, .mv (.t 9), []⟩, ⟨(some 27), none, .mm true (.t 25) (.t 26), [3, 4]⟩, ⟨(some 4), none, .mv (.t 24), [2, 0, 1, 2]⟩, ⟨(some 5), none, .mv (.t 27), [5, 6, 0, 1, 2, 3, 4, 5, 6]⟩]
@[reducible] def R39_7 : List XO := [⟨(some 28), none, .bin false .add (.t 13) (.c (.int .i64 1)), []⟩, ⟨(some 13), none, .mv (.t 28), [0]⟩]
@[reducible] def L39_0 : XC := (.seq (.reg false [] R39_3) (.seq (.cond (.t 14) .skip (.exit 0)) (.seq (.blk 1 (.seq (.reg false [] R39_4) (.seq (.reg false [] R39_5) (.reg false [] R39_6)))) (.reg false [] R39_7))))
@[reducible] def R39_8 : List XO := [⟨(some 29), none, .mv (.t 4), []⟩, ⟨(some 30), none, .mv (.t 5), []⟩, ⟨(some 31), none, .bin false .add (.t 30) (.c (.int .i64 1)), [1]⟩, ⟨(some 2), none, .mv (.t 29), [0, 0]⟩, ⟨(some 3), none, .mv (.t 31), [2, 3, 0, 1, 2, 3]⟩]
@[reducible] def F39 : XF := ⟨32, (.seq (.reg false [] R39_0) (.seq (.reg false [] R39_1) (.seq (.seq (.reg false [] R39_2) (.blk 0 (.loop L39_0))) (.seq (.reg false [] R39_8) .ret)))), [(2, none), (3, none)]⟩
/-- codesearch/regexec.one -/
@[reducible] def R40_0 : List XO := [⟨(some 3), none, .box 1 (.t 1), []⟩, ⟨(some 4), none, .mv (.c .nlf), []⟩]
@[reducible] def R40_1 : List XO := [⟨(some 5), none, .alloc [(.bool false), (.bool false), (.bool false), (.bool false), (.bool false), (.bool false), (.bool false), (.bool false), (.bool false), (.bool false), (.bool false), (.bool false), (.bool false), (.bool false), (.bool false), (.bool false), (.bool false), (.bool false), (.bool false), (.bool false), (.bool false), (.bool false), (.bool
    false), (.bool false), (.bool false), (.bool false), (.bool false), (.bool false), (.bool false), (.bool false), (.bool false), (.bool false), (.bool false), (.bool false), (.bool false), (.bool false), (.bool false), (.bool false), (.bool false), (.bool false), (.bool false), (.bool false), (.bool false), (.bool false), (.bool false), (.bool false), (.bool false), (.bool false), (.bool false),
    (.bool false), (.bool false), (.bool false), (.bool false), (.bool false), (.bool false), (.bool false), (.bool false), (.bool false), (.bool false), (.bool false), (.bool false), (.bool false), (.bool false), (.bool false), (.bool false), (.bool false), (.bool false), (.bool false), (.bool false), (.bool false), (.bool false), (.bool false), (.bool false), (.bool false), (.bool false), (.bool
    false), (.bool false), (.bool false), (.bool false), (.bool false), (.bool false), (.bool false), (.bool false), (.bool false), (.bool false), (.bool false), (.bool false), (.bool false), (.bool false), (.bool false), (.bool false), (.bool false), (.bool false), (.bool false), (.bool false), (.bool false), (.bool false), (.bool false), (.bool false), (.bool false), (.bool false), (.bool false),
    (.bool false), (.bool false), (.bool false), (.bool false), (.bool false), (.bool false), (.bool false), (.bool false), (.bool false), (.bool false), (.bool false), (.bool false), (.bool false), (.bool false), (.bool false), (.bool false), (.bool false), (.bool false), (.bool false), (.bool false), (.bool false), (.bool false), (.bool false), (.bool false), (.bool false), (.bool false), (.bool
    false), (.bool false), (.bool false), (.bool false), (.bool false), (.bool false), (.bool false), (.bool false), (.bool false), (.bool false), (.bool false), (.bool false), (.bool false), (.bool false), (.bool false), (.bool false), (.bool false), (.bool false), (.bool false), (.bool false), (.bool false), (.bool false), (.bool false), (.bool false), (.bool false), (.bool false), (.bool false),
    (.bool false), (.bool false), (.bool false), (.bool false), (.bool false), (.bool false), (.bool false), (.bool false), (.bool false), (.bool false), (.bool false), (.bool false), (.bool false), (.bool false), (.bool false), (.bool false), (.bool false), (.bool false), (.bool false), (.bool false), (.bool false), (.bool false), (.bool false), (.bool false), (.bool false), (.bool false), (.bool
    false), (.bool false), (.bool false), (.bool false), (.bool false), (.bool false), (.bool false), (.bool false), (.bool false), (.bool false), (.bool false), (.bool false), (.bool false), (.bool false), (.bool false), (.bool false), (.bool false), (.bool false), (.bool false), (.bool false), (.bool false), (.bool false), (.bool false), (.bool false), (.bool false), (.bool false), (.bool false),
    (.bool false), (.bool false), (.bool false), (.bool false), (.bool false), (.bool false), (.bool false), (.bool false), (.bool false), (.bool false), (.bool false), (.bool false), (.bool false), (.bool false), (.bool false), (.bool false), (.bool false), (.bool false), (.bool false), (.bool false), (.bool false), (.bool false), (.bool false), (.bool false), (.bool false), (.bool false), (.bool
    false), (.bool false), (.bool false), (.bool false), (.bool false), (.bool false), (.bool false), (.bool false), (.bool false), (.bool false), (.bool false), (.bool false), (.bool false), (.bool false), (.bool false), (.bool false), (.bool false), (.bool false), (.bool false), (.bool false), (.bool false), (.bool false)], []⟩]
@[reducible] def R40_2 : List XO := [⟨(some 7), none, .mv (.c (.int .i64 0)), []⟩]
@[reducible] def R40_3 : List XO := [⟨(some 8), none, .bin false .lss (.t 7) (.c (.int .i64 256)), []⟩]
@[reducible] def R40_4 : List XO := [⟨(some 9), none, .mv (.t 7), []⟩, ⟨(some 6), none, .mv (.t 9), [0, 0]⟩]
@[reducible] def R40_5 : List XO := [⟨(some 10), none, .mv (.t 6), []⟩, ⟨(some 11), none, .mv (.t 0), []⟩, ⟨(some 12), none, .mv (.t 6), []⟩, ⟨(some 13), none, .cvi .u8 (.t 12), [2]⟩, ⟨(some 14), none, .call 55 [(.t 11), (.t 13)], [1, 3]⟩, ⟨(some 15), none, .iaA 256 1 (.t 5) (.t 10), [0, 0, 1, 2, 3, 4]⟩, ⟨none, none, .store 1 (.t 15) (.t 14), [5, 4, 4, 0, 1, 2, 3, 4]⟩]
@[reducible] def R40_6 : List XO := [⟨(some 16), none, .bin false .add (.t 7) (.c (.int .i64 1)), []⟩, ⟨(some 7), none, .mv (.t 16), [0]⟩]
@[reducible] def L40_0 : XC := (.seq (.reg false [] R40_3) (.seq (.cond (.t 8) .skip (.exit 0)) (.seq (.blk 1 (.seq (.reg false [] R40_4) (.reg false [] R40_5))) (.reg false [] R40_6))))
@[reducible] def R40_7 : List XO := [⟨(some 17), none, .mkfn 56 [(.t 3), (.t 5)], []⟩, ⟨(some 4), none, .mv (.t 17), [0, 0]⟩]
@[reducible] def F40 : XF := ⟨18, (.seq (.reg false [] R40_0) (.seq (.reg false [] R40_1) (.seq (.seq (.reg false [] R40_2) (.blk 0 (.loop L40_0))) (.seq (.reg false [] R40_7) .ret)))), [(4, none)]⟩
/-- codesearch/regexec.compile$1 -/
@[reducible] def R41_0 : List XO := [⟨(some 3), none, .mv (.c .nls), []⟩]
@[reducible] def R41_1 : List XO := [⟨(some 5), none, .load 1 false (.t 1), []⟩, ⟨(some 6), none, .len false (.t 5), [0]⟩, ⟨(some 7), none, .mv (.c (.int .i64 0)), []⟩]
@[reducible] def R41_2 : List XO := [⟨(some 8), none, .bin false .lss (.t 7) (.t 6), []⟩]
@[reducible] def R41_3 : List XO := [⟨(some 9), none, .mv (.t 7), []⟩, ⟨(some 4), none, .mv (.t 9), [0, 0]⟩]
@[reducible] def R41_4 : List XO := [⟨(some 10), none, .load 1 false (.t 1), []⟩, ⟨(some 11), none, .mv (.t 4), []⟩, ⟨(some 12), none, .iaS 1 (.t 10) (.t 11), [0, 1]⟩, ⟨(some 13), none, .load 1 false (.t 12), [2]⟩, ⟨(some 14), none, .mv (.t 0), []⟩, ⟨(some 15), none, .callv (.t 13) [(.t 14)], [3, 4]⟩, ⟨(some 0), none, .mv (.t 15), [5, 5, 0, 1, 2, 3, 4, 5]⟩]
@[reducible] def R41_5 : List XO := [⟨(some 16), none, .bin false .add (.t 7) (.c (.int .i64 1)), []⟩, ⟨(some 7), none, .mv (.t 16), [0]⟩]
@[reducible] def L41_0 : XC := (.seq (.reg false [] R41_2) (.seq (.cond (.t 8) .skip (.exit 0)) (.seq (.blk 1 (.seq (.reg false [] R41_3) (.reg false [] R41_4))) (.reg false [] R41_5))))
@[reducible] def R41_6 : List XO := [⟨(some 17), none, .mv (.t 0), []⟩, ⟨(some 3), none, .mv (.t 17), [0, 0]⟩]
@[reducible] def F41 : XF := ⟨18, (.seq (.reg false [] R41_0) (.seq (.seq (.reg false [] R41_1) (.blk 0 (.loop L41_0))) (.seq (.reg false [] R41_6) .ret))), [(3, none)]⟩
/-- codesearch/regexec.compile$2 -/
@[reducible] def R42_0 : List XO := [⟨(some 3), none, .mv (.c .nls), []⟩]
@[reducible] def R42_1 : List XO := [⟨(some 6), none, .mv (.t 0), []⟩, ⟨(some 7), none, .len false (.t 6), [0]⟩, ⟨(some 8), none, .mks 4 1 1 [(.bool false)] (.t 7) (.t 7), [1, 1]⟩, ⟨(some 4), none, .mv (.t 8), [2, 0, 1, 2]⟩]
@[reducible] def R42_2 : List XO := [⟨(some 9), none, .load 1 false (.t 1), []⟩, ⟨(some 10), none, .len false (.t 9), [0]⟩, ⟨(some 11), none, .mv (.c (.int .i64 0)), []⟩]
@[reducible] def R42_3 : List XO := [⟨(some 12), none, .bin false .lss (.t 11) (.t 10), []⟩]
@[reducible] def R42_4 : List XO := [⟨(some 13), none, .mv (.t 11), []⟩, ⟨(some 5), none, .mv (.t 13), [0, 0]⟩]
@[reducible] def R42_5 : List XO := [⟨(some 14), none, .mv (.t 4), []⟩, ⟨(some 15), none, .load 1 false (.t 1), []⟩, ⟨(some 16), none, .mv (.t 5), []⟩, ⟨(some 17), none, .iaS 1 (.t 15) (.t 16), [1, 2]⟩, ⟨(some 18), none, .load 1 false (.t 17), [3]⟩, ⟨(some 19), none, .mv (.t 0), []⟩, ⟨(some 20), none, .callv (.t 18) [(.t 19)], [4, 5]⟩, ⟨(some 21), none, .call 43 [(.t 14), (.t 20)], [0, 6, 6]⟩,
    ⟨(some 4), none, .mv (.t 21), [7, 7, 0, 1, 2, 3, 4, 5, 6, 7]⟩]
@[reducible] def R42_6 : List XO := [⟨(some 22), none, .bin false .add (.t 11) (.c (.int .i64 1)), []⟩, ⟨(some 11), none, .mv (.t 22), [0]⟩]
@[reducible] def L42_0 : XC := (.seq (.reg false [] R42_3) (.seq (.cond (.t 12) .skip (.exit 0)) (.seq (.blk 1 (.seq (.reg false [] R42_4) (.reg false [] R42_5))) (.reg false [] R42_6))))
@[reducible] def R42_7 : List XO := [⟨(some 23), none, .mv (.t 4), []⟩, ⟨(some 3), none, .mv (.t 23), [0, 0]⟩]
@[reducible] def F42 : XF := ⟨24, (.seq (.reg false [] R42_0) (.seq (.reg false [] R42_1) (.seq (.seq (.reg false [] R42_2) (.blk 0 (.loop L42_0))) (.seq (.reg false [] R42_7) .ret)))), [(3, none)]⟩
/-- (codesearch/regexec.set).or -/
@[reducible] def R43_0 : List XO := [⟨(some 4), none, .mv (.c .nls), []⟩]
@[reducible] def R43_1 : List XO := [⟨(some 7), none, .mv (.t 0), []⟩, ⟨(some 8), none, .len false (.t 7), [0]⟩, ⟨(some 9), none, .mks 4 1 1 [(.bool false)] (.t 8) (.t 8), [1, 1]⟩, ⟨(some 5), none, .mv (.t 9), [2, 0, 1, 2]⟩]
@[reducible] def R43_2 : List XO := [⟨(some 10), none, .mv (.t 0), []⟩, ⟨(some 11), none, .len false (.t 10), [0]⟩, ⟨(some 12), none, .mv (.c (.int .i64 0)), []⟩]
@[reducible] def R43_3 : List XO := [⟨(some 13), none, .bin false .lss (.t 12) (.t 11), []⟩]
@[reducible] def R43_4 : List XO := [⟨(some 14), none, .mv (.t 12), []⟩, ⟨(some 6), none, .mv (.t 14), [0, 0]⟩]
@[reducible] def R43_5 : List XO := [⟨(some 15), none, .mv (.t 5), []⟩, ⟨(some 16), none, .mv (.t 6), []⟩, ⟨(some 17), none, .mv (.t 0), []⟩, ⟨(some 18), none, .mv (.t 6), []⟩, ⟨(some 19), none, .iaS 1 (.t 17) (.t 18), [2, 3]⟩, ⟨(some 20), none, .load 1 false (.t 19), [4]⟩, ⟨(some 21), none, .mv (.t 20), [5]⟩, ⟨(some 22), (some (21, false)), .mv (.t 1), [6]⟩, ⟨(some 23), (some (21, false)), .mv (.t
    6), [6]⟩, ⟨(some 24), (some (21, false)), .iaS 1 (.t 22) (.t 23), [7, 8, 6]⟩, ⟨(some 25), (some (21, false)), .load 1 false (.t 24), [9, 6]⟩, ⟨(some 26), none, .pick (.t 21) (.c (.bool true)) (.t 25), [6, 10]⟩, ⟨(some 27), none, .iaS 1 (.t 15) (.t 16), [0, 1, 0, 1, 2, 3, 4, 5, 6, 7, 8, 9, 10, 11]⟩, ⟨none, none, .store 1 (.t 27) (.t 26), [12, 11, 6, 0, 1, 2, 3, 4, 5, 6, 7, 8, 9, 10, 11]⟩]
@[reducible] def R43_6 : List XO := [⟨(some 28), none, .bin false .add (.t 12) (.c (.int .i64 1)), []⟩, ⟨(some 12), none, .mv (.t 28), [0]⟩]
@[reducible] def L43_0 : XC := (.seq (.reg false [] R43_3) (.seq (.cond (.t 13) .skip (.exit 0)) (.seq (.blk 1 (.seq (.reg false [] R43_4) (.reg false [] R43_5))) (.reg false [] R43_6))))
@[reducible] def R43_7 : List XO := [⟨(some 29), none, .mv (.t 5), []⟩, ⟨(some 4), none, .mv (.t 29), [0, 0]⟩]
@[reducible] def F43 : XF := ⟨30, (.seq (.reg false [] R43_0) (.seq (.reg false [] R43_1) (.seq (.seq (.reg false [] R43_2) (.blk 0 (.loop L43_0))) (.seq (.reg false [] R43_7) .ret)))), [(4, none)]⟩
/-- codesearch/regexec.times -/
@[reducible] def R44_0 : List XO := [⟨(some 3), none, .box 1 (.t 0), []⟩, ⟨(some 4), none, .box 1 (.t 1), []⟩, ⟨(some 5), none, .box 1 (.t 2), []⟩, ⟨(some 6), none, .mv (.c .nlf), []⟩]
@[reducible] def R44_1 : List XO := [⟨(some 7), none, .mkfn 57 [(.t 4), (.t 5), (.t 3)], []⟩, ⟨(some 6), none, .mv (.t 7), [0, 0]⟩]
@[reducible] def F44 : XF := ⟨8, (.seq (.reg false [] R44_0) (.seq (.reg false [] R44_1) .ret)), [(6, none)]⟩
/-- codesearch/regexec.where -/
@[reducible] def R45_0 : List XO := [⟨(some 1), none, .box 1 (.t 0), []⟩, ⟨(some 2), none, .mv (.c .nlf), []⟩]
@[reducible] def R45_1 : List XO := [⟨(some 3), none, .mkfn 59 [(.t 1)], []⟩, ⟨(some 2), none, .mv (.t 3), [0, 0]⟩]
@[reducible] def F45 : XF := ⟨4, (.seq (.reg false [] R45_0) (.seq (.reg false [] R45_1) .ret)), [(2, none)]⟩
/-- codesearch/regexec.compile$3 -/
@[reducible] def R46_0 : List XO := [⟨(some 3), none, .mv (.c (.bool false)), []⟩]
@[reducible] def R46_1 : List XO := [⟨(some 4), none, .mv (.t 0), []⟩, ⟨(some 5), none, .bin false .eql (.t 4) (.c (.int .i64 0)), [0]⟩, ⟨(some 6), none, .mv (.t 5), [1]⟩, ⟨(some 7), (some (6, false)), .load 1 false (.t 1), [2]⟩, ⟨(some 8), (some (6, false)), .mv (.t 0), [2]⟩, ⟨(some 9), (some (6, false)), .bin false .sub (.t 8) (.c (.int .i64 1)), [4, 2]⟩, ⟨(some 10), (some (6, false)), .ixS (.t
    7) (.t 9), [3, 5, 2]⟩, ⟨(some 11), (some (6, false)), .bin false .eql (.t 10) (.c (.int .u8 10)), [6, 2]⟩, ⟨(some 12), none, .pick (.t 6) (.c (.bool true)) (.t 11), [2, 7]⟩, ⟨(some 3), none, .mv (.t 12), [8, 2, 0, 1, 2, 3, 4, 5, 6, 7, 8]⟩]
@[reducible] def F46 : XF := ⟨13, (.seq (.reg false [] R46_0) (.seq (.reg false [] R46_1) .ret)), [(3, none)]⟩
/-- codesearch/regexec.compile$4 -/
@[reducible] def R47_0 : List XO := [⟨(some 3), none, .mv (.c (.bool false)), []⟩]
@[reducible] def R47_1 : List XO := [⟨(some 4), none, .mv (.t 0), []⟩, ⟨(some 5), none, .load 1 false (.t 1), []⟩, ⟨(some 6), none, .len true (.t 5), [1]⟩, ⟨(some 7), none, .bin false .eql (.t 4) (.t 6), [0, 2]⟩, ⟨(some 8), none, .mv (.t 7), [3]⟩, ⟨(some 9), (some (8, false)), .load 1 false (.t 1), [4]⟩, ⟨(some 10), (some (8, false)), .mv (.t 0), [4]⟩, ⟨(some 11), (some (8, false)), .ixS (.t 9) (.t
    10), [5, 6, 4]⟩, ⟨(some 12), (some (8, false)), .bin false .eql (.t 11) (.c (.int .u8 10)), [7, 4]⟩, ⟨(some 13), none, .pick (.t 8) (.c (.bool true)) (.t 12), [4, 8]⟩, ⟨(some 3), none, .mv (.t 13), [9, 4, 0, 1, 2, 3, 4, 5, 6, 7, 8, 9]⟩]
@[reducible] def F47 : XF := ⟨14, (.seq (.reg false [] R47_0) (.seq (.reg false [] R47_1) .ret)), [(3, none)]⟩
/-- codesearch/regexec.compile$5 -/
@[reducible] def R48_0 : List XO := [⟨(some 3), none, .mv (.c (.bool false)), []⟩]
@[reducible] def R48_1 : List XO := [⟨(some 4), none, .load 1 false (.t 1), []⟩, ⟨(some 5), none, .mv (.t 0), []⟩, ⟨(some 6), none, .bin false .sub (.t 5) (.c (.int .i64 1)), [1]⟩, ⟨(some 7), none, .call 49 [(.t 4), (.t 6)], [0, 2]⟩, ⟨(some 8), none, .load 1 false (.t 1), []⟩, ⟨(some 9), none, .mv (.t 0), []⟩, ⟨(some 10), none, .call 49 [(.t 8), (.t 9)], [4, 5, 3]⟩, ⟨(some 11), none, .bin true .neq
    (.t 7) (.t 10), [3, 6]⟩, ⟨(some 3), none, .mv (.t 11), [7, 6, 0, 1, 2, 3, 4, 5, 6, 7]⟩]
@[reducible] def F48 : XF := ⟨12, (.seq (.reg false [] R48_0) (.seq (.reg true [] R48_1) .ret)), [(3, none)]⟩
/-- codesearch/regexec.word -/
@[reducible] def R49_0 : List XO := [⟨(some 4), none, .mv (.c (.bool false)), []⟩]
@[reducible] def R49_1 : List XO := [⟨(some 6), none, .mv (.t 1), []⟩, ⟨(some 7), none, .bin false .lss (.t 6) (.c (.int .i64 0)), [0]⟩, ⟨(some 8), none, .mv (.t 7), [1]⟩, ⟨(some 9), (some (8, false)), .mv (.t 1), [2]⟩, ⟨(some 10), (some (8, false)), .mv (.t 0), [2]⟩, ⟨(some 11), (some (8, false)), .len true (.t 10), [4, 2]⟩, ⟨(some 12), (some (8, false)), .bin false .geq (.t 9) (.t 11), [3, 5,
    2]⟩, ⟨(some 13), none, .pick (.t 8) (.c (.bool true)) (.t 12), [2, 6]⟩]
@[reducible] def R49_2 : List XO := [⟨(some 4), none, .mv (.c (.bool false)), []⟩]
@[reducible] def R49_3 : List XO := [⟨(some 14), none, .mv (.t 0), []⟩, ⟨(some 15), none, .mv (.t 1), []⟩, ⟨(some 16), none, .ixS (.t 14) (.t 15), [0, 1]⟩, ⟨(some 5), none, .mv (.t 16), [2, 0, 1, 2]⟩]
@[reducible] def R49_4 : List XO := [⟨(some 17), none, .mv (.t 5), []⟩, ⟨(some 18), none, .bin false .eql (.t 17) (.c (.int .u8 95)), [0]⟩, ⟨(some 19), none, .mv (.t 18), [1]⟩, ⟨(some 20), (some (19, false)), .mv (.t 5), [2]⟩, ⟨(some 21), (some (19, false)), .bin false .geq (.t 20) (.c (.int .u8 48)), [3, 2]⟩, ⟨(some 22), (some (19, false)), .mv (.t 21), [4, 2, 2]⟩, ⟨(some 23), (some (22, true)),
    .mv (.t 5), [5]⟩, ⟨(some 24), (some (22, true)), .bin false .leq (.t 23) (.c (.int .u8 57)), [6, 5]⟩, ⟨(some 25), (some (19, false)), .pick (.t 22) (.t 24) (.c (.bool false)), [5, 7, 2]⟩, ⟨(some 26), none, .pick (.t 19) (.c (.bool true)) (.t 25), [2, 8]⟩, ⟨(some 27), none, .mv (.t 26), [9, 5]⟩, ⟨(some 28), (some (27, false)), .mv (.t 5), [10]⟩, ⟨(some 29), (some (27, false)), .bin false .geq
    (.t 28) (.c (.int .u8 97)), [11, 10]⟩, ⟨(some 30), (some (27, false)), .mv (.t 29), [12, 10, 10]⟩, ⟨(some 31), (some (30, true)), .mv (.t 5), [13]⟩, ⟨(some 32), (some (30, true)), .bin false .leq (.t 31) (.c (.int .u8 122)), [14, 13]⟩, ⟨(some 33), (some (27, false)), .pick (.t 30) (.t 32) (.c (.bool false)), [13, 15, 10]⟩, ⟨(some 34), none, .pick (.t 27) (.c (.bool true)) (.t 33), [10, 16]⟩,
    ⟨(some 35), none, .mv (.t 34), [17, 13]⟩, ⟨(some 36), (some (35, false)), .mv (.t 5), [18]⟩, ⟨(some 37), (some (35, false)), .bin false .geq (.t 36) (.c (.int .u8 65)), [19, 18]⟩, ⟨(some 38), (some (35, false)), .mv (.t 37), [20, 18, 18]⟩, ⟨(some 39), (some (38, true)), .mv (.t 5), [21]⟩, ⟨(some 40), (some (38, true)), .bin false .leq (.t 39) (.c (.int .u8 90)), [22, 21]⟩, ⟨(some 41), (some
    (35, false)), .pick (.t 38) (.t 40) (.c (.bool false)), [21, 23, 18]⟩, ⟨(some 42), none, .pick (.t 35) (.c (.bool true)) (.t 41), [18, 24]⟩, ⟨(some 4), none, .mv (.t 42), [25, 21, 0, 1, 2, 3, 4, 5, 6, 7, 8, 9, 10, 11, 12, 13, 14, 15, 16, 17, 18, 19, 20, 21, 22, 23, 24, 25]⟩]
@[reducible] def F49 : XF := ⟨43, (.seq (.reg false [] R49_0) (.seq (.seq (.reg false [] R49_1) (.cond (.t 13) (.seq (.reg false [] R49_2) .ret) .skip)) (.seq (.reg false [] R49_3) (.seq (.reg false [] R49_4) .ret)))), [(4, none)]⟩
/-- codesearch/codesearchref09.both -/
@[reducible] def R50_0 : List XO := [⟨(some 4), none, .mv (.c .nls), []⟩]
@[reducible] def R50_1 : List XO := [⟨(some 5), none, .mv (.c .nls), []⟩]
@[reducible] def R50_2 : List XO := [⟨(some 6), none, .mv (.c (.int .i64 0)), []⟩]
@[reducible] def R50_3 : List XO := [⟨(some 7), none, .mv (.t 6), []⟩, ⟨(some 8), none, .mv (.t 0), []⟩, ⟨(some 9), none, .len false (.t 8), [1]⟩, ⟨(some 10), none, .bin false .lss (.t 7) (.t 9), [0, 2]⟩]
@[reducible] def R50_4 : List XO := [⟨(some 13), none, .mv (.t 5), []⟩, ⟨(some 14), none, .mv (.t 0), []⟩, ⟨(some 15), none, .mv (.t 6), []⟩, ⟨(some 16), none, .iaS 1 (.t 14) (.t 15), [1, 2]⟩, ⟨(some 17), none, .load 1 false (.t 16), [3]⟩, ⟨(some 18), none, .mv (.t 17), [4]⟩, ⟨(some 19), (some (18, false)), .mv (.t 1), [5]⟩, ⟨(some 20), (some (18, false)), .mv (.t 6), [5]⟩, ⟨(some 21), (some (18,
    false)), .iaS 1 (.t 19) (.t 20), [6, 7, 5]⟩, ⟨(some 22), (some (18, false)), .load 1 false (.t 21), [8, 5]⟩, ⟨(some 23), none, .pick (.t 18) (.c (.bool true)) (.t 22), [5, 9]⟩, ⟨(some 24), none, .bsl 4 1 [(.bool false)] 1 [(0, (.t 23))], [10]⟩, ⟨(some 25), none, .app 4 1 1 (.t 13) (.t 24), [0, 11, 5]⟩, ⟨(some 5), none, .mv (.t 25), [12, 12, 0, 1, 2, 3, 4, 5, 6, 7, 8, 9, 10, 11, 12]⟩]
@[reducible] def R50_5 : List XO := [⟨(some 11), none, .mv (.t 6), []⟩, ⟨(some 12), none, .bin false .add (.t 11) (.c (.int .i64 1)), [0]⟩, ⟨(some 6), none, .mv (.t 12), [1, 0, 1]⟩]
@[reducible] def L50_0 : XC := (.seq (.seq (.reg false [] R50_3) (.cond (.t 10) .skip (.exit 0))) (.seq (.blk 1 (.reg false [] R50_4)) (.reg false [] R50_5)))
@[reducible] def R50_6 : List XO := [⟨(some 26), none, .mv (.t 5), []⟩, ⟨(some 4), none, .mv (.t 26), [0, 0]⟩]
@[reducible] def F50 : XF := ⟨27, (.seq (.reg false [] R50_0) (.seq (.reg false [] R50_1) (.seq (.seq (.reg false [] R50_2) (.blk 0 (.loop L50_0))) (.seq (.reg false [] R50_6) .ret)))), [(4, none)]⟩
/-- codesearch/codesearchref09.repeat -/
@[reducible] def R51_0 : List XO := [⟨(some 3), none, .box 5 (.t 0), []⟩, ⟨(some 6), none, .mv (.c .nls), []⟩]
@[reducible] def R51_1 : List XO := [⟨(some 15), none, .mv (.t 2), []⟩, ⟨(some 7), none, .mv (.t 15), [0, 0]⟩]
@[reducible] def R51_2 : List XO := [⟨(some 8), none, .mv (.c (.int .i64 0)), []⟩]
@[reducible] def R51_3 : List XO := [⟨(some 16), none, .mv (.t 8), []⟩, ⟨(some 17), none, .fad 2 (.t 3), []⟩, ⟨(some 18), none, .load 1 false (.t 17), [1]⟩, ⟨(some 19), none, .bin false .lss (.t 16) (.t 18), [0, 2]⟩]
@[reducible] def R51_4 : List XO := [⟨(some 22), none, .fad 4 (.t 3), []⟩, ⟨(some 23), none, .load 1 false (.t 22), [0]⟩, ⟨(some 24), none, .iaS 5 (.t 23) (.c (.int .i64 0)), [1]⟩, ⟨(some 25), none, .load 5 true (.t 24), [2]⟩, ⟨(some 26), none, .mv (.t 1), []⟩, ⟨(some 27), none, .mv (.t 7), []⟩, ⟨(some 28), none, .call 31 [(.t 25), (.t 26), (.t 27)], [3, 4, 5]⟩, ⟨(some 9), none, .mv (.t 28), [6, 6,
    0, 1, 2, 3, 4, 5, 6]⟩]
@[reducible] def R51_5 : List XO := [⟨(some 29), none, .mv (.t 9), []⟩, ⟨(some 30), none, .mv (.t 7), []⟩, ⟨(some 31), none, .call 60 [(.t 29), (.t 30)], [0, 1]⟩]
@[reducible] def R51_6 : List XO := [⟨(some 32), none, .mv (.t 9), []⟩, ⟨(some 7), none, .mv (.t 32), [0, 0]⟩]
@[reducible] def R51_7 : List XO := [⟨(some 20), none, .mv (.t 8), []⟩, ⟨(some 21), none, .bin false .add (.t 20) (.c (.int .i64 1)), [0]⟩, ⟨(some 8), none, .mv (.t 21), [1, 0, 1]⟩]
@[reducible] def L51_0 : XC := (.seq (.seq (.reg false [] R51_3) (.cond (.t 19) .skip (.exit 0))) (.seq (.blk 1 (.seq (.reg false [] R51_4) (.seq (.seq (.reg false [] R51_5) (.cond (.t 31) (.exit 0) .skip)) (.reg false [] R51_6)))) (.reg false [] R51_7)))
@[reducible] def R51_8 : List XO := [⟨(some 33), none, .mv (.t 7), []⟩, ⟨(some 34), none, .mv (.t 7), []⟩, ⟨(some 10), none, .mv (.t 33), [0, 0]⟩, ⟨(some 11), none, .mv (.c (.bool true)), [2, 0, 2]⟩, ⟨(some 12), none, .mv (.t 34), [1, 3, 0, 1, 2, 3]⟩]
@[reducible] def R51_9 : List XO := [⟨(some 35), none, .fad 2 (.t 3), []⟩, ⟨(some 36), none, .load 1 false (.t 35), [0]⟩, ⟨(some 13), none, .mv (.t 36), [1, 0, 1]⟩]
@[reducible] def R51_10 : List XO := [⟨(some 37), none, .mv (.t 11), []⟩, ⟨(some 38), none, .mv (.t 37), [0]⟩, ⟨(some 39), (some (38, true)), .fad 3 (.t 3), [1]⟩, ⟨(some 40), (some (38, true)), .load 1 false (.t 39), [2, 1]⟩, ⟨(some 41), (some (38, true)), .bin false .lss (.t 40) (.c (.int .i64 0)), [3, 1]⟩, ⟨(some 42), (some (38, true)), .mv (.t 41), [4, 1, 1]⟩, ⟨(some 43), (some (42, false)), .mv
    (.t 13), [5]⟩, ⟨(some 44), (some (42, false)), .fad 3 (.t 3), [5]⟩, ⟨(some 45), (some (42, false)), .load 1 false (.t 44), [7, 5]⟩, ⟨(some 46), (some (42, false)), .bin false .lss (.t 43) (.t 45), [6, 8, 5]⟩, ⟨(some 47), (some (38, true)), .pick (.t 42) (.c (.bool true)) (.t 46), [5, 9, 1]⟩, ⟨(some 48), none, .pick (.t 38) (.t 47) (.c (.bool false)), [1, 10]⟩]
@[reducible] def R51_11 : List XO := [⟨(some 51), none, .fad 4 (.t 3), []⟩, ⟨(some 52), none, .load 1 false (.t 51), [0]⟩, ⟨(some 53), none, .iaS 5 (.t 52) (.c (.int .i64 0)), [1]⟩, ⟨(some 54), none, .load 5 true (.t 53), [2]⟩, ⟨(some 55), none, .mv (.t 1), []⟩, ⟨(some 56), none, .mv (.t 12), []⟩, ⟨(some 57), none, .call 31 [(.t 54), (.t 55), (.t 56)], [3, 4, 5]⟩, ⟨(some 14), none, .mv (.t 57), [6,
    6, 0, 1, 2, 3, 4, 5, 6]⟩]
@[reducible] def R51_12 : List XO := [⟨(some 59), none, .mv (.t 14), []⟩, ⟨(some 60), none, .mv (.t 10), []⟩, ⟨(some 61), none, .call 34 [(.t 59), (.t 60)], [0, 1]⟩, ⟨(some 58), none, .mv (.t 61), [2]⟩, ⟨(some 62), none, .ext (.t 58) 0, [3]⟩, ⟨(some 63), none, .ext (.t 58) 1, [3]⟩, ⟨(some 12), none, .mv (.t 62), [4, 2, 0, 1, 2, 3, 4]⟩, ⟨(some 11), none, .mv (.t 63), [5, 6, 0, 1, 2, 3, 4, 5, 6]⟩]
@[reducible] def R51_13 : List XO := [⟨(some 64), none, .mv (.t 10), []⟩, ⟨(some 65), none, .mv (.t 14), []⟩, ⟨(some 66), none, .call 50 [(.t 64), (.t 65)], [0, 1]⟩, ⟨(some 10), none, .mv (.t 66), [2, 2, 0, 1, 2]⟩]
@[reducible] def R51_14 : List XO := [⟨(some 49), none, .mv (.t 13), []⟩, ⟨(some 50), none, .bin false .add (.t 49) (.c (.int .i64 1)), [0]⟩, ⟨(some 13), none, .mv (.t 50), [1, 0, 1]⟩]
@[reducible] def L51_1 : XC := (.seq (.seq (.reg false [] R51_10) (.cond (.t 48) .skip (.exit 2))) (.seq (.blk 3 (.seq (.reg false [] R51_11) (.seq (.reg false [] R51_12) (.reg false [] R51_13)))) (.reg false [] R51_14)))
@[reducible] def R51_15 : List XO := [⟨(some 67), none, .mv (.t 10), []⟩, ⟨(some 6), none, .mv (.t 67), [0, 0]⟩]
@[reducible] def F51 : XF := ⟨68, (.seq (.reg false [] R51_0) (.seq (.reg false [] R51_1) (.seq (.seq (.reg false [] R51_2) (.blk 0 (.loop L51_0))) (.seq (.reg false [] R51_8) (.seq (.seq (.reg false [] R51_9) (.blk 2 (.loop L51_1))) (.seq (.reg false [] R51_15) .ret)))))), [(6, none)]⟩
/-- codesearch/codesearchref08.Has -/
@[reducible] def R52_0 : List XO := [⟨(some 4), none, .mv (.c (.bool false)), []⟩]
@[reducible] def R52_1 : List XO := [⟨(some 5), none, .mv (.c (.int .i64 0)), []⟩]
@[reducible] def R52_2 : List XO := [⟨(some 6), none, .mv (.t 5), []⟩, ⟨(some 7), none, .mv (.t 0), []⟩, ⟨(some 8), none, .len false (.t 7), [1]⟩, ⟨(some 9), none, .bin false .lss (.t 6) (.t 8), [0, 2]⟩]
@[reducible] def R52_3 : List XO := [⟨(some 12), none, .mv (.t 0), []⟩, ⟨(some 13), none, .mv (.t 5), []⟩, ⟨(some 14), none, .iaS 2 (.t 12) (.t 13), [0, 1]⟩, ⟨(some 15), none, .fad 0 (.t 14), [2]⟩, ⟨(some 16), none, .load 1 false (.t 15), [3]⟩, ⟨(some 17), none, .mv (.t 1), []⟩, ⟨(some 18), none, .bin false .leq (.t 16) (.t 17), [4, 5]⟩, ⟨(some 19), none, .mv (.t 18), [6]⟩, ⟨(some 20), (some (19,
    true)), .mv (.t 1), [7]⟩, ⟨(some 21), (some (19, true)), .mv (.t 0), [7]⟩, ⟨(some 22), (some (19, true)), .mv (.t 5), [7]⟩, ⟨(some 23), (some (19, true)), .iaS 2 (.t 21) (.t 22), [9, 10, 7]⟩, ⟨(some 24), (some (19, true)), .fad 1 (.t 23), [11, 7]⟩, ⟨(some 25), (some (19, true)), .load 1 false (.t 24), [12, 7]⟩, ⟨(some 26), (some (19, true)), .bin false .leq (.t 20) (.t 25), [8, 13, 7]⟩, ⟨(some
    27), none, .pick (.t 19) (.t 26) (.c (.bool false)), [7, 14]⟩]
@[reducible] def R52_4 : List XO := [⟨(some 4), none, .mv (.c (.bool true)), []⟩]
@[reducible] def R52_5 : List XO := [⟨(some 10), none, .mv (.t 5), []⟩, ⟨(some 11), none, .bin false .add (.t 10) (.c (.int .i64 1)), [0]⟩, ⟨(some 5), none, .mv (.t 11), [1, 0, 1]⟩]
@[reducible] def L52_0 : XC := (.seq (.seq (.reg false [] R52_2) (.cond (.t 9) .skip (.exit 0))) (.seq (.blk 1 (.seq (.reg false [] R52_3) (.cond (.t 27) (.seq (.reg false [] R52_4) .ret) .skip))) (.reg false [] R52_5)))
@[reducible] def R52_6 : List XO := [⟨(some 4), none, .mv (.c (.bool false)), []⟩]
@[reducible] def F52 : XF := ⟨28, (.seq (.reg false [] R52_0) (.seq (.seq (.reg false [] R52_1) (.blk 0 (.loop L52_0))) (.seq (.reg false [] R52_6) .ret))), [(4, none)]⟩
/-- codesearch/codesearchref09.stands -/
@[reducible] def R53_0 : List XO := [⟨(some 6), none, .mv (.c (.bool false)), []⟩]
@[reducible] def R53_1 : List XO := [⟨(some 7), none, .mv (.t 0), []⟩, ⟨(some 8), none, .bin false .eql (.t 7) (.c (.int .i64 5)), [0]⟩]
@[reducible] def R53_2 : List XO := [⟨(some 9), none, .mv (.t 2), []⟩, ⟨(some 10), none, .bin false .eql (.t 9) (.c (.int .i64 0)), [0]⟩, ⟨(some 11), none, .mv (.t 10), [1]⟩, ⟨(some 12), (some (11, false)), .mv (.t 1), [2]⟩, ⟨(some 13), (some (11, false)), .mv (.t 2), [2]⟩, ⟨(some 14), (some (11, false)), .bin false .sub (.t 13) (.c (.int .i64 1)), [4, 2]⟩, ⟨(some 15), (some (11, false)), .ixS (.t
    12) (.t 14), [3, 5, 2]⟩, ⟨(some 16), (some (11, false)), .bin false .eql (.t 15) (.c (.int .u8 10)), [6, 2]⟩, ⟨(some 17), none, .pick (.t 11) (.c (.bool true)) (.t 16), [2, 7]⟩, ⟨(some 6), none, .mv (.t 17), [8, 2, 0, 1, 2, 3, 4, 5, 6, 7, 8]⟩]
@[reducible] def R53_3 : List XO := [⟨(some 18), none, .mv (.t 0), []⟩, ⟨(some 19), none, .bin false .eql (.t 18) (.c (.int .i64 6)), [0]⟩]
@[reducible] def R53_4 : List XO := [⟨(some 20), none, .mv (.t 2), []⟩, ⟨(some 21), none, .mv (.t 1), []⟩, ⟨(some 22), none, .len true (.t 21), [1]⟩, ⟨(some 23), none, .bin false .eql (.t 20) (.t 22), [0, 2]⟩, ⟨(some 24), none, .mv (.t 23), [3]⟩, ⟨(some 25), (some (24, false)), .mv (.t 1), [4]⟩, ⟨(some 26), (some (24, false)), .mv (.t 2), [4]⟩, ⟨(some 27), (some (24, false)), .ixS (.t 25) (.t 26),
    [5, 6, 4]⟩, ⟨(some 28), (some (24, false)), .bin false .eql (.t 27) (.c (.int .u8 10)), [7, 4]⟩, ⟨(some 29), none, .pick (.t 24) (.c (.bool true)) (.t 28), [4, 8]⟩, ⟨(some 6), none, .mv (.t 29), [9, 4, 0, 1, 2, 3, 4, 5, 6, 7, 8, 9]⟩]
@[reducible] def R53_5 : List XO := [⟨(some 30), none, .mv (.t 1), []⟩, ⟨(some 31), none, .mv (.t 2), []⟩, ⟨(some 32), none, .bin false .sub (.t 31) (.c (.int .i64 1)), [1]⟩, ⟨(some 33), none, .call 61 [(.t 30), (.t 32)], [0, 2]⟩, ⟨(some 34), none, .mv (.t 1), []⟩, ⟨(some 35), none, .mv (.t 2), []⟩, ⟨(some 36), none, .call 61 [(.t 34), (.t 35)], [4, 5, 3]⟩, ⟨(some 37), none, .bin true .neq (.t 33)
    (.t 36), [3, 6]⟩, ⟨(some 6), none, .mv (.t 37), [7, 6, 0, 1, 2, 3, 4, 5, 6, 7]⟩]
@[reducible] def F53 : XF := ⟨38, (.seq (.reg false [] R53_0) (.seq (.seq (.reg false [] R53_1) (.cond (.t 8) (.seq (.reg false [] R53_2) .ret) .skip)) (.seq (.seq (.reg false [] R53_3) (.cond (.t 19) (.seq (.reg false [] R53_4) .ret) .skip)) (.seq (.reg false [] R53_5) .ret)))), [(6, none)]⟩
/-- codesearch/codesearchref08.fields -/
@[reducible] def R54_0 : List XO := [⟨(some 1), none, .box 5 (.t 0), []⟩, ⟨(some 2), none, .mv (.c (.bool false)), []⟩]
@[reducible] def R54_1 : List XO := [⟨(some 4), none, .fad 0 (.t 1), []⟩, ⟨(some 5), none, .load 1 false (.t 4), [0]⟩, ⟨(some 6), none, .bin false .lss (.t 5) (.c (.int .i64 1)), [1]⟩, ⟨(some 7), none, .mv (.t 6), [2]⟩, ⟨(some 8), (some (7, false)), .fad 0 (.t 1), [3]⟩, ⟨(some 9), (some (7, false)), .load 1 false (.t 8), [4, 3]⟩, ⟨(some 10), (some (7, false)), .bin false .gtr (.t 9) (.c (.int .i64
    7)), [5, 3]⟩, ⟨(some 11), none, .pick (.t 7) (.c (.bool true)) (.t 10), [3, 6]⟩]
@[reducible] def R54_2 : List XO := [⟨(some 2), none, .mv (.c (.bool false)), []⟩]
@[reducible] def R54_3 : List XO := [⟨(some 12), none, .fad 0 (.t 1), []⟩, ⟨(some 13), none, .load 1 false (.t 12), [0]⟩, ⟨(some 14), none, .bin false .eql (.t 13) (.c (.int .i64 1)), [1]⟩, ⟨(some 15), none, .fad 1 (.t 1), []⟩, ⟨(some 16), none, .load 1 false (.t 15), [3]⟩, ⟨(some 17), none, .len false (.t 16), [4]⟩, ⟨(some 18), none, .bin false .gtr (.t 17) (.c (.int .i64 0)), [5]⟩, ⟨(some 19),
    none, .bin true .neq (.t 14) (.t 18), [2, 6]⟩]
@[reducible] def R54_4 : List XO := [⟨(some 2), none, .mv (.c (.bool false)), []⟩]
@[reducible] def R54_5 : List XO := [⟨(some 3), none, .mv (.c (.int .i64 0)), []⟩]
@[reducible] def R54_6 : List XO := [⟨(some 20), none, .mv (.t 3), []⟩, ⟨(some 21), none, .fad 1 (.t 1), []⟩, ⟨(some 22), none, .load 1 false (.t 21), [1]⟩, ⟨(some 23), none, .len false (.t 22), [2]⟩, ⟨(some 24), none, .bin false .lss (.t 20) (.t 23), [0, 3]⟩]
@[reducible] def R54_7 : List XO := [⟨(some 27), none, .fad 1 (.t 1), []⟩, ⟨(some 28), none, .load 1 false (.t 27), [0]⟩, ⟨(some 29), none, .mv (.t 3), []⟩, ⟨(some 30), none, .iaS 2 (.t 28) (.t 29), [1, 2]⟩, ⟨(some 31), none, .fad 1 (.t 30), [3]⟩, ⟨(some 32), none, .load 1 false (.t 31), [4]⟩, ⟨(some 33), none, .fad 1 (.t 1), []⟩, ⟨(some 34), none, .load 1 false (.t 33), [6]⟩, ⟨(some 35), none, .mv
    (.t 3), []⟩, ⟨(some 36), none, .iaS 2 (.t 34) (.t 35), [7, 8]⟩, ⟨(some 37), none, .fad 0 (.t 36), [9]⟩, ⟨(some 38), none, .load 1 false (.t 37), [10]⟩, ⟨(some 39), none, .bin false .lss (.t 32) (.t 38), [5, 11]⟩]
@[reducible] def R54_8 : List XO := [⟨(some 2), none, .mv (.c (.bool false)), []⟩]
@[reducible] def R54_9 : List XO := [⟨(some 25), none, .mv (.t 3), []⟩, ⟨(some 26), none, .bin false .add (.t 25) (.c (.int .i64 1)), [0]⟩, ⟨(some 3), none, .mv (.t 26), [1, 0, 1]⟩]
@[reducible] def L54_0 : XC := (.seq (.seq (.reg false [] R54_6) (.cond (.t 24) .skip (.exit 0))) (.seq (.blk 1 (.seq (.reg true [] R54_7) (.cond (.t 39) (.seq (.reg false [] R54_8) .ret) .skip))) (.reg false [] R54_9)))
@[reducible] def R54_10 : List XO := [⟨(some 40), none, .fad 0 (.t 1), []⟩, ⟨(some 41), none, .load 1 false (.t 40), [0]⟩, ⟨(some 42), none, .bin false .neq (.t 41) (.c (.int .i64 4)), [1]⟩, ⟨(some 43), none, .mv (.t 42), [2]⟩, ⟨(some 44), (some (43, true)), .fad 2 (.t 1), [3]⟩, ⟨(some 45), (some (43, true)), .load 1 false (.t 44), [4, 3]⟩, ⟨(some 46), (some (43, true)), .bin false .neq (.t 45) (.c
    (.int .i64 0)), [5, 3]⟩, ⟨(some 47), (some (43, true)), .mv (.t 46), [6, 3, 3]⟩, ⟨(some 48), (some (47, false)), .fad 3 (.t 1), [7]⟩, ⟨(some 49), (some (47, false)), .load 1 false (.t 48), [8, 7]⟩, ⟨(some 50), (some (47, false)), .bin false .neq (.t 49) (.c (.int .i64 0)), [9, 7]⟩, ⟨(some 51), (some (43, true)), .pick (.t 47) (.c (.bool true)) (.t 50), [7, 10, 3]⟩, ⟨(some 52), none, .pick (.t
    43) (.t 51) (.c (.bool false)), [3, 11]⟩]
@[reducible] def R54_11 : List XO := [⟨(some 2), none, .mv (.c (.bool false)), []⟩]
@[reducible] def R54_12 : List XO := [⟨(some 53), none, .fad 0 (.t 1), []⟩, ⟨(some 54), none, .load 1 false (.t 53), [0]⟩, ⟨(some 55), none, .bin false .eql (.t 54) (.c (.int .i64 4)), [1]⟩]
@[reducible] def R54_13 : List XO := [⟨(some 56), none, .fad 4 (.t 1), []⟩, ⟨(some 57), none, .load 1 false (.t 56), [0]⟩, ⟨(some 58), none, .len false (.t 57), [1]⟩, ⟨(some 59), none, .bin false .eql (.t 58) (.c (.int .i64 1)), [2]⟩, ⟨(some 2), none, .mv (.t 59), [3, 0, 1, 2, 3]⟩]
@[reducible] def R54_14 : List XO := [⟨(some 60), none, .fad 0 (.t 1), []⟩, ⟨(some 61), none, .load 1 false (.t 60), [0]⟩, ⟨(some 62), none, .bin false .eql (.t 61) (.c (.int .i64 3)), [1]⟩]
@[reducible] def R54_15 : List XO := [⟨(some 63), none, .fad 4 (.t 1), []⟩, ⟨(some 64), none, .load 1 false (.t 63), [0]⟩, ⟨(some 65), none, .len false (.t 64), [1]⟩, ⟨(some 66), none, .bin false .geq (.t 65) (.c (.int .i64 2)), [2]⟩, ⟨(some 2), none, .mv (.t 66), [3, 0, 1, 2, 3]⟩]
@[reducible] def R54_16 : List XO := [⟨(some 67), none, .fad 0 (.t 1), []⟩, ⟨(some 68), none, .load 1 false (.t 67), [0]⟩, ⟨(some 69), none, .bin false .eql (.t 68) (.c (.int .i64 2)), [1]⟩, ⟨(some 70), none, .mv (.t 69), [2]⟩, ⟨(some 71), (some (70, false)), .fad 4 (.t 1), [3]⟩, ⟨(some 72), (some (70, false)), .load 1 false (.t 71), [4, 3]⟩, ⟨(some 73), (some (70, false)), .len false (.t 72), [5,
    3]⟩, ⟨(some 74), (some (70, false)), .bin false .eql (.t 73) (.c (.int .i64 0)), [6, 3]⟩, ⟨(some 75), none, .pick (.t 70) (.c (.bool true)) (.t 74), [3, 7]⟩, ⟨(some 2), none, .mv (.t 75), [8, 3, 0, 1, 2, 3, 4, 5, 6, 7, 8]⟩]
@[reducible] def F54 : XF := ⟨76, (.seq (.reg false [] R54_0) (.seq (.seq (.reg false [] R54_1) (.cond (.t 11) (.seq (.reg false [] R54_2) .ret) .skip)) (.seq (.seq (.reg false [] R54_3) (.cond (.t 19) (.seq (.reg false [] R54_4) .ret) .skip)) (.seq (.seq (.reg false [] R54_5) (.blk 0 (.loop L54_0))) (.seq (.seq (.reg false [] R54_10) (.cond (.t 52) (.seq (.reg false [] R54_11) .ret) .skip)) (.seq
    (.seq (.reg false [] R54_12) (.cond (.t 55) (.seq (.reg false [] R54_13) .ret) .skip)) (.seq (.seq (.reg false [] R54_14) (.cond (.t 62) (.seq (.reg false [] R54_15) .ret) .skip)) (.seq (.reg false [] R54_16) .ret)))))))), [(2, none)]⟩
/-- codesearch/regex.Has -/
@[reducible] def R55_0 : List XO := [⟨(some 3), none, .box 1 (.t 1), []⟩, ⟨(some 4), none, .mv (.c (.bool false)), []⟩]
@[reducible] def R55_1 : List XO := [⟨(some 5), none, .mv (.t 0), []⟩, ⟨(some 6), none, .mkfn 63 [(.t 3)], []⟩, ⟨(some 7), none, .call 62 [(.t 5), (.t 6)], [0, 1]⟩, ⟨(some 4), none, .mv (.t 7), [2, 2, 0, 1, 2]⟩]
@[reducible] def F55 : XF := ⟨8, (.seq (.reg false [] R55_0) (.seq (.reg false [] R55_1) .ret)), [(4, none)]⟩
/-- codesearch/regexec.one$1 -/
@[reducible] def R56_0 : List XO := [⟨(some 4), none, .mv (.c .nls), []⟩]
@[reducible] def R56_1 : List XO := [⟨(some 7), none, .mv (.t 0), []⟩, ⟨(some 8), none, .len false (.t 7), [0]⟩, ⟨(some 9), none, .mks 4 1 1 [(.bool false)] (.t 8) (.t 8), [1, 1]⟩, ⟨(some 5), none, .mv (.t 9), [2, 0, 1, 2]⟩]
@[reducible] def R56_2 : List XO := [⟨(some 10), none, .load 1 false (.t 1), []⟩, ⟨(some 11), none, .len true (.t 10), [0]⟩, ⟨(some 12), none, .mv (.c (.int .i64 0)), []⟩]
@[reducible] def R56_3 : List XO := [⟨(some 13), none, .bin false .lss (.t 12) (.t 11), []⟩]
@[reducible] def R56_4 : List XO := [⟨(some 14), none, .mv (.t 12), []⟩, ⟨(some 6), none, .mv (.t 14), [0, 0]⟩]
@[reducible] def R56_5 : List XO := [⟨(some 15), none, .mv (.t 5), []⟩, ⟨(some 16), none, .mv (.t 6), []⟩, ⟨(some 17), none, .bin false .add (.t 16) (.c (.int .i64 1)), [1]⟩, ⟨(some 18), none, .mv (.t 0), []⟩, ⟨(some 19), none, .mv (.t 6), []⟩, ⟨(some 20), none, .iaS 1 (.t 18) (.t 19), [3, 4]⟩, ⟨(some 21), none, .load 1 false (.t 20), [5]⟩, ⟨(some 22), none, .mv (.t 21), [6]⟩, ⟨(some 23), (some
    (22, true)), .load 1 false (.t 1), [7]⟩, ⟨(some 24), (some (22, true)), .mv (.t 6), [7]⟩, ⟨(some 25), (some (22, true)), .ixS (.t 23) (.t 24), [8, 9, 7]⟩, ⟨(some 26), (some (22, true)), .iaA 256 1 (.t 2) (.t 25), [10, 7]⟩, ⟨(some 27), (some (22, true)), .load 1 false (.t 26), [11, 7]⟩, ⟨(some 28), none, .pick (.t 22) (.t 27) (.c (.bool false)), [7, 12]⟩, ⟨(some 29), none, .iaS 1 (.t 15) (.t
    17), [0, 2, 0, 1, 2, 3, 4, 5, 6, 7, 8, 9, 10, 11, 12, 13]⟩, ⟨none, none, .store 1 (.t 29) (.t 28), [14, 13, 7, 0, 1, 2, 3, 4, 5, 6, 7, 8, 9, 10, 11, 12, 13]⟩]
@[reducible] def R56_6 : List XO := [⟨(some 30), none, .bin false .add (.t 12) (.c (.int .i64 1)), []⟩, ⟨(some 12), none, .mv (.t 30), [0]⟩]
@[reducible] def L56_0 : XC := (.seq (.reg false [] R56_3) (.seq (.cond (.t 13) .skip (.exit 0)) (.seq (.blk 1 (.seq (.reg false [] R56_4) (.reg false [] R56_5))) (.reg false [] R56_6))))
@[reducible] def R56_7 : List XO := [⟨(some 31), none, .mv (.t 5), []⟩, ⟨(some 4), none, .mv (.t 31), [0, 0]⟩]
@[reducible] def F56 : XF := ⟨32, (.seq (.reg false [] R56_0) (.seq (.reg false [] R56_1) (.seq (.seq (.reg false [] R56_2) (.blk 0 (.loop L56_0))) (.seq (.reg false [] R56_7) .ret)))), [(4, none)]⟩
/-- codesearch/regexec.times$1 -/
@[reducible] def R57_0 : List XO := [⟨(some 5), none, .mv (.c .nls), []⟩]
@[reducible] def R57_1 : List XO := [⟨(some 11), none, .mv (.t 0), []⟩, ⟨(some 12), none, .len false (.t 11), [0]⟩, ⟨(some 13), none, .mks 4 1 1 [(.bool false)] (.t 12) (.t 12), [1, 1]⟩, ⟨(some 6), none, .mv (.t 13), [2, 0, 1, 2]⟩]
@[reducible] def R57_2 : List XO := [⟨(some 14), none, .mv (.t 0), []⟩, ⟨(some 7), none, .mv (.t 14), [0, 0]⟩]
@[reducible] def R57_3 : List XO := [⟨(some 8), none, .mv (.c (.int .i64 0)), []⟩]
@[reducible] def R57_4 : List XO := [⟨(some 17), none, .mv (.t 8), []⟩, ⟨(some 18), none, .load 1 false (.t 1), []⟩, ⟨(some 19), none, .bin false .geq (.t 17) (.t 18), [0, 1]⟩]
@[reducible] def R57_5 : List XO := [⟨(some 20), none, .mv (.t 6), []⟩, ⟨(some 21), none, .mv (.t 7), []⟩, ⟨(some 22), none, .call 43 [(.t 20), (.t 21)], [0, 1]⟩, ⟨(some 9), none, .mv (.t 22), [2, 2, 0, 1, 2]⟩]
@[reducible] def R57_6 : List XO := [⟨(some 23), none, .load 1 false (.t 2), []⟩, ⟨(some 24), none, .bin false .lss (.t 23) (.c (.int .i64 0)), [0]⟩, ⟨(some 25), none, .mv (.t 24), [1]⟩, ⟨(some 26), (some (25, true)), .mv (.t 8), [2]⟩, ⟨(some 27), (some (25, true)), .load 1 false (.t 1), [2]⟩, ⟨(some 28), (some (25, true)), .bin false .gtr (.t 26) (.t 27), [3, 4, 2]⟩, ⟨(some 29), none, .pick (.t
    25) (.t 28) (.c (.bool false)), [2, 5]⟩, ⟨(some 30), none, .mv (.t 29), [6, 2]⟩, ⟨(some 31), (some (30, true)), .mv (.t 9), [7]⟩, ⟨(some 32), (some (30, true)), .mv (.t 6), [7]⟩, ⟨(some 33), (some (30, true)), .call 58 [(.t 31), (.t 32)], [8, 9, 7, 7]⟩, ⟨(some 34), none, .pick (.t 30) (.t 33) (.c (.bool false)), [7, 10]⟩]
@[reducible] def R57_7 : List XO := [⟨(some 35), none, .mv (.t 6), []⟩, ⟨(some 5), none, .mv (.t 35), [0, 0]⟩]
@[reducible] def R57_8 : List XO := [⟨(some 36), none, .mv (.t 9), []⟩, ⟨(some 6), none, .mv (.t 36), [0, 0]⟩]
@[reducible] def R57_9 : List XO := [⟨(some 37), none, .mv (.t 8), []⟩, ⟨(some 38), none, .load 1 false (.t 2), []⟩, ⟨(some 39), none, .bin false .eql (.t 37) (.t 38), [0, 1]⟩, ⟨(some 40), none, .mv (.t 39), [2]⟩, ⟨(some 41), (some (40, false)), .mv (.t 7), [3]⟩, ⟨(some 42), (some (40, false)), .call 33 [(.t 41)], [4, 3, 3]⟩, ⟨(some 43), (some (40, false)), .un .not (.t 42), [5, 3]⟩, ⟨(some 44),
    none, .pick (.t 40) (.c (.bool true)) (.t 43), [3, 6]⟩]
@[reducible] def R57_10 : List XO := [⟨(some 45), none, .mv (.t 6), []⟩, ⟨(some 5), none, .mv (.t 45), [0, 0]⟩]
@[reducible] def R57_11 : List XO := [⟨(some 46), none, .load 1 false (.t 3), []⟩, ⟨(some 47), none, .mv (.t 7), []⟩, ⟨(some 48), none, .callv (.t 46) [(.t 47)], [0, 1]⟩, ⟨(some 10), none, .mv (.t 48), [2, 2, 0, 1, 2]⟩]
@[reducible] def R57_12 : List XO := [⟨(some 49), none, .mv (.t 10), []⟩, ⟨(some 50), none, .mv (.t 7), []⟩, ⟨(some 51), none, .call 58 [(.t 49), (.t 50)], [0, 1]⟩]
@[reducible] def R57_13 : List XO := [⟨(some 52), none, .mv (.t 6), []⟩, ⟨(some 53), none, .mv (.t 7), []⟩, ⟨(some 54), none, .call 43 [(.t 52), (.t 53)], [0, 1]⟩, ⟨(some 5), none, .mv (.t 54), [2, 2, 0, 1, 2]⟩]
@[reducible] def R57_14 : List XO := [⟨(some 55), none, .mv (.t 10), []⟩, ⟨(some 7), none, .mv (.t 55), [0, 0]⟩]
@[reducible] def R57_15 : List XO := [⟨(some 15), none, .mv (.t 8), []⟩, ⟨(some 16), none, .bin false .add (.t 15) (.c (.int .i64 1)), [0]⟩, ⟨(some 8), none, .mv (.t 16), [1, 0, 1]⟩]
@[reducible] def L57_0 : XC := (.seq (.blk 1 (.seq (.seq (.reg false [] R57_4) (.cond (.t 19) (.seq (.reg false [] R57_5) (.seq (.seq (.reg false [] R57_6) (.cond (.t 34) (.seq (.reg false [] R57_7) .ret) .skip)) (.reg false [] R57_8))) .skip)) (.seq (.seq (.reg false [] R57_9) (.cond (.t 44) (.seq (.reg false [] R57_10) .ret) .skip)) (.seq (.reg false [] R57_11) (.seq (.seq (.reg false [] R57_12)
    (.cond (.t 51) (.seq (.reg false [] R57_13) .ret) .skip)) (.reg false [] R57_14)))))) (.reg false [] R57_15))
@[reducible] def F57 : XF := ⟨56, (.seq (.reg false [] R57_0) (.seq (.reg false [] R57_1) (.seq (.reg false [] R57_2) (.seq (.reg false [] R57_3) (.blk 0 (.loop L57_0)))))), [(5, none)]⟩
/-- (codesearch/regexec.set).same -/
@[reducible] def R58_0 : List XO := [⟨(some 4), none, .mv (.c (.bool false)), []⟩]
@[reducible] def R58_1 : List XO := [⟨(some 6), none, .mv (.t 0), []⟩, ⟨(some 7), none, .len false (.t 6), [0]⟩, ⟨(some 8), none, .mv (.c (.int .i64 0)), []⟩]
@[reducible] def R58_2 : List XO := [⟨(some 9), none, .bin false .lss (.t 8) (.t 7), []⟩]
@[reducible] def R58_3 : List XO := [⟨(some 10), none, .mv (.t 8), []⟩, ⟨(some 5), none, .mv (.t 10), [0, 0]⟩]
@[reducible] def R58_4 : List XO := [⟨(some 11), none, .mv (.t 0), []⟩, ⟨(some 12), none, .mv (.t 5), []⟩, ⟨(some 13), none, .iaS 1 (.t 11) (.t 12), [0, 1]⟩, ⟨(some 14), none, .load 1 false (.t 13), [2]⟩, ⟨(some 15), none, .mv (.t 1), []⟩, ⟨(some 16), none, .mv (.t 5), []⟩, ⟨(some 17), none, .iaS 1 (.t 15) (.t 16), [4, 5]⟩, ⟨(some 18), none, .load 1 false (.t 17), [6]⟩, ⟨(some 19), none, .bin true
    .neq (.t 14) (.t 18), [3, 7]⟩]
@[reducible] def R58_5 : List XO := [⟨(some 4), none, .mv (.c (.bool false)), []⟩]
@[reducible] def R58_6 : List XO := [⟨(some 20), none, .bin false .add (.t 8) (.c (.int .i64 1)), []⟩, ⟨(some 8), none, .mv (.t 20), [0]⟩]
@[reducible] def L58_0 : XC := (.seq (.reg false [] R58_2) (.seq (.cond (.t 9) .skip (.exit 0)) (.seq (.blk 1 (.seq (.reg false [] R58_3) (.seq (.reg true [] R58_4) (.cond (.t 19) (.seq (.reg false [] R58_5) .ret) .skip)))) (.reg false [] R58_6))))
@[reducible] def R58_7 : List XO := [⟨(some 4), none, .mv (.c (.bool true)), []⟩]
@[reducible] def F58 : XF := ⟨21, (.seq (.reg false [] R58_0) (.seq (.seq (.reg false [] R58_1) (.blk 0 (.loop L58_0))) (.seq (.reg false [] R58_7) .ret))), [(4, none)]⟩
/-- codesearch/regexec.where$1 -/
@[reducible] def R59_0 : List XO := [⟨(some 3), none, .mv (.c .nls), []⟩]
@[reducible] def R59_1 : List XO := [⟨(some 6), none, .mv (.t 0), []⟩, ⟨(some 7), none, .len false (.t 6), [0]⟩, ⟨(some 8), none, .mks 4 1 1 [(.bool false)] (.t 7) (.t 7), [1, 1]⟩, ⟨(some 4), none, .mv (.t 8), [2, 0, 1, 2]⟩]
@[reducible] def R59_2 : List XO := [⟨(some 9), none, .mv (.t 0), []⟩, ⟨(some 10), none, .len false (.t 9), [0]⟩, ⟨(some 11), none, .mv (.c (.int .i64 0)), []⟩]
@[reducible] def R59_3 : List XO := [⟨(some 12), none, .bin false .lss (.t 11) (.t 10), []⟩]
@[reducible] def R59_4 : List XO := [⟨(some 13), none, .mv (.t 11), []⟩, ⟨(some 5), none, .mv (.t 13), [0, 0]⟩]
@[reducible] def R59_5 : List XO := [⟨(some 14), none, .mv (.t 4), []⟩, ⟨(some 15), none, .mv (.t 5), []⟩, ⟨(some 16), none, .mv (.t 0), []⟩, ⟨(some 17), none, .mv (.t 5), []⟩, ⟨(some 18), none, .iaS 1 (.t 16) (.t 17), [2, 3]⟩, ⟨(some 19), none, .load 1 false (.t 18), [4]⟩, ⟨(some 20), none, .mv (.t 19), [5]⟩, ⟨(some 21), (some (20, true)), .load 1 false (.t 1), [6]⟩, ⟨(some 22), (some (20, true)),
    .mv (.t 5), [6]⟩, ⟨(some 23), (some (20, true)), .callv (.t 21) [(.t 22)], [7, 8, 6, 6]⟩, ⟨(some 24), none, .pick (.t 20) (.t 23) (.c (.bool false)), [6, 9]⟩, ⟨(some 25), none, .iaS 1 (.t 14) (.t 15), [0, 1, 0, 1, 2, 3, 4, 5, 6, 7, 8, 9, 10]⟩, ⟨none, none, .store 1 (.t 25) (.t 24), [11, 10, 9, 0, 1, 2, 3, 4, 5, 6, 7, 8, 9, 10]⟩]
@[reducible] def R59_6 : List XO := [⟨(some 26), none, .bin false .add (.t 11) (.c (.int .i64 1)), []⟩, ⟨(some 11), none, .mv (.t 26), [0]⟩]
@[reducible] def L59_0 : XC := (.seq (.reg false [] R59_3) (.seq (.cond (.t 12) .skip (.exit 0)) (.seq (.blk 1 (.seq (.reg false [] R59_4) (.reg false [] R59_5))) (.reg false [] R59_6))))
@[reducible] def R59_7 : List XO := [⟨(some 27), none, .mv (.t 4), []⟩, ⟨(some 3), none, .mv (.t 27), [0, 0]⟩]
@[reducible] def F59 : XF := ⟨28, (.seq (.reg false [] R59_0) (.seq (.reg false [] R59_1) (.seq (.seq (.reg false [] R59_2) (.blk 0 (.loop L59_0))) (.seq (.reg false [] R59_7) .ret)))), [(3, none)]⟩
/-- codesearch/codesearchref09.same -/
@[reducible] def R60_0 : List XO := [⟨(some 4), none, .mv (.c (.bool false)), []⟩]
@[reducible] def R60_1 : List XO := [⟨(some 5), none, .mv (.c (.int .i64 0)), []⟩]
@[reducible] def R60_2 : List XO := [⟨(some 6), none, .mv (.t 5), []⟩, ⟨(some 7), none, .mv (.t 0), []⟩, ⟨(some 8), none, .len false (.t 7), [1]⟩, ⟨(some 9), none, .bin false .lss (.t 6) (.t 8), [0, 2]⟩]
@[reducible] def R60_3 : List XO := [⟨(some 12), none, .mv (.t 0), []⟩, ⟨(some 13), none, .mv (.t 5), []⟩, ⟨(some 14), none, .iaS 1 (.t 12) (.t 13), [0, 1]⟩, ⟨(some 15), none, .load 1 false (.t 14), [2]⟩, ⟨(some 16), none, .mv (.t 1), []⟩, ⟨(some 17), none, .mv (.t 5), []⟩, ⟨(some 18), none, .iaS 1 (.t 16) (.t 17), [4, 5]⟩, ⟨(some 19), none, .load 1 false (.t 18), [6]⟩, ⟨(some 20), none, .bin true
    .neq (.t 15) (.t 19), [3, 7]⟩]
@[reducible] def R60_4 : List XO := [⟨(some 4), none, .mv (.c (.bool false)), []⟩]
@[reducible] def R60_5 : List XO := [⟨(some 10), none, .mv (.t 5), []⟩, ⟨(some 11), none, .bin false .add (.t 10) (.c (.int .i64 1)), [0]⟩, ⟨(some 5), none, .mv (.t 11), [1, 0, 1]⟩]
@[reducible] def L60_0 : XC := (.seq (.seq (.reg false [] R60_2) (.cond (.t 9) .skip (.exit 0))) (.seq (.blk 1 (.seq (.reg true [] R60_3) (.cond (.t 20) (.seq (.reg false [] R60_4) .ret) .skip))) (.reg false [] R60_5)))
@[reducible] def R60_6 : List XO := [⟨(some 4), none, .mv (.c (.bool true)), []⟩]
@[reducible] def F60 : XF := ⟨21, (.seq (.reg false [] R60_0) (.seq (.seq (.reg false [] R60_1) (.blk 0 (.loop L60_0))) (.seq (.reg false [] R60_6) .ret))), [(4, none)]⟩
/-- codesearch/codesearchref09.word -/
@[reducible] def R61_0 : List XO := [⟨(some 4), none, .mv (.c (.bool false)), []⟩]
@[reducible] def R61_1 : List XO := [⟨(some 6), none, .mv (.t 1), []⟩, ⟨(some 7), none, .bin false .lss (.t 6) (.c (.int .i64 0)), [0]⟩, ⟨(some 8), none, .mv (.t 7), [1]⟩, ⟨(some 9), (some (8, false)), .mv (.t 1), [2]⟩, ⟨(some 10), (some (8, false)), .mv (.t 0), [2]⟩, ⟨(some 11), (some (8, false)), .len true (.t 10), [4, 2]⟩, ⟨(some 12), (some (8, false)), .bin false .geq (.t 9) (.t 11), [3, 5,
    2]⟩, ⟨(some 13), none, .pick (.t 8) (.c (.bool true)) (.t 12), [2, 6]⟩]
@[reducible] def R61_2 : List XO := [⟨(some 4), none, .mv (.c (.bool false)), []⟩]
@[reducible] def R61_3 : List XO := [⟨(some 14), none, .mv (.t 0), []⟩, ⟨(some 15), none, .mv (.t 1), []⟩, ⟨(some 16), none, .ixS (.t 14) (.t 15), [0, 1]⟩, ⟨(some 5), none, .mv (.t 16), [2, 0, 1, 2]⟩]
@[reducible] def R61_4 : List XO := [⟨(some 17), none, .mv (.t 5), []⟩, ⟨(some 18), none, .bin false .geq (.t 17) (.c (.int .u8 97)), [0]⟩, ⟨(some 19), none, .mv (.t 18), [1]⟩, ⟨(some 20), (some (19, true)), .mv (.t 5), [2]⟩, ⟨(some 21), (some (19, true)), .bin false .leq (.t 20) (.c (.int .u8 122)), [3, 2]⟩, ⟨(some 22), none, .pick (.t 19) (.t 21) (.c (.bool false)), [2, 4]⟩, ⟨(some 23), none, .mv
    (.t 22), [5, 2]⟩, ⟨(some 24), (some (23, false)), .mv (.t 5), [6]⟩, ⟨(some 25), (some (23, false)), .bin false .geq (.t 24) (.c (.int .u8 65)), [7, 6]⟩, ⟨(some 26), (some (23, false)), .mv (.t 25), [8, 6, 6]⟩, ⟨(some 27), (some (26, true)), .mv (.t 5), [9]⟩, ⟨(some 28), (some (26, true)), .bin false .leq (.t 27) (.c (.int .u8 90)), [10, 9]⟩, ⟨(some 29), (some (23, false)), .pick (.t 26) (.t 28)
    (.c (.bool false)), [9, 11, 6]⟩, ⟨(some 30), none, .pick (.t 23) (.c (.bool true)) (.t 29), [6, 12]⟩, ⟨(some 31), none, .mv (.t 30), [13, 9]⟩, ⟨(some 32), (some (31, false)), .mv (.t 5), [14]⟩, ⟨(some 33), (some (31, false)), .bin false .geq (.t 32) (.c (.int .u8 48)), [15, 14]⟩, ⟨(some 34), (some (31, false)), .mv (.t 33), [16, 14, 14]⟩, ⟨(some 35), (some (34, true)), .mv (.t 5), [17]⟩, ⟨(some
    36), (some (34, true)), .bin false .leq (.t 35) (.c (.int .u8 57)), [18, 17]⟩, ⟨(some 37), (some (31, false)), .pick (.t 34) (.t 36) (.c (.bool false)), [17, 19, 14]⟩, ⟨(some 38), none, .pick (.t 31) (.c (.bool true)) (.t 37), [14, 20]⟩, ⟨(some 39), none, .mv (.t 38), [21, 17]⟩, ⟨(some 40), (some (39, false)), .mv (.t 5), [22]⟩, ⟨(some 41), (some (39, false)), .bin false .eql (.t 40) (.c (.int
    .u8 95)), [23, 22]⟩, ⟨(some 42), none, .pick (.t 39) (.c (.bool true)) (.t 41), [22, 24]⟩, ⟨(some 4), none, .mv (.t 42), [25, 22, 0, 1, 2, 3, 4, 5, 6, 7, 8, 9, 10, 11, 12, 13, 14, 15, 16, 17, 18, 19, 20, 21, 22, 23, 24, 25]⟩]
@[reducible] def F61 : XF := ⟨43, (.seq (.reg false [] R61_0) (.seq (.seq (.reg false [] R61_1) (.cond (.t 13) (.seq (.reg false [] R61_2) .ret) .skip)) (.seq (.reg false [] R61_3) (.seq (.reg false [] R61_4) .ret)))), [(4, none)]⟩
/-- slices.ContainsFunc[[]codesearch/api.Range,codesearch/api.Range] -/
@[reducible] def R62_0 : List XO := [⟨(some 4), none, .mv (.c (.bool false)), []⟩]
@[reducible] def R62_1 : List XO := [⟨(some 5), none, .mv (.t 0), []⟩, ⟨(some 6), none, .mv (.t 1), []⟩, ⟨(some 7), none, .call 64 [(.t 5), (.t 6)], [0, 1]⟩, ⟨(some 8), none, .bin false .geq (.t 7) (.c (.int .i64 0)), [2]⟩, ⟨(some 4), none, .mv (.t 8), [3, 2, 0, 1, 2, 3]⟩]
@[reducible] def F62 : XF := ⟨9, (.seq (.reg false [] R62_0) (.seq (.reg false [] R62_1) .ret)), [(4, none)]⟩
/-- codesearch/regex.Has$1 -/
@[reducible] def R63_0 : List XO := [⟨(some 2), none, .box 2 (.t 0), []⟩, ⟨(some 3), none, .mv (.c (.bool false)), []⟩]
@[reducible] def R63_1 : List XO := [⟨(some 4), none, .load 1 false (.t 1), []⟩, ⟨(some 5), none, .fad 0 (.t 2), []⟩, ⟨(some 6), none, .load 1 false (.t 5), [1]⟩, ⟨(some 7), none, .bin false .geq (.t 4) (.t 6), [0, 2]⟩, ⟨(some 8), none, .mv (.t 7), [3]⟩, ⟨(some 9), (some (8, true)), .load 1 false (.t 1), [4]⟩, ⟨(some 10), (some (8, true)), .fad 1 (.t 2), [4]⟩, ⟨(some 11), (some (8, true)), .load 1
    false (.t 10), [6, 4]⟩, ⟨(some 12), (some (8, true)), .bin false .leq (.t 9) (.t 11), [5, 7, 4]⟩, ⟨(some 13), none, .pick (.t 8) (.t 12) (.c (.bool false)), [4, 8]⟩, ⟨(some 3), none, .mv (.t 13), [9, 4, 0, 1, 2, 3, 4, 5, 6, 7, 8, 9]⟩]
@[reducible] def F63 : XF := ⟨14, (.seq (.reg false [] R63_0) (.seq (.reg false [] R63_1) .ret)), [(3, none)]⟩
/-- slices.IndexFunc[[]codesearch/api.Range,codesearch/api.Range] -/
@[reducible] def R64_0 : List XO := [⟨(some 4), none, .mv (.c (.int .i64 0)), []⟩]
@[reducible] def R64_1 : List XO := [⟨(some 6), none, .mv (.t 0), []⟩, ⟨(some 7), none, .len false (.t 6), [0]⟩, ⟨(some 8), none, .mv (.c (.int .i64 0)), []⟩]
@[reducible] def R64_2 : List XO := [⟨(some 9), none, .bin false .lss (.t 8) (.t 7), []⟩]
@[reducible] def R64_3 : List XO := [⟨(some 10), none, .mv (.t 8), []⟩, ⟨(some 5), none, .mv (.t 10), [0, 0]⟩]
@[reducible] def R64_4 : List XO := [⟨(some 11), none, .mv (.t 1), []⟩, ⟨(some 12), none, .mv (.t 0), []⟩, ⟨(some 13), none, .mv (.t 5), []⟩, ⟨(some 14), none, .iaS 2 (.t 12) (.t 13), [1, 2]⟩, ⟨(some 15), none, .load 2 true (.t 14), [3]⟩, ⟨(some 16), none, .callv (.t 11) [(.t 15)], [0, 4]⟩]
@[reducible] def R64_5 : List XO := [⟨(some 17), none, .mv (.t 5), []⟩, ⟨(some 4), none, .mv (.t 17), [0, 0]⟩]
@[reducible] def R64_6 : List XO := [⟨(some 18), none, .bin false .add (.t 8) (.c (.int .i64 1)), []⟩, ⟨(some 8), none, .mv (.t 18), [0]⟩]
@[reducible] def L64_0 : XC := (.seq (.reg false [] R64_2) (.seq (.cond (.t 9) .skip (.exit 0)) (.seq (.blk 1 (.seq (.reg false [] R64_3) (.seq (.reg false [] R64_4) (.cond (.t 16) (.seq (.reg false [] R64_5) .ret) .skip)))) (.reg false [] R64_6))))
@[reducible] def R64_7 : List XO := [⟨(some 4), none, .mv (.c (.int .i64 (-1))), []⟩]
@[reducible] def F64 : XF := ⟨19, (.seq (.reg false [] R64_0) (.seq (.seq (.reg false [] R64_1) (.blk 0 (.loop L64_0))) (.seq (.reg false [] R64_7) .ret))), [(4, none)]⟩
def xp (f : Nat) : Option XF := match f with
  | 3 => some F3
  | 4 => some F4
  | 5 => some F5
  | 6 => some F6
  | 7 => some F7
  | 8 => some F8
  | 9 => some F9
  | 10 => some F10
  | 11 => some F11
  | 12 => some F12
  | 13 => some F13
  | 14 => some F14
  | 15 => some F15
  | 16 => some F16
  | 17 => some F17
  | 18 => some F18
  | 19 => some F19
  | 20 => some F20
  | 21 => some F21
  | 22 => some F22
  | 23 => some F23
  | 24 => some F24
  | 25 => some F25
  | 26 => some F26
  | 27 => some F27
  | 28 => some F28
  | 29 => some F29
  | 30 => some F30
  | 31 => some F31
  | 32 => some F32
  | 33 => some F33
  | 34 => some F34
  | 35 => some F35
  | 36 => some F36
  | 37 => some F37
  | 38 => some F38
  | 39 => some F39
  | 40 => some F40
  | 41 => some F41
  | 42 => some F42
  | 43 => some F43
  | 44 => some F44
  | 45 => some F45
  | 46 => some F46
  | 47 => some F47
  | 48 => some F48
  | 49 => some F49
  | 50 => some F50
  | 51 => some F51
  | 52 => some F52
  | 53 => some F53
  | 54 => some F54
  | 55 => some F55
  | 56 => some F56
  | 57 => some F57
  | 58 => some F58
  | 59 => some F59
  | 60 => some F60
  | 61 => some F61
  | 62 => some F62
  | 63 => some F63
  | 64 => some F64
  | _ => none
def md (f : Nat) : Bool := match f with
  | _ => false
theorem c3 : cFn Try.prog Try.f3 = some F3 := by kernel_rfl
theorem c4 : cFn Try.prog Try.f4 = some F4 := by kernel_rfl
theorem c5 : cFn Try.prog Try.f5 = some F5 := by kernel_rfl
theorem c6 : cFn Try.prog Try.f6 = some F6 := by kernel_rfl
theorem c7 : cFn Try.prog Try.f7 = some F7 := by kernel_rfl
theorem c8 : cFn Try.prog Try.f8 = some F8 := by kernel_rfl
theorem c9 : cFn Try.prog Try.f9 = some F9 := by kernel_rfl
theorem c10 : cFn Try.prog Try.f10 = some F10 := by kernel_rfl
theorem c11 : cFn Try.prog Try.f11 = some F11 := by kernel_rfl
theorem c12 : cFn Try.prog Try.f12 = some F12 := by kernel_rfl
theorem c13 : cFn Try.prog Try.f13 = some F13 := by kernel_rfl
theorem c14 : cFn Try.prog Try.f14 = some F14 := by kernel_rfl
theorem c15 : cFn Try.prog Try.f15 = some F15 := by kernel_rfl
theorem c16 : cFn Try.prog Try.f16 = some F16 := by kernel_rfl
theorem c17 : cFn Try.prog Try.f17 = some F17 := by kernel_rfl
theorem c18 : cFn Try.prog Try.f18 = some F18 := by kernel_rfl
theorem c19 : cFn Try.prog Try.f19 = some F19 := by kernel_rfl
theorem c20 : cFn Try.prog Try.f20 = some F20 := by kernel_rfl
theorem c21 : cFn Try.prog Try.f21 = some F21 := by kernel_rfl
theorem c22 : cFn Try.prog Try.f22 = some F22 := by kernel_rfl
theorem c23 : cFn Try.prog Try.f23 = some F23 := by kernel_rfl
theorem c24 : cFn Try.prog Try.f24 = some F24 := by kernel_rfl
theorem c25 : cFn Try.prog Try.f25 = some F25 := by kernel_rfl
theorem c26 : cFn Try.prog Try.f26 = some F26 := by kernel_rfl
theorem c27 : cFn Try.prog Try.f27 = some F27 := by kernel_rfl
theorem c28 : cFn Try.prog Try.f28 = some F28 := by kernel_rfl
theorem c29 : cFn Try.prog Try.f29 = some F29 := by kernel_rfl
theorem c30 : cFn Try.prog Try.f30 = some F30 := by kernel_rfl
theorem c31 : cFn Try.prog Try.f31 = some F31 := by kernel_rfl
theorem c32 : cFn Try.prog Try.f32 = some F32 := by kernel_rfl
theorem c33 : cFn Try.prog Try.f33 = some F33 := by kernel_rfl
theorem c34 : cFn Try.prog Try.f34 = some F34 := by kernel_rfl
theorem c35 : cFn Try.prog Try.f35 = some F35 := by kernel_rfl
theorem c36 : cFn Try.prog Try.f36 = some F36 := by kernel_rfl
theorem c37 : cFn Try.prog Try.f37 = some F37 := by kernel_rfl
theorem c38 : cFn Try.prog Try.f38 = some F38 := by kernel_rfl
theorem c39 : cFn Try.prog Try.f39 = some F39 := by kernel_rfl
theorem c40 : cFn Try.prog Try.f40 = some F40 := by kernel_rfl
theorem c41 : cFn Try.prog Try.f41 = some F41 := by kernel_rfl
theorem c42 : cFn Try.prog Try.f42 = some F42 := by kernel_rfl
theorem c43 : cFn Try.prog Try.f43 = some F43 := by kernel_rfl
theorem c44 : cFn Try.prog Try.f44 = some F44 := by kernel_rfl
theorem c45 : cFn Try.prog Try.f45 = some F45 := by kernel_rfl
theorem c46 : cFn Try.prog Try.f46 = some F46 := by kernel_rfl
theorem c47 : cFn Try.prog Try.f47 = some F47 := by kernel_rfl
theorem c48 : cFn Try.prog Try.f48 = some F48 := by kernel_rfl
theorem c49 : cFn Try.prog Try.f49 = some F49 := by kernel_rfl
theorem c50 : cFn Try.prog Try.f50 = some F50 := by kernel_rfl
theorem c51 : cFn Try.prog Try.f51 = some F51 := by kernel_rfl
theorem c52 : cFn Try.prog Try.f52 = some F52 := by kernel_rfl
theorem c53 : cFn Try.prog Try.f53 = some F53 := by kernel_rfl
theorem c54 : cFn Try.prog Try.f54 = some F54 := by kernel_rfl
theorem c55 : cFn Try.prog Try.f55 = some F55 := by kernel_rfl
theorem c56 : cFn Try.prog Try.f56 = some F56 := by kernel_rfl
theorem c57 : cFn Try.prog Try.f57 = some F57 := by kernel_rfl
theorem c58 : cFn Try.prog Try.f58 = some F58 := by kernel_rfl
theorem c59 : cFn Try.prog Try.f59 = some F59 := by kernel_rfl
theorem c60 : cFn Try.prog Try.f60 = some F60 := by kernel_rfl
theorem c61 : cFn Try.prog Try.f61 = some F61 := by kernel_rfl
theorem c62 : cFn Try.prog Try.f62 = some F62 := by kernel_rfl
theorem c63 : cFn Try.prog Try.f63 = some F63 := by kernel_rfl
theorem c64 : cFn Try.prog Try.f64 = some F64 := by kernel_rfl
theorem fnsOk : FnsOk Try.prog xp := by
  intro f F h
  unfold xp at h
  split at h
  · obtain rfl := Option.some.inj h; exact ⟨_, Try.func3, c3⟩
  · obtain rfl := Option.some.inj h; exact ⟨_, Try.func4, c4⟩
  · obtain rfl := Option.some.inj h; exact ⟨_, Try.func5, c5⟩
  · obtain rfl := Option.some.inj h; exact ⟨_, Try.func6, c6⟩
  · obtain rfl := Option.some.inj h; exact ⟨_, Try.func7, c7⟩
  · obtain rfl := Option.some.inj h; exact ⟨_, Try.func8, c8⟩
  · obtain rfl := Option.some.inj h; exact ⟨_, Try.func9, c9⟩
  · obtain rfl := Option.some.inj h; exact ⟨_, Try.func10, c10⟩
  · obtain rfl := Option.some.inj h; exact ⟨_, Try.func11, c11⟩
  · obtain rfl := Option.some.inj h; exact ⟨_, Try.func12, c12⟩
  · obtain rfl := Option.some.inj h; exact ⟨_, Try.func13, c13⟩
  · obtain rfl := Option.some.inj h; exact ⟨_, Try.func14, c14⟩
  · obtain rfl := Option.some.inj h; exact ⟨_, Try.func15, c15⟩
  · obtain rfl := Option.some.inj h; exact ⟨_, Try.func16, c16⟩
  · obtain rfl := Option.some.inj h; exact ⟨_, Try.func17, c17⟩
  · obtain rfl := Option.some.inj h; exact ⟨_, Try.func18, c18⟩
  · obtain rfl := Option.some.inj h; exact ⟨_, Try.func19, c19⟩
  · obtain rfl := Option.some.inj h; exact ⟨_, Try.func20, c20⟩
  · obtain rfl := Option.some.inj h; exact ⟨_, Try.func21, c21⟩
  · obtain rfl := Option.some.inj h; exact ⟨_, Try.func22, c22⟩
  · obtain rfl := Option.some.inj h; exact ⟨_, Try.func23, c23⟩
  · obtain rfl := Option.some.inj h; exact ⟨_, Try.func24, c24⟩
  · obtain rfl := Option.some.inj h; exact ⟨_, Try.func25, c25⟩
  · obtain rfl := Option.some.inj h; exact ⟨_, Try.func26, c26⟩
  · obtain rfl := Option.some.inj h; exact ⟨_, Try.func27, c27⟩
  · obtain rfl := Option.some.inj h; exact ⟨_, Try.func28, c28⟩
  · obtain rfl := Option.some.inj h; exact ⟨_, Try.func29, c29⟩
  · obtain rfl := Option.some.inj h; exact ⟨_, Try.func30, c30⟩
  · obtain rfl := Option.some.inj h; exact ⟨_, Try.func31, c31⟩
  · obtain rfl := Option.some.inj h; exact ⟨_, Try.func32, c32⟩
  · obtain rfl := Option.some.inj h; exact ⟨_, Try.func33, c33⟩
  · obtain rfl := Option.some.inj h; exact ⟨_, Try.func34, c34⟩
  · obtain rfl := Option.some.inj h; exact ⟨_, Try.func35, c35⟩
  · obtain rfl := Option.some.inj h; exact ⟨_, Try.func36, c36⟩
  · obtain rfl := Option.some.inj h; exact ⟨_, Try.func37, c37⟩
  · obtain rfl := Option.some.inj h; exact ⟨_, Try.func38, c38⟩
  · obtain rfl := Option.some.inj h; exact ⟨_, Try.func39, c39⟩
  · obtain rfl := Option.some.inj h; exact ⟨_, Try.func40, c40⟩
  · obtain rfl := Option.some.inj h; exact ⟨_, Try.func41, c41⟩
  · obtain rfl := Option.some.inj h; exact ⟨_, Try.func42, c42⟩
  · obtain rfl := Option.some.inj h; exact ⟨_, Try.func43, c43⟩
  · obtain rfl := Option.some.inj h; exact ⟨_, Try.func44, c44⟩
  · obtain rfl := Option.some.inj h; exact ⟨_, Try.func45, c45⟩
  · obtain rfl := Option.some.inj h; exact ⟨_, Try.func46, c46⟩
  · obtain rfl := Option.some.inj h; exact ⟨_, Try.func47, c47⟩
  · obtain rfl := Option.some.inj h; exact ⟨_, Try.func48, c48⟩
  · obtain rfl := Option.some.inj h; exact ⟨_, Try.func49, c49⟩
  · obtain rfl := Option.some.inj h; exact ⟨_, Try.func50, c50⟩
  · obtain rfl := Option.some.inj h; exact ⟨_, Try.func51, c51⟩
  · obtain rfl := Option.some.inj h; exact ⟨_, Try.func52, c52⟩
  · obtain rfl := Option.some.inj h; exact ⟨_, Try.func53, c53⟩
  · obtain rfl := Option.some.inj h; exact ⟨_, Try.func54, c54⟩
  · obtain rfl := Option.some.inj h; exact ⟨_, Try.func55, c55⟩
  · obtain rfl := Option.some.inj h; exact ⟨_, Try.func56, c56⟩
  · obtain rfl := Option.some.inj h; exact ⟨_, Try.func57, c57⟩
  · obtain rfl := Option.some.inj h; exact ⟨_, Try.func58, c58⟩
  · obtain rfl := Option.some.inj h; exact ⟨_, Try.func59, c59⟩
  · obtain rfl := Option.some.inj h; exact ⟨_, Try.func60, c60⟩
  · obtain rfl := Option.some.inj h; exact ⟨_, Try.func61, c61⟩
  · obtain rfl := Option.some.inj h; exact ⟨_, Try.func62, c62⟩
  · obtain rfl := Option.some.inj h; exact ⟨_, Try.func63, c63⟩
  · obtain rfl := Option.some.inj h; exact ⟨_, Try.func64, c64⟩
  · cases h
theorem LN : (((((((((8 * List.length R3_0 = 16) ∧ (8 * List.length R3_1 = 16)) ∧ ((8 * List.length R3_2 = 8) ∧ (8 * List.length R3_3 = 24))) ∧ (((8 * List.length R3_4 = 8) ∧ (8 * List.length R3_5 = 80)) ∧ ((8 * List.length R4_0 = 16) ∧ (8 * List.length R4_1 = 16)))) ∧ ((((8 * List.length R4_2 = 8) ∧ (8 * List.length R4_3 = 24)) ∧ ((8 * List.length R4_4 = 8) ∧ (8 * List.length R4_5 = 80))) ∧ (((8 *
    List.length R4_6 = 80) ∧ (8 * List.length R4_7 = 216)) ∧ ((8 * List.length R5_0 = 16) ∧ ((8 * List.length R5_1 = 16) ∧ (8 * List.length R5_2 = 8)))))) ∧ (((((8 * List.length R5_3 = 24) ∧ (8 * List.length R5_4 = 8)) ∧ ((8 * List.length R5_5 = 64) ∧ (8 * List.length R6_0 = 16))) ∧ (((8 * List.length R6_1 = 16) ∧ (8 * List.length R6_2 = 8)) ∧ ((8 * List.length R6_3 = 24) ∧ ((8 * List.length R6_4 =
    8) ∧ (8 * List.length R6_5 = 80))))) ∧ ((((8 * List.length R6_6 = 24) ∧ (8 * List.length R6_7 = 32)) ∧ ((8 * List.length R6_8 = 40) ∧ (8 * List.length R6_9 = 56))) ∧ (((8 * List.length R6_10 = 192) ∧ (8 * List.length R6_11 = 24)) ∧ ((8 * List.length R6_12 = 8) ∧ ((8 * List.length R6_13 = 24) ∧ (8 * List.length R6_14 = 104))))))) ∧ ((((((8 * List.length R7_0 = 16) ∧ (8 * List.length R7_1 = 16))
    ∧ ((8 * List.length R7_2 = 8) ∧ (8 * List.length R7_3 = 64))) ∧ (((8 * List.length R7_4 = 64) ∧ (8 * List.length R7_5 = 104)) ∧ ((8 * List.length R7_6 = 8) ∧ ((8 * List.length R7_7 = 96) ∧ (8 * List.length R7_8 = 80))))) ∧ ((((8 * List.length R7_9 = 8) ∧ (8 * List.length R7_10 = 32)) ∧ ((8 * List.length R7_11 = 8) ∧ (8 * List.length R7_12 = 8))) ∧ (((8 * List.length R7_13 = 32) ∧ (8 *
    List.length R7_14 = 112)) ∧ ((8 * List.length R7_15 = 24) ∧ ((8 * List.length R7_16 = 152) ∧ (8 * List.length R7_17 = 8)))))) ∧ (((((8 * List.length R7_18 = 24) ∧ (8 * List.length R7_19 = 8)) ∧ ((8 * List.length R8_0 = 24) ∧ (8 * List.length R8_1 = 16))) ∧ (((8 * List.length R8_2 = 8) ∧ (8 * List.length R8_3 = 48)) ∧ ((8 * List.length R8_4 = 56) ∧ ((8 * List.length R8_5 = 64) ∧ (8 * List.length
    R8_6 = 8))))) ∧ ((((8 * List.length R8_7 = 32) ∧ (8 * List.length R8_8 = 80)) ∧ ((8 * List.length R8_9 = 8) ∧ (8 * List.length R8_10 = 16))) ∧ (((8 * List.length R8_11 = 16) ∧ (8 * List.length R8_12 = 48)) ∧ ((8 * List.length R8_13 = 8) ∧ ((8 * List.length R8_14 = 8) ∧ (8 * List.length R8_15 = 24)))))))) ∧ (((((((8 * List.length R8_16 = 24) ∧ (8 * List.length R8_17 = 8)) ∧ ((8 * List.length
    R8_18 = 32) ∧ (8 * List.length R8_19 = 56))) ∧ (((8 * List.length R8_20 = 64) ∧ (8 * List.length R8_21 = 24)) ∧ ((8 * List.length R8_22 = 8) ∧ (8 * List.length R8_23 = 8)))) ∧ ((((8 * List.length R8_24 = 32) ∧ (8 * List.length R8_25 = 64)) ∧ ((8 * List.length R8_26 = 8) ∧ (8 * List.length R8_27 = 32))) ∧ (((8 * List.length R8_28 = 56) ∧ (8 * List.length R8_29 = 64)) ∧ ((8 * List.length R8_30 =
    24) ∧ ((8 * List.length R8_31 = 24) ∧ (8 * List.length R8_32 = 16)))))) ∧ (((((8 * List.length R8_33 = 24) ∧ (8 * List.length R8_34 = 48)) ∧ ((8 * List.length R8_35 = 40) ∧ (8 * List.length R8_36 = 8))) ∧ (((8 * List.length R8_37 = 8) ∧ (8 * List.length R8_38 = 32)) ∧ ((8 * List.length R8_39 = 56) ∧ ((8 * List.length R8_40 = 8) ∧ (8 * List.length R8_41 = 24))))) ∧ ((((8 * List.length R8_42 = 8)
    ∧ (8 * List.length R9_0 = 16)) ∧ ((8 * List.length R9_1 = 16) ∧ (8 * List.length R9_2 = 8))) ∧ (((8 * List.length R9_3 = 24) ∧ (8 * List.length R9_4 = 8)) ∧ ((8 * List.length R9_5 = 32) ∧ ((8 * List.length R9_6 = 8) ∧ (8 * List.length R9_7 = 32))))))) ∧ ((((((8 * List.length R9_8 = 360) ∧ (8 * List.length R9_9 = 8)) ∧ ((8 * List.length R9_10 = 24) ∧ (8 * List.length R9_11 = 64))) ∧ (((8 *
    List.length R10_0 = 8) ∧ (8 * List.length R10_1 = 40)) ∧ ((8 * List.length R10_2 = 40) ∧ ((8 * List.length R10_3 = 72) ∧ (8 * List.length R10_4 = 96))))) ∧ ((((8 * List.length R10_5 = 136) ∧ (8 * List.length R10_6 = 8)) ∧ ((8 * List.length R10_7 = 136) ∧ (8 * List.length R10_8 = 8))) ∧ (((8 * List.length R10_9 = 24) ∧ (8 * List.length R10_10 = 88)) ∧ ((8 * List.length R10_11 = 264) ∧ ((8 *
    List.length R11_0 = 8) ∧ (8 * List.length R11_1 = 40)))))) ∧ (((((8 * List.length R11_2 = 8) ∧ (8 * List.length R11_3 = 8)) ∧ ((8 * List.length R11_4 = 32) ∧ (8 * List.length R11_5 = 72))) ∧ (((8 * List.length R11_6 = 8) ∧ (8 * List.length R11_7 = 24)) ∧ ((8 * List.length R11_8 = 8) ∧ ((8 * List.length R12_0 = 16) ∧ (8 * List.length R12_1 = 104))))) ∧ ((((8 * List.length R12_2 = 8) ∧ (8 *
    List.length R12_3 = 8)) ∧ ((8 * List.length R12_4 = 72) ∧ (8 * List.length R12_5 = 8))) ∧ (((8 * List.length R12_6 = 40) ∧ (8 * List.length R12_7 = 8)) ∧ ((8 * List.length R12_8 = 40) ∧ ((8 * List.length R12_9 = 16) ∧ (8 * List.length R12_10 = 16))))))))) ∧ ((((((((8 * List.length R13_0 = 16) ∧ (8 * List.length R13_1 = 104)) ∧ ((8 * List.length R13_2 = 8) ∧ (8 * List.length R13_3 = 24))) ∧ (((8
    * List.length R13_4 = 32) ∧ (8 * List.length R13_5 = 40)) ∧ ((8 * List.length R13_6 = 8) ∧ (8 * List.length R13_7 = 8)))) ∧ ((((8 * List.length R13_8 = 32) ∧ (8 * List.length R13_9 = 32)) ∧ ((8 * List.length R13_10 = 40) ∧ (8 * List.length R13_11 = 24))) ∧ (((8 * List.length R13_12 = 16) ∧ (8 * List.length R14_0 = 24)) ∧ ((8 * List.length R14_1 = 24) ∧ ((8 * List.length R14_2 = 24) ∧ (8 *
    List.length R14_3 = 80)))))) ∧ (((((8 * List.length R15_0 = 24) ∧ (8 * List.length R15_1 = 24)) ∧ ((8 * List.length R15_2 = 32) ∧ (8 * List.length R15_3 = 40))) ∧ (((8 * List.length R15_4 = 24) ∧ (8 * List.length R15_5 = 80)) ∧ ((8 * List.length R15_6 = 24) ∧ ((8 * List.length R15_7 = 24) ∧ (8 * List.length R16_0 = 16))))) ∧ ((((8 * List.length R16_1 = 24) ∧ (8 * List.length R16_2 = 8)) ∧ ((8 *
    List.length R16_3 = 40) ∧ (8 * List.length R16_4 = 24))) ∧ (((8 * List.length R16_5 = 8) ∧ (8 * List.length R16_6 = 16)) ∧ ((8 * List.length R16_7 = 32) ∧ ((8 * List.length R16_8 = 16) ∧ (8 * List.length R16_9 = 56))))))) ∧ ((((((8 * List.length R17_0 = 16) ∧ (8 * List.length R17_1 = 24)) ∧ ((8 * List.length R17_2 = 8) ∧ (8 * List.length R17_3 = 24))) ∧ (((8 * List.length R17_4 = 8) ∧ (8 *
    List.length R17_5 = 32)) ∧ ((8 * List.length R17_6 = 32) ∧ ((8 * List.length R17_7 = 24) ∧ (8 * List.length R17_8 = 96))))) ∧ ((((8 * List.length R17_9 = 16) ∧ (8 * List.length R18_0 = 16)) ∧ ((8 * List.length R18_1 = 24) ∧ (8 * List.length R18_2 = 8))) ∧ (((8 * List.length R18_3 = 88) ∧ (8 * List.length R19_0 = 16)) ∧ ((8 * List.length R19_1 = 32) ∧ ((8 * List.length R19_2 = 120) ∧ (8 *
    List.length R20_0 = 8)))))) ∧ (((((8 * List.length R20_1 = 40) ∧ (8 * List.length R20_2 = 8)) ∧ ((8 * List.length R20_3 = 8) ∧ (8 * List.length R20_4 = 32))) ∧ (((8 * List.length R20_5 = 72) ∧ (8 * List.length R20_6 = 8)) ∧ ((8 * List.length R20_7 = 24) ∧ ((8 * List.length R20_8 = 8) ∧ (8 * List.length R21_0 = 16))))) ∧ ((((8 * List.length R21_1 = 24) ∧ (8 * List.length R21_2 = 8)) ∧ ((8 *
    List.length R21_3 = 8) ∧ (8 * List.length R21_4 = 32))) ∧ (((8 * List.length R21_5 = 8) ∧ (8 * List.length R21_6 = 80)) ∧ ((8 * List.length R21_7 = 16) ∧ ((8 * List.length R21_8 = 16) ∧ (8 * List.length R21_9 = 40)))))))) ∧ (((((((8 * List.length R21_10 = 24) ∧ (8 * List.length R21_11 = 40)) ∧ ((8 * List.length R21_12 = 24) ∧ (8 * List.length R22_0 = 16))) ∧ (((8 * List.length R22_1 = 8) ∧ (8 *
    List.length R22_2 = 8)) ∧ ((8 * List.length R22_3 = 80) ∧ (8 * List.length R22_4 = 16)))) ∧ ((((8 * List.length R22_5 = 16) ∧ (8 * List.length R22_6 = 40)) ∧ ((8 * List.length R22_7 = 24) ∧ (8 * List.length R22_8 = 40))) ∧ (((8 * List.length R22_9 = 24) ∧ (8 * List.length R23_0 = 8)) ∧ ((8 * List.length R23_1 = 24) ∧ ((8 * List.length R24_0 = 16) ∧ (8 * List.length R24_1 = 24)))))) ∧ (((((8 *
    List.length R24_2 = 16) ∧ (8 * List.length R24_3 = 16)) ∧ ((8 * List.length R24_4 = 64) ∧ (8 * List.length R24_5 = 8))) ∧ (((8 * List.length R24_6 = 8) ∧ (8 * List.length R25_0 = 8)) ∧ ((8 * List.length R25_1 = 8) ∧ ((8 * List.length R25_2 = 32) ∧ (8 * List.length R25_3 = 48))))) ∧ ((((8 * List.length R25_4 = 8) ∧ (8 * List.length R25_5 = 24)) ∧ ((8 * List.length R25_6 = 8) ∧ (8 * List.length
    R26_0 = 8))) ∧ (((8 * List.length R26_1 = 48) ∧ (8 * List.length R27_0 = 16)) ∧ ((8 * List.length R27_1 = 24) ∧ ((8 * List.length R27_2 = 16) ∧ (8 * List.length R27_3 = 16))))))) ∧ ((((((8 * List.length R27_4 = 56) ∧ (8 * List.length R27_5 = 48)) ∧ ((8 * List.length R27_6 = 8) ∧ (8 * List.length R27_7 = 8))) ∧ (((8 * List.length R28_0 = 24) ∧ (8 * List.length R28_1 = 8)) ∧ ((8 * List.length
    R28_2 = 32) ∧ ((8 * List.length R28_3 = 8) ∧ (8 * List.length R28_4 = 16))))) ∧ ((((8 * List.length R28_5 = 88) ∧ (8 * List.length R28_6 = 16)) ∧ ((8 * List.length R28_7 = 16) ∧ (8 * List.length R28_8 = 16))) ∧ (((8 * List.length R28_9 = 40) ∧ (8 * List.length R28_10 = 16)) ∧ ((8 * List.length R28_11 = 16) ∧ ((8 * List.length R28_12 = 16) ∧ (8 * List.length R28_13 = 16)))))) ∧ (((((8 *
    List.length R28_14 = 16) ∧ (8 * List.length R28_15 = 72)) ∧ ((8 * List.length R28_16 = 16) ∧ (8 * List.length R28_17 = 24))) ∧ (((8 * List.length R28_18 = 16) ∧ (8 * List.length R28_19 = 24)) ∧ ((8 * List.length R28_20 = 24) ∧ ((8 * List.length R29_0 = 8) ∧ (8 * List.length R29_1 = 40))))) ∧ ((((8 * List.length R29_2 = 32) ∧ (8 * List.length R29_3 = 16)) ∧ ((8 * List.length R30_0 = 8) ∧ (8 *
    List.length R30_1 = 8))) ∧ (((8 * List.length R30_2 = 8) ∧ (8 * List.length R30_3 = 32)) ∧ ((8 * List.length R30_4 = 32) ∧ ((8 * List.length R30_5 = 24) ∧ (8 * List.length R30_6 = 16)))))))))) ∧ (((((((((8 * List.length R31_0 = 16) ∧ (8 * List.length R31_1 = 16)) ∧ ((8 * List.length R31_2 = 16) ∧ (8 * List.length R31_3 = 16))) ∧ (((8 * List.length R31_4 = 8) ∧ (8 * List.length R31_5 = 40)) ∧
    ((8 * List.length R31_6 = 72) ∧ (8 * List.length R31_7 = 24)))) ∧ ((((8 * List.length R31_8 = 16) ∧ (8 * List.length R31_9 = 16)) ∧ ((8 * List.length R31_10 = 24) ∧ (8 * List.length R31_11 = 8))) ∧ (((8 * List.length R31_12 = 40) ∧ (8 * List.length R31_13 = 88)) ∧ ((8 * List.length R31_14 = 24) ∧ ((8 * List.length R31_15 = 16) ∧ (8 * List.length R31_16 = 16)))))) ∧ (((((8 * List.length R31_17 =
    40) ∧ (8 * List.length R31_18 = 24)) ∧ ((8 * List.length R31_19 = 8) ∧ (8 * List.length R31_20 = 32))) ∧ (((8 * List.length R31_21 = 40) ∧ (8 * List.length R31_22 = 24)) ∧ ((8 * List.length R31_23 = 96) ∧ ((8 * List.length R31_24 = 40) ∧ (8 * List.length R31_25 = 40))))) ∧ ((((8 * List.length R31_26 = 32) ∧ (8 * List.length R31_27 = 24)) ∧ ((8 * List.length R31_28 = 16) ∧ (8 * List.length R32_0
    = 16))) ∧ (((8 * List.length R32_1 = 24) ∧ (8 * List.length R32_2 = 32)) ∧ ((8 * List.length R32_3 = 48) ∧ ((8 * List.length R32_4 = 24) ∧ (8 * List.length R32_5 = 24))))))) ∧ ((((((8 * List.length R32_6 = 32) ∧ (8 * List.length R32_7 = 40)) ∧ ((8 * List.length R32_8 = 24) ∧ (8 * List.length R32_9 = 24))) ∧ (((8 * List.length R32_10 = 24) ∧ (8 * List.length R33_0 = 8)) ∧ ((8 * List.length R33_1
    = 24) ∧ ((8 * List.length R33_2 = 8) ∧ (8 * List.length R33_3 = 16))))) ∧ ((((8 * List.length R33_4 = 32) ∧ (8 * List.length R33_5 = 8)) ∧ ((8 * List.length R33_6 = 16) ∧ (8 * List.length R33_7 = 8))) ∧ (((8 * List.length R34_0 = 16) ∧ (8 * List.length R34_1 = 8)) ∧ ((8 * List.length R34_2 = 8) ∧ ((8 * List.length R34_3 = 8) ∧ (8 * List.length R34_4 = 32)))))) ∧ (((((8 * List.length R34_5 =
    120) ∧ (8 * List.length R34_6 = 120)) ∧ ((8 * List.length R34_7 = 24) ∧ (8 * List.length R34_8 = 32))) ∧ (((8 * List.length R35_0 = 16) ∧ (8 * List.length R35_1 = 24)) ∧ ((8 * List.length R35_2 = 8) ∧ ((8 * List.length R35_3 = 280) ∧ (8 * List.length R35_4 = 8))))) ∧ ((((8 * List.length R35_5 = 8) ∧ (8 * List.length R35_6 = 40)) ∧ ((8 * List.length R35_7 = 56) ∧ (8 * List.length R35_8 = 16))) ∧
    (((8 * List.length R35_9 = 16) ∧ (8 * List.length R35_10 = 24)) ∧ ((8 * List.length R35_11 = 8) ∧ ((8 * List.length R36_0 = 16) ∧ (8 * List.length R36_1 = 8)))))))) ∧ (((((((8 * List.length R36_2 = 8) ∧ (8 * List.length R36_3 = 40)) ∧ ((8 * List.length R36_4 = 72) ∧ (8 * List.length R36_5 = 24))) ∧ (((8 * List.length R36_6 = 16) ∧ (8 * List.length R37_0 = 16)) ∧ ((8 * List.length R37_1 = 8) ∧
    (8 * List.length R37_2 = 8)))) ∧ ((((8 * List.length R37_3 = 40) ∧ (8 * List.length R37_4 = 56)) ∧ ((8 * List.length R37_5 = 24) ∧ (8 * List.length R37_6 = 16))) ∧ (((8 * List.length R37_7 = 24) ∧ (8 * List.length R37_8 = 24)) ∧ ((8 * List.length R38_0 = 16) ∧ ((8 * List.length R38_1 = 64) ∧ (8 * List.length R38_2 = 96)))))) ∧ (((((8 * List.length R38_3 = 72) ∧ (8 * List.length R38_4 = 56)) ∧
    ((8 * List.length R38_5 = 64) ∧ (8 * List.length R38_6 = 80))) ∧ (((8 * List.length R38_7 = 72) ∧ (8 * List.length R38_8 = 104)) ∧ ((8 * List.length R38_9 = 8) ∧ ((8 * List.length R38_10 = 32) ∧ (8 * List.length R38_11 = 8))))) ∧ ((((8 * List.length R38_12 = 32) ∧ (8 * List.length R38_13 = 40)) ∧ ((8 * List.length R38_14 = 8) ∧ (8 * List.length R38_15 = 16))) ∧ (((8 * List.length R38_16 = 264)
    ∧ (8 * List.length R38_17 = 8)) ∧ ((8 * List.length R38_18 = 32) ∧ ((8 * List.length R38_19 = 8) ∧ (8 * List.length R38_20 = 32))))))) ∧ ((((((8 * List.length R38_21 = 24) ∧ (8 * List.length R38_22 = 16)) ∧ ((8 * List.length R38_23 = 16) ∧ (8 * List.length R38_24 = 16))) ∧ (((8 * List.length R38_25 = 8) ∧ (8 * List.length R39_0 = 24)) ∧ ((8 * List.length R39_1 = 16) ∧ ((8 * List.length R39_2 =
    32) ∧ (8 * List.length R39_3 = 8))))) ∧ ((((8 * List.length R39_4 = 32) ∧ (8 * List.length R39_5 = 56)) ∧ ((8 * List.length R39_6 = 64) ∧ (8 * List.length R39_7 = 16))) ∧ (((8 * List.length R39_8 = 40) ∧ (8 * List.length R40_0 = 16)) ∧ ((8 * List.length R40_1 = 8) ∧ ((8 * List.length R40_2 = 8) ∧ (8 * List.length R40_3 = 8)))))) ∧ (((((8 * List.length R40_4 = 16) ∧ (8 * List.length R40_5 = 56))
    ∧ ((8 * List.length R40_6 = 16) ∧ (8 * List.length R40_7 = 16))) ∧ (((8 * List.length R41_0 = 8) ∧ (8 * List.length R41_1 = 24)) ∧ ((8 * List.length R41_2 = 8) ∧ ((8 * List.length R41_3 = 16) ∧ (8 * List.length R41_4 = 56))))) ∧ ((((8 * List.length R41_5 = 16) ∧ (8 * List.length R41_6 = 16)) ∧ ((8 * List.length R42_0 = 8) ∧ (8 * List.length R42_1 = 32))) ∧ (((8 * List.length R42_2 = 24) ∧ (8 *
    List.length R42_3 = 8)) ∧ ((8 * List.length R42_4 = 16) ∧ ((8 * List.length R42_5 = 72) ∧ (8 * List.length R42_6 = 16))))))))) ∧ ((((((((8 * List.length R42_7 = 16) ∧ (8 * List.length R43_0 = 8)) ∧ ((8 * List.length R43_1 = 32) ∧ (8 * List.length R43_2 = 24))) ∧ (((8 * List.length R43_3 = 8) ∧ (8 * List.length R43_4 = 16)) ∧ ((8 * List.length R43_5 = 112) ∧ (8 * List.length R43_6 = 16)))) ∧
    ((((8 * List.length R43_7 = 16) ∧ (8 * List.length R44_0 = 32)) ∧ ((8 * List.length R44_1 = 16) ∧ (8 * List.length R45_0 = 16))) ∧ (((8 * List.length R45_1 = 16) ∧ (8 * List.length R46_0 = 8)) ∧ ((8 * List.length R46_1 = 80) ∧ ((8 * List.length R47_0 = 8) ∧ (8 * List.length R47_1 = 88)))))) ∧ (((((8 * List.length R48_0 = 8) ∧ (8 * List.length R48_1 = 72)) ∧ ((8 * List.length R49_0 = 8) ∧ (8 *
    List.length R49_1 = 64))) ∧ (((8 * List.length R49_2 = 8) ∧ (8 * List.length R49_3 = 32)) ∧ ((8 * List.length R49_4 = 216) ∧ ((8 * List.length R50_0 = 8) ∧ (8 * List.length R50_1 = 8))))) ∧ ((((8 * List.length R50_2 = 8) ∧ (8 * List.length R50_3 = 32)) ∧ ((8 * List.length R50_4 = 112) ∧ (8 * List.length R50_5 = 24))) ∧ (((8 * List.length R50_6 = 16) ∧ (8 * List.length R51_0 = 16)) ∧ ((8 *
    List.length R51_1 = 16) ∧ ((8 * List.length R51_2 = 8) ∧ (8 * List.length R51_3 = 32))))))) ∧ ((((((8 * List.length R51_4 = 64) ∧ (8 * List.length R51_5 = 24)) ∧ ((8 * List.length R51_6 = 16) ∧ (8 * List.length R51_7 = 24))) ∧ (((8 * List.length R51_8 = 40) ∧ (8 * List.length R51_9 = 24)) ∧ ((8 * List.length R51_10 = 96) ∧ ((8 * List.length R51_11 = 64) ∧ (8 * List.length R51_12 = 64))))) ∧
    ((((8 * List.length R51_13 = 32) ∧ (8 * List.length R51_14 = 24)) ∧ ((8 * List.length R51_15 = 16) ∧ (8 * List.length R52_0 = 8))) ∧ (((8 * List.length R52_1 = 8) ∧ (8 * List.length R52_2 = 32)) ∧ ((8 * List.length R52_3 = 128) ∧ ((8 * List.length R52_4 = 8) ∧ (8 * List.length R52_5 = 24)))))) ∧ (((((8 * List.length R52_6 = 8) ∧ (8 * List.length R53_0 = 8)) ∧ ((8 * List.length R53_1 = 16) ∧ (8
    * List.length R53_2 = 80))) ∧ (((8 * List.length R53_3 = 16) ∧ (8 * List.length R53_4 = 88)) ∧ ((8 * List.length R53_5 = 72) ∧ ((8 * List.length R54_0 = 16) ∧ (8 * List.length R54_1 = 64))))) ∧ ((((8 * List.length R54_2 = 8) ∧ (8 * List.length R54_3 = 64)) ∧ ((8 * List.length R54_4 = 8) ∧ (8 * List.length R54_5 = 8))) ∧ (((8 * List.length R54_6 = 40) ∧ (8 * List.length R54_7 = 104)) ∧ ((8 *
    List.length R54_8 = 8) ∧ ((8 * List.length R54_9 = 24) ∧ (8 * List.length R54_10 = 104)))))))) ∧ (((((((8 * List.length R54_11 = 8) ∧ (8 * List.length R54_12 = 24)) ∧ ((8 * List.length R54_13 = 40) ∧ (8 * List.length R54_14 = 24))) ∧ (((8 * List.length R54_15 = 40) ∧ (8 * List.length R54_16 = 80)) ∧ ((8 * List.length R55_0 = 16) ∧ ((8 * List.length R55_1 = 32) ∧ (8 * List.length R56_0 = 8)))))
    ∧ ((((8 * List.length R56_1 = 32) ∧ (8 * List.length R56_2 = 24)) ∧ ((8 * List.length R56_3 = 8) ∧ (8 * List.length R56_4 = 16))) ∧ (((8 * List.length R56_5 = 128) ∧ (8 * List.length R56_6 = 16)) ∧ ((8 * List.length R56_7 = 16) ∧ ((8 * List.length R57_0 = 8) ∧ (8 * List.length R57_1 = 32)))))) ∧ (((((8 * List.length R57_2 = 16) ∧ (8 * List.length R57_3 = 8)) ∧ ((8 * List.length R57_4 = 24) ∧ (8
    * List.length R57_5 = 32))) ∧ (((8 * List.length R57_6 = 96) ∧ (8 * List.length R57_7 = 16)) ∧ ((8 * List.length R57_8 = 16) ∧ ((8 * List.length R57_9 = 64) ∧ (8 * List.length R57_10 = 16))))) ∧ ((((8 * List.length R57_11 = 32) ∧ (8 * List.length R57_12 = 24)) ∧ ((8 * List.length R57_13 = 32) ∧ (8 * List.length R57_14 = 16))) ∧ (((8 * List.length R57_15 = 24) ∧ (8 * List.length R58_0 = 8)) ∧
    ((8 * List.length R58_1 = 24) ∧ ((8 * List.length R58_2 = 8) ∧ (8 * List.length R58_3 = 16))))))) ∧ ((((((8 * List.length R58_4 = 72) ∧ (8 * List.length R58_5 = 8)) ∧ ((8 * List.length R58_6 = 16) ∧ (8 * List.length R58_7 = 8))) ∧ (((8 * List.length R59_0 = 8) ∧ (8 * List.length R59_1 = 32)) ∧ ((8 * List.length R59_2 = 24) ∧ ((8 * List.length R59_3 = 8) ∧ (8 * List.length R59_4 = 16))))) ∧
    ((((8 * List.length R59_5 = 104) ∧ (8 * List.length R59_6 = 16)) ∧ ((8 * List.length R59_7 = 16) ∧ (8 * List.length R60_0 = 8))) ∧ (((8 * List.length R60_1 = 8) ∧ (8 * List.length R60_2 = 32)) ∧ ((8 * List.length R60_3 = 72) ∧ ((8 * List.length R60_4 = 8) ∧ (8 * List.length R60_5 = 24)))))) ∧ (((((8 * List.length R60_6 = 8) ∧ (8 * List.length R61_0 = 8)) ∧ ((8 * List.length R61_1 = 64) ∧ (8 *
    List.length R61_2 = 8))) ∧ (((8 * List.length R61_3 = 32) ∧ (8 * List.length R61_4 = 216)) ∧ ((8 * List.length R62_0 = 8) ∧ ((8 * List.length R62_1 = 40) ∧ (8 * List.length R63_0 = 16))))) ∧ ((((8 * List.length R63_1 = 88) ∧ (8 * List.length R64_0 = 8)) ∧ ((8 * List.length R64_1 = 24) ∧ (8 * List.length R64_2 = 8))) ∧ (((8 * List.length R64_3 = 16) ∧ (8 * List.length R64_4 = 48)) ∧ ((8 *
    List.length R64_5 = 16) ∧ ((8 * List.length R64_6 = 16) ∧ (8 * List.length R64_7 = 8)))))))))) := ⟨⟨⟨⟨⟨⟨⟨⟨⟨rfl, rfl⟩, ⟨rfl, rfl⟩⟩, ⟨⟨rfl, rfl⟩, ⟨rfl, rfl⟩⟩⟩, ⟨⟨⟨rfl, rfl⟩, ⟨rfl, rfl⟩⟩, ⟨⟨rfl, rfl⟩, ⟨rfl, ⟨rfl, rfl⟩⟩⟩⟩⟩, ⟨⟨⟨⟨rfl, rfl⟩, ⟨rfl, rfl⟩⟩, ⟨⟨rfl, rfl⟩, ⟨rfl, ⟨rfl, rfl⟩⟩⟩⟩, ⟨⟨⟨rfl, rfl⟩, ⟨rfl, rfl⟩⟩, ⟨⟨rfl, rfl⟩, ⟨rfl, ⟨rfl, rfl⟩⟩⟩⟩⟩⟩, ⟨⟨⟨⟨⟨rfl, rfl⟩, ⟨rfl, rfl⟩⟩, ⟨⟨rfl, rfl⟩, ⟨rfl,
    ⟨rfl, rfl⟩⟩⟩⟩, ⟨⟨⟨rfl, rfl⟩, ⟨rfl, rfl⟩⟩, ⟨⟨rfl, rfl⟩, ⟨rfl, ⟨rfl, rfl⟩⟩⟩⟩⟩, ⟨⟨⟨⟨rfl, rfl⟩, ⟨rfl, rfl⟩⟩, ⟨⟨rfl, rfl⟩, ⟨rfl, ⟨rfl, rfl⟩⟩⟩⟩, ⟨⟨⟨rfl, rfl⟩, ⟨rfl, rfl⟩⟩, ⟨⟨rfl, rfl⟩, ⟨rfl, ⟨rfl, rfl⟩⟩⟩⟩⟩⟩⟩, ⟨⟨⟨⟨⟨⟨rfl, rfl⟩, ⟨rfl, rfl⟩⟩, ⟨⟨rfl, rfl⟩, ⟨rfl, rfl⟩⟩⟩, ⟨⟨⟨rfl, rfl⟩, ⟨rfl, rfl⟩⟩, ⟨⟨rfl, rfl⟩, ⟨rfl, ⟨rfl, rfl⟩⟩⟩⟩⟩, ⟨⟨⟨⟨rfl, rfl⟩, ⟨rfl, rfl⟩⟩, ⟨⟨rfl, rfl⟩, ⟨rfl, ⟨rfl, rfl⟩⟩⟩⟩, ⟨⟨⟨rfl, rfl⟩,
    ⟨rfl, rfl⟩⟩, ⟨⟨rfl, rfl⟩, ⟨rfl, ⟨rfl, rfl⟩⟩⟩⟩⟩⟩, ⟨⟨⟨⟨⟨rfl, rfl⟩, ⟨rfl, rfl⟩⟩, ⟨⟨rfl, rfl⟩, ⟨rfl, ⟨rfl, rfl⟩⟩⟩⟩, ⟨⟨⟨rfl, rfl⟩, ⟨rfl, rfl⟩⟩, ⟨⟨rfl, rfl⟩, ⟨rfl, ⟨rfl, rfl⟩⟩⟩⟩⟩, ⟨⟨⟨⟨rfl, rfl⟩, ⟨rfl, rfl⟩⟩, ⟨⟨rfl, rfl⟩, ⟨rfl, ⟨rfl, rfl⟩⟩⟩⟩, ⟨⟨⟨rfl, rfl⟩, ⟨rfl, rfl⟩⟩, ⟨⟨rfl, rfl⟩, ⟨rfl, ⟨rfl, rfl⟩⟩⟩⟩⟩⟩⟩⟩, ⟨⟨⟨⟨⟨⟨⟨rfl, rfl⟩, ⟨rfl, rfl⟩⟩, ⟨⟨rfl, rfl⟩, ⟨rfl, rfl⟩⟩⟩, ⟨⟨⟨rfl, rfl⟩, ⟨rfl, rfl⟩⟩, ⟨⟨rfl,
    rfl⟩, ⟨rfl, ⟨rfl, rfl⟩⟩⟩⟩⟩, ⟨⟨⟨⟨rfl, rfl⟩, ⟨rfl, rfl⟩⟩, ⟨⟨rfl, rfl⟩, ⟨rfl, ⟨rfl, rfl⟩⟩⟩⟩, ⟨⟨⟨rfl, rfl⟩, ⟨rfl, rfl⟩⟩, ⟨⟨rfl, rfl⟩, ⟨rfl, ⟨rfl, rfl⟩⟩⟩⟩⟩⟩, ⟨⟨⟨⟨⟨rfl, rfl⟩, ⟨rfl, rfl⟩⟩, ⟨⟨rfl, rfl⟩, ⟨rfl, ⟨rfl, rfl⟩⟩⟩⟩, ⟨⟨⟨rfl, rfl⟩, ⟨rfl, rfl⟩⟩, ⟨⟨rfl, rfl⟩, ⟨rfl, ⟨rfl, rfl⟩⟩⟩⟩⟩, ⟨⟨⟨⟨rfl, rfl⟩, ⟨rfl, rfl⟩⟩, ⟨⟨rfl, rfl⟩, ⟨rfl, ⟨rfl, rfl⟩⟩⟩⟩, ⟨⟨⟨rfl, rfl⟩, ⟨rfl, rfl⟩⟩, ⟨⟨rfl, rfl⟩, ⟨rfl, ⟨rfl,
    rfl⟩⟩⟩⟩⟩⟩⟩, ⟨⟨⟨⟨⟨⟨rfl, rfl⟩, ⟨rfl, rfl⟩⟩, ⟨⟨rfl, rfl⟩, ⟨rfl, rfl⟩⟩⟩, ⟨⟨⟨rfl, rfl⟩, ⟨rfl, rfl⟩⟩, ⟨⟨rfl, rfl⟩, ⟨rfl, ⟨rfl, rfl⟩⟩⟩⟩⟩, ⟨⟨⟨⟨rfl, rfl⟩, ⟨rfl, rfl⟩⟩, ⟨⟨rfl, rfl⟩, ⟨rfl, ⟨rfl, rfl⟩⟩⟩⟩, ⟨⟨⟨rfl, rfl⟩, ⟨rfl, rfl⟩⟩, ⟨⟨rfl, rfl⟩, ⟨rfl, ⟨rfl, rfl⟩⟩⟩⟩⟩⟩, ⟨⟨⟨⟨⟨rfl, rfl⟩, ⟨rfl, rfl⟩⟩, ⟨⟨rfl, rfl⟩, ⟨rfl, ⟨rfl, rfl⟩⟩⟩⟩, ⟨⟨⟨rfl, rfl⟩, ⟨rfl, rfl⟩⟩, ⟨⟨rfl, rfl⟩, ⟨rfl, ⟨rfl, rfl⟩⟩⟩⟩⟩, ⟨⟨⟨⟨rfl, rfl⟩,
    ⟨rfl, rfl⟩⟩, ⟨⟨rfl, rfl⟩, ⟨rfl, ⟨rfl, rfl⟩⟩⟩⟩, ⟨⟨⟨rfl, rfl⟩, ⟨rfl, rfl⟩⟩, ⟨⟨rfl, rfl⟩, ⟨rfl, ⟨rfl, rfl⟩⟩⟩⟩⟩⟩⟩⟩⟩, ⟨⟨⟨⟨⟨⟨⟨⟨rfl, rfl⟩, ⟨rfl, rfl⟩⟩, ⟨⟨rfl, rfl⟩, ⟨rfl, rfl⟩⟩⟩, ⟨⟨⟨rfl, rfl⟩, ⟨rfl, rfl⟩⟩, ⟨⟨rfl, rfl⟩, ⟨rfl, ⟨rfl, rfl⟩⟩⟩⟩⟩, ⟨⟨⟨⟨rfl, rfl⟩, ⟨rfl, rfl⟩⟩, ⟨⟨rfl, rfl⟩, ⟨rfl, ⟨rfl, rfl⟩⟩⟩⟩, ⟨⟨⟨rfl, rfl⟩, ⟨rfl, rfl⟩⟩, ⟨⟨rfl, rfl⟩, ⟨rfl, ⟨rfl, rfl⟩⟩⟩⟩⟩⟩, ⟨⟨⟨⟨⟨rfl, rfl⟩, ⟨rfl, rfl⟩⟩, ⟨⟨rfl,
    rfl⟩, ⟨rfl, ⟨rfl, rfl⟩⟩⟩⟩, ⟨⟨⟨rfl, rfl⟩, ⟨rfl, rfl⟩⟩, ⟨⟨rfl, rfl⟩, ⟨rfl, ⟨rfl, rfl⟩⟩⟩⟩⟩, ⟨⟨⟨⟨rfl, rfl⟩, ⟨rfl, rfl⟩⟩, ⟨⟨rfl, rfl⟩, ⟨rfl, ⟨rfl, rfl⟩⟩⟩⟩, ⟨⟨⟨rfl, rfl⟩, ⟨rfl, rfl⟩⟩, ⟨⟨rfl, rfl⟩, ⟨rfl, ⟨rfl, rfl⟩⟩⟩⟩⟩⟩⟩, ⟨⟨⟨⟨⟨⟨rfl, rfl⟩, ⟨rfl, rfl⟩⟩, ⟨⟨rfl, rfl⟩, ⟨rfl, rfl⟩⟩⟩, ⟨⟨⟨rfl, rfl⟩, ⟨rfl, rfl⟩⟩, ⟨⟨rfl, rfl⟩, ⟨rfl, ⟨rfl, rfl⟩⟩⟩⟩⟩, ⟨⟨⟨⟨rfl, rfl⟩, ⟨rfl, rfl⟩⟩, ⟨⟨rfl, rfl⟩, ⟨rfl, ⟨rfl, rfl⟩⟩⟩⟩,
    ⟨⟨⟨rfl, rfl⟩, ⟨rfl, rfl⟩⟩, ⟨⟨rfl, rfl⟩, ⟨rfl, ⟨rfl, rfl⟩⟩⟩⟩⟩⟩, ⟨⟨⟨⟨⟨rfl, rfl⟩, ⟨rfl, rfl⟩⟩, ⟨⟨rfl, rfl⟩, ⟨rfl, ⟨rfl, rfl⟩⟩⟩⟩, ⟨⟨⟨rfl, rfl⟩, ⟨rfl, rfl⟩⟩, ⟨⟨rfl, rfl⟩, ⟨rfl, ⟨rfl, rfl⟩⟩⟩⟩⟩, ⟨⟨⟨⟨rfl, rfl⟩, ⟨rfl, rfl⟩⟩, ⟨⟨rfl, rfl⟩, ⟨rfl, ⟨rfl, rfl⟩⟩⟩⟩, ⟨⟨⟨rfl, rfl⟩, ⟨rfl, rfl⟩⟩, ⟨⟨rfl, rfl⟩, ⟨rfl, ⟨rfl, rfl⟩⟩⟩⟩⟩⟩⟩⟩, ⟨⟨⟨⟨⟨⟨⟨rfl, rfl⟩, ⟨rfl, rfl⟩⟩, ⟨⟨rfl, rfl⟩, ⟨rfl, rfl⟩⟩⟩, ⟨⟨⟨rfl, rfl⟩, ⟨rfl,
    rfl⟩⟩, ⟨⟨rfl, rfl⟩, ⟨rfl, ⟨rfl, rfl⟩⟩⟩⟩⟩, ⟨⟨⟨⟨rfl, rfl⟩, ⟨rfl, rfl⟩⟩, ⟨⟨rfl, rfl⟩, ⟨rfl, ⟨rfl, rfl⟩⟩⟩⟩, ⟨⟨⟨rfl, rfl⟩, ⟨rfl, rfl⟩⟩, ⟨⟨rfl, rfl⟩, ⟨rfl, ⟨rfl, rfl⟩⟩⟩⟩⟩⟩, ⟨⟨⟨⟨⟨rfl, rfl⟩, ⟨rfl, rfl⟩⟩, ⟨⟨rfl, rfl⟩, ⟨rfl, ⟨rfl, rfl⟩⟩⟩⟩, ⟨⟨⟨rfl, rfl⟩, ⟨rfl, rfl⟩⟩, ⟨⟨rfl, rfl⟩, ⟨rfl, ⟨rfl, rfl⟩⟩⟩⟩⟩, ⟨⟨⟨⟨rfl, rfl⟩, ⟨rfl, rfl⟩⟩, ⟨⟨rfl, rfl⟩, ⟨rfl, ⟨rfl, rfl⟩⟩⟩⟩, ⟨⟨⟨rfl, rfl⟩, ⟨rfl, rfl⟩⟩, ⟨⟨rfl, rfl⟩,
    ⟨rfl, ⟨rfl, rfl⟩⟩⟩⟩⟩⟩⟩, ⟨⟨⟨⟨⟨⟨rfl, rfl⟩, ⟨rfl, rfl⟩⟩, ⟨⟨rfl, rfl⟩, ⟨rfl, ⟨rfl, rfl⟩⟩⟩⟩, ⟨⟨⟨rfl, rfl⟩, ⟨rfl, rfl⟩⟩, ⟨⟨rfl, rfl⟩, ⟨rfl, ⟨rfl, rfl⟩⟩⟩⟩⟩, ⟨⟨⟨⟨rfl, rfl⟩, ⟨rfl, rfl⟩⟩, ⟨⟨rfl, rfl⟩, ⟨rfl, ⟨rfl, rfl⟩⟩⟩⟩, ⟨⟨⟨rfl, rfl⟩, ⟨rfl, rfl⟩⟩, ⟨⟨rfl, rfl⟩, ⟨rfl, ⟨rfl, rfl⟩⟩⟩⟩⟩⟩, ⟨⟨⟨⟨⟨rfl, rfl⟩, ⟨rfl, rfl⟩⟩, ⟨⟨rfl, rfl⟩, ⟨rfl, ⟨rfl, rfl⟩⟩⟩⟩, ⟨⟨⟨rfl, rfl⟩, ⟨rfl, rfl⟩⟩, ⟨⟨rfl, rfl⟩, ⟨rfl, ⟨rfl,
    rfl⟩⟩⟩⟩⟩, ⟨⟨⟨⟨rfl, rfl⟩, ⟨rfl, rfl⟩⟩, ⟨⟨rfl, rfl⟩, ⟨rfl, ⟨rfl, rfl⟩⟩⟩⟩, ⟨⟨⟨rfl, rfl⟩, ⟨rfl, rfl⟩⟩, ⟨⟨rfl, rfl⟩, ⟨rfl, ⟨rfl, rfl⟩⟩⟩⟩⟩⟩⟩⟩⟩⟩
theorem RS : (((((XF.res F3 = [(6, none)]) ∧ ((XF.res F4 = [(6, none)]) ∧ (XF.res F5 = [(4, none)]))) ∧ (((XF.res F6 = [(6, none)]) ∧ (XF.res F7 = [(6, none)])) ∧ ((XF.res F8 = [(6, none)]) ∧ (XF.res F9 = [(4, none)])))) ∧ ((((XF.res F10 = [(0, none)]) ∧ (XF.res F11 = [(4, none)])) ∧ ((XF.res F12 = [(6, none)]) ∧ (XF.res F13 = [(6, none)]))) ∧ (((XF.res F14 = [(6, some (2, true)), (7, none)]) ∧
    (XF.res F15 = [(6, some (2, true)), (7, none)])) ∧ ((XF.res F16 = [(4, none)]) ∧ (XF.res F17 = [(4, none)]))))) ∧ (((((XF.res F18 = [(4, none)]) ∧ (XF.res F19 = [(4, none)])) ∧ ((XF.res F20 = [(4, none)]) ∧ (XF.res F21 = [(4, none)]))) ∧ (((XF.res F22 = [(4, none)]) ∧ (XF.res F23 = [(2, some (5, true))])) ∧ ((XF.res F24 = [(2, none)]) ∧ (XF.res F25 = [(4, none)])))) ∧ ((((XF.res F26 = [(2, some
    (5, true))]) ∧ (XF.res F27 = [(2, none)])) ∧ ((XF.res F28 = [(4, none)]) ∧ (XF.res F29 = [(4, none)]))) ∧ (((XF.res F30 = [(2, none)]) ∧ (XF.res F31 = [(6, none)])) ∧ ((XF.res F32 = [(6, some (2, true)), (7, none)]) ∧ (XF.res F33 = [(2, none)])))))) ∧ (((((XF.res F34 = [(4, none), (5, none)]) ∧ ((XF.res F35 = [(2, none)]) ∧ (XF.res F36 = [(2, none)]))) ∧ (((XF.res F37 = [(2, none)]) ∧ (XF.res
    F38 = [(2, none)])) ∧ ((XF.res F39 = [(2, none), (3, none)]) ∧ (XF.res F40 = [(4, none)])))) ∧ ((((XF.res F41 = [(3, none)]) ∧ (XF.res F42 = [(3, none)])) ∧ ((XF.res F43 = [(4, none)]) ∧ (XF.res F44 = [(6, none)]))) ∧ (((XF.res F45 = [(2, none)]) ∧ (XF.res F46 = [(3, none)])) ∧ ((XF.res F47 = [(3, none)]) ∧ (XF.res F48 = [(3, none)]))))) ∧ (((((XF.res F49 = [(4, none)]) ∧ (XF.res F50 = [(4,
    none)])) ∧ ((XF.res F51 = [(6, none)]) ∧ (XF.res F52 = [(4, none)]))) ∧ (((XF.res F53 = [(6, none)]) ∧ (XF.res F54 = [(2, none)])) ∧ ((XF.res F55 = [(4, none)]) ∧ (XF.res F56 = [(4, none)])))) ∧ ((((XF.res F57 = [(5, none)]) ∧ (XF.res F58 = [(4, none)])) ∧ ((XF.res F59 = [(3, none)]) ∧ (XF.res F60 = [(4, none)]))) ∧ (((XF.res F61 = [(4, none)]) ∧ (XF.res F62 = [(4, none)])) ∧ ((XF.res F63 =
    [(3, none)]) ∧ (XF.res F64 = [(4, none)])))))) := ⟨⟨⟨⟨⟨rfl, ⟨rfl, rfl⟩⟩, ⟨⟨rfl, rfl⟩, ⟨rfl, rfl⟩⟩⟩, ⟨⟨⟨rfl, rfl⟩, ⟨rfl, rfl⟩⟩, ⟨⟨rfl, rfl⟩, ⟨rfl, rfl⟩⟩⟩⟩, ⟨⟨⟨⟨rfl, rfl⟩, ⟨rfl, rfl⟩⟩, ⟨⟨rfl, rfl⟩, ⟨rfl, rfl⟩⟩⟩, ⟨⟨⟨rfl, rfl⟩, ⟨rfl, rfl⟩⟩, ⟨⟨rfl, rfl⟩, ⟨rfl, rfl⟩⟩⟩⟩⟩, ⟨⟨⟨⟨rfl, ⟨rfl, rfl⟩⟩, ⟨⟨rfl, rfl⟩, ⟨rfl, rfl⟩⟩⟩, ⟨⟨⟨rfl, rfl⟩, ⟨rfl, rfl⟩⟩, ⟨⟨rfl, rfl⟩, ⟨rfl, rfl⟩⟩⟩⟩, ⟨⟨⟨⟨rfl, rfl⟩, ⟨rfl, rfl⟩⟩,
    ⟨⟨rfl, rfl⟩, ⟨rfl, rfl⟩⟩⟩, ⟨⟨⟨rfl, rfl⟩, ⟨rfl, rfl⟩⟩, ⟨⟨rfl, rfl⟩, ⟨rfl, rfl⟩⟩⟩⟩⟩⟩
theorem NT : (((((XF.nt F3 = 21) ∧ ((XF.nt F4 = 56) ∧ (XF.nt F5 = 17))) ∧ (((XF.nt F6 = 80) ∧ (XF.nt F7 = 105)) ∧ ((XF.nt F8 = 146) ∧ (XF.nt F9 = 73)))) ∧ ((((XF.nt F10 = 105) ∧ (XF.nt F11 = 26)) ∧ ((XF.nt F12 = 43) ∧ (XF.nt F13 = 48))) ∧ (((XF.nt F14 = 20) ∧ (XF.nt F15 = 34)) ∧ ((XF.nt F16 = 29) ∧ (XF.nt F17 = 34))))) ∧ (((((XF.nt F18 = 18) ∧ (XF.nt F19 = 23)) ∧ ((XF.nt F20 = 26) ∧ (XF.nt F21 =
    39))) ∧ (((XF.nt F22 = 32) ∧ (XF.nt F23 = 5)) ∧ ((XF.nt F24 = 17) ∧ (XF.nt F25 = 18)))) ∧ ((((XF.nt F26 = 8) ∧ (XF.nt F27 = 22)) ∧ ((XF.nt F28 = 58) ∧ (XF.nt F29 = 14))) ∧ (((XF.nt F30 = 15) ∧ (XF.nt F31 = 103)) ∧ ((XF.nt F32 = 39) ∧ (XF.nt F33 = 14)))))) ∧ (((((XF.nt F34 = 45) ∧ ((XF.nt F35 = 59) ∧ (XF.nt F36 = 21))) ∧ (((XF.nt F37 = 25) ∧ (XF.nt F38 = 138)) ∧ ((XF.nt F39 = 32) ∧ (XF.nt F40 =
    18)))) ∧ ((((XF.nt F41 = 18) ∧ (XF.nt F42 = 24)) ∧ ((XF.nt F43 = 30) ∧ (XF.nt F44 = 8))) ∧ (((XF.nt F45 = 4) ∧ (XF.nt F46 = 13)) ∧ ((XF.nt F47 = 14) ∧ (XF.nt F48 = 12))))) ∧ (((((XF.nt F49 = 43) ∧ (XF.nt F50 = 27)) ∧ ((XF.nt F51 = 68) ∧ (XF.nt F52 = 28))) ∧ (((XF.nt F53 = 38) ∧ (XF.nt F54 = 76)) ∧ ((XF.nt F55 = 8) ∧ (XF.nt F56 = 32)))) ∧ ((((XF.nt F57 = 56) ∧ (XF.nt F58 = 21)) ∧ ((XF.nt F59 =
    28) ∧ (XF.nt F60 = 21))) ∧ (((XF.nt F61 = 43) ∧ (XF.nt F62 = 9)) ∧ ((XF.nt F63 = 14) ∧ (XF.nt F64 = 19)))))) := ⟨⟨⟨⟨⟨rfl, ⟨rfl, rfl⟩⟩, ⟨⟨rfl, rfl⟩, ⟨rfl, rfl⟩⟩⟩, ⟨⟨⟨rfl, rfl⟩, ⟨rfl, rfl⟩⟩, ⟨⟨rfl, rfl⟩, ⟨rfl, rfl⟩⟩⟩⟩, ⟨⟨⟨⟨rfl, rfl⟩, ⟨rfl, rfl⟩⟩, ⟨⟨rfl, rfl⟩, ⟨rfl, rfl⟩⟩⟩, ⟨⟨⟨rfl, rfl⟩, ⟨rfl, rfl⟩⟩, ⟨⟨rfl, rfl⟩, ⟨rfl, rfl⟩⟩⟩⟩⟩, ⟨⟨⟨⟨rfl, ⟨rfl, rfl⟩⟩, ⟨⟨rfl, rfl⟩, ⟨rfl, rfl⟩⟩⟩, ⟨⟨⟨rfl, rfl⟩, ⟨rfl,
    rfl⟩⟩, ⟨⟨rfl, rfl⟩, ⟨rfl, rfl⟩⟩⟩⟩, ⟨⟨⟨⟨rfl, rfl⟩, ⟨rfl, rfl⟩⟩, ⟨⟨rfl, rfl⟩, ⟨rfl, rfl⟩⟩⟩, ⟨⟨⟨rfl, rfl⟩, ⟨rfl, rfl⟩⟩, ⟨⟨rfl, rfl⟩, ⟨rfl, rfl⟩⟩⟩⟩⟩⟩
theorem follows : Try.prog.follows .mixedOrders = true := by kernel_rfl
theorem run_ok (n : Nat) : CallsOk Try.prog (runF xp md n) := runF_ok fnsOk (drawsOk follows md) n
end Go.Proofs.Ytpdamhhaepcffaa.AE
