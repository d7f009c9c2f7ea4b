/-
  The functions of this seat as AE's. Printed by xp.py out of the program's form; checked here by the kernel (fnsOk).
-/
import Derived.Test.YtoemdhcnfmkkaaaAE19
import Derived.Test.YtoemdhcnfmkkaaaChecked
set_option linter.unusedVariables false
set_option maxRecDepth 100000
namespace Go.Proofs.Ytoemdhcnfmkkaaa.AE
open Go
/-- codesearch/codesearchlaw15.TypesSupers -/
@[reducible] def R3_0 : List XO := [⟨(some 6), none, .mv (.c (.bool false)), []⟩]
@[reducible] def R3_1 : List XO := [⟨(some 7), none, .call 10 [], []⟩, ⟨(some 8), none, .un .not (.t 7), [0]⟩]
@[reducible] def R3_2 : List XO := [⟨(some 6), none, .mv (.c (.bool false)), []⟩]
@[reducible] def R3_3 : List XO := [⟨(some 9), none, .mv (.t 0), []⟩, ⟨(some 10), none, .call 11 [(.t 9)], [0]⟩, ⟨(some 11), none, .un .not (.t 10), [1]⟩]
@[reducible] def R3_4 : List XO := [⟨(some 6), none, .mv (.c (.bool true)), []⟩]
@[reducible] def R3_5 : List XO := [⟨(some 12), none, .mv (.t 1), []⟩, ⟨(some 13), none, .call 12 [(.t 12)], [0]⟩, ⟨(some 14), none, .mv (.t 1), []⟩, ⟨(some 15), none, .call 13 [(.t 14)], [2, 1]⟩, ⟨(some 16), none, .bin true .eql (.t 13) (.t 15), [1, 3]⟩, ⟨(some 17), none, .mv (.t 16), [4, 3]⟩, ⟨(some 18), (some (17, true)), .mv (.t 0), [5]⟩, ⟨(some 19), (some (17, true)), .mv (.t 1), [5]⟩, ⟨(some
    20), (some (17, true)), .call 14 [(.t 18), (.t 19)], [6, 7, 5, 5]⟩, ⟨(some 21), (some (17, true)), .mv (.t 0), [5]⟩, ⟨(some 22), (some (17, true)), .mv (.t 1), [5]⟩, ⟨(some 23), (some (17, true)), .call 15 [(.t 21), (.t 22)], [9, 10, 8, 5]⟩, ⟨(some 24), (some (17, true)), .bin true .eql (.t 20) (.t 23), [8, 11, 5]⟩, ⟨(some 25), none, .pick (.t 17) (.t 24) (.c (.bool false)), [5, 12]⟩, ⟨(some
    26), none, .mv (.t 25), [13, 11]⟩, ⟨(some 27), (some (26, true)), .mv (.t 0), [14]⟩, ⟨(some 28), (some (26, true)), .mv (.t 1), [14]⟩, ⟨(some 29), (some (26, true)), .call 17 [(.t 27), (.t 28)], [15, 16, 14, 14]⟩, ⟨(some 30), (some (26, true)), .mv (.t 0), [14]⟩, ⟨(some 31), (some (26, true)), .mv (.t 1), [14]⟩, ⟨(some 32), (some (26, true)), .call 18 [(.t 30), (.t 31)], [18, 19, 17, 14]⟩,
    ⟨(some 33), (some (26, true)), .call 16 [(.t 29), (.t 32)], [17, 20, 20, 14]⟩, ⟨(some 34), none, .pick (.t 26) (.t 33) (.c (.bool false)), [14, 21]⟩, ⟨(some 35), none, .mv (.t 34), [22, 21]⟩, ⟨(some 36), (some (35, true)), .mv (.t 0), [23]⟩, ⟨(some 37), (some (35, true)), .mv (.t 1), [23]⟩, ⟨(some 38), (some (35, true)), .mv (.t 2), [23]⟩, ⟨(some 39), (some (35, true)), .call 19 [(.t 36), (.t
    37), (.t 38)], [24, 25, 26, 23, 23]⟩, ⟨(some 40), (some (35, true)), .mv (.t 0), [23]⟩, ⟨(some 41), (some (35, true)), .mv (.t 1), [23]⟩, ⟨(some 42), (some (35, true)), .mv (.t 2), [23]⟩, ⟨(some 43), (some (35, true)), .call 20 [(.t 40), (.t 41), (.t 42)], [28, 29, 30, 27, 23]⟩, ⟨(some 44), (some (35, true)), .bin true .eql (.t 39) (.t 43), [27, 31, 23]⟩, ⟨(some 45), none, .pick (.t 35) (.t 44)
    (.c (.bool false)), [23, 32]⟩, ⟨(some 6), none, .mv (.t 45), [33, 31, 0, 1, 2, 3, 4, 5, 6, 7, 8, 9, 10, 11, 12, 13, 14, 15, 16, 17, 18, 19, 20, 21, 22, 23, 24, 25, 26, 27, 28, 29, 30, 31, 32, 33]⟩]
@[reducible] def F3 : XF := ⟨46, (.seq (.reg false [] R3_0) (.seq (.seq (.reg false [] R3_1) (.cond (.t 8) (.seq (.reg false [] R3_2) .ret) .skip)) (.seq (.seq (.reg false [] R3_3) (.cond (.t 11) (.seq (.reg false [] R3_4) .ret) .skip)) (.seq (.reg false [] R3_5) .ret)))), [(6, none)]⟩
/-- codesearch/codesearchlaw15.TypesFits -/
@[reducible] def R4_0 : List XO := [⟨(some 6), none, .mv (.c (.bool false)), []⟩]
@[reducible] def R4_1 : List XO := [⟨(some 7), none, .call 10 [], []⟩, ⟨(some 8), none, .un .not (.t 7), [0]⟩]
@[reducible] def R4_2 : List XO := [⟨(some 6), none, .mv (.c (.bool false)), []⟩]
@[reducible] def R4_3 : List XO := [⟨(some 9), none, .mv (.t 0), []⟩, ⟨(some 10), none, .call 11 [(.t 9)], [0]⟩, ⟨(some 11), none, .un .not (.t 10), [1]⟩, ⟨(some 12), none, .mv (.t 11), [2, 1]⟩, ⟨(some 13), (some (12, false)), .mv (.t 0), [3]⟩, ⟨(some 14), (some (12, false)), .mv (.t 1), [3]⟩, ⟨(some 15), (some (12, false)), .mv (.t 2), [3]⟩, ⟨(some 16), (some (12, false)), .call 21 [(.t 13), (.t
    14), (.t 15)], [4, 5, 6, 3, 3]⟩, ⟨(some 17), (some (12, false)), .mv (.t 0), [3]⟩, ⟨(some 18), (some (12, false)), .mv (.t 1), [3]⟩, ⟨(some 19), (some (12, false)), .mv (.t 2), [3]⟩, ⟨(some 20), (some (12, false)), .call 22 [(.t 17), (.t 18), (.t 19)], [8, 9, 10, 7, 3]⟩, ⟨(some 21), (some (12, false)), .bin true .eql (.t 16) (.t 20), [7, 11, 3]⟩, ⟨(some 22), none, .pick (.t 12) (.c (.bool
    true)) (.t 21), [3, 12]⟩, ⟨(some 6), none, .mv (.t 22), [13, 11, 0, 1, 2, 3, 4, 5, 6, 7, 8, 9, 10, 11, 12, 13]⟩]
@[reducible] def F4 : XF := ⟨23, (.seq (.reg false [] R4_0) (.seq (.seq (.reg false [] R4_1) (.cond (.t 8) (.seq (.reg false [] R4_2) .ret) .skip)) (.seq (.reg false [] R4_3) .ret))), [(6, none)]⟩
/-- codesearch/codesearchlaw15.TypesChecks -/
@[reducible] def R5_0 : List XO := [⟨(some 2), none, .mv (.c (.bool false)), []⟩]
@[reducible] def R5_1 : List XO := [⟨(some 3), none, .call 10 [], []⟩, ⟨(some 4), none, .un .not (.t 3), [0]⟩]
@[reducible] def R5_2 : List XO := [⟨(some 2), none, .mv (.c (.bool false)), []⟩]
@[reducible] def R5_3 : List XO := [⟨(some 5), none, .mv (.t 0), []⟩, ⟨(some 6), none, .call 11 [(.t 5)], [0]⟩, ⟨(some 7), none, .un .not (.t 6), [1]⟩, ⟨(some 8), none, .mv (.t 7), [2, 1]⟩, ⟨(some 9), (some (8, false)), .mv (.t 0), [3]⟩, ⟨(some 10), (some (8, false)), .call 24 [(.t 9)], [4, 3, 3]⟩, ⟨(some 11), (some (8, false)), .mv (.t 0), [3]⟩, ⟨(some 12), (some (8, false)), .call 25 [(.t 11)],
    [6, 5, 3]⟩, ⟨(some 13), (some (8, false)), .call 23 [(.t 10), (.t 12)], [5, 7, 7, 3]⟩, ⟨(some 14), none, .pick (.t 8) (.c (.bool true)) (.t 13), [3, 8]⟩, ⟨(some 2), none, .mv (.t 14), [9, 8, 0, 1, 2, 3, 4, 5, 6, 7, 8, 9]⟩]
@[reducible] def F5 : XF := ⟨15, (.seq (.reg false [] R5_0) (.seq (.seq (.reg false [] R5_1) (.cond (.t 4) (.seq (.reg false [] R5_2) .ret) .skip)) (.seq (.reg false [] R5_3) .ret))), [(2, none)]⟩
/-- codesearch/codesearchlaw15.TypesOrder -/
@[reducible] def R6_0 : List XO := [⟨(some 3), none, .box 3 (.t 1), []⟩, ⟨(some 4), none, .mv (.c (.bool false)), []⟩]
@[reducible] def R6_1 : List XO := [⟨(some 7), none, .call 10 [], []⟩, ⟨(some 8), none, .un .not (.t 7), [0]⟩]
@[reducible] def R6_2 : List XO := [⟨(some 4), none, .mv (.c (.bool false)), []⟩]
@[reducible] def R6_3 : List XO := [⟨(some 9), none, .mv (.t 0), []⟩, ⟨(some 10), none, .call 11 [(.t 9)], [0]⟩, ⟨(some 11), none, .un .not (.t 10), [1]⟩]
@[reducible] def R6_4 : List XO := [⟨(some 4), none, .mv (.c (.bool true)), []⟩]
@[reducible] def R6_5 : List XO := [⟨(some 12), none, .mv (.t 0), []⟩, ⟨(some 13), none, .iaA 3 1 (.t 3) (.c (.int .i64 0)), []⟩, ⟨(some 14), none, .load 1 false (.t 13), [1]⟩, ⟨(some 15), none, .iaA 3 1 (.t 3) (.c (.int .i64 0)), []⟩, ⟨(some 16), none, .load 1 false (.t 15), [3]⟩, ⟨(some 17), none, .call 19 [(.t 12), (.t 14), (.t 16)], [0, 2, 4]⟩, ⟨(some 18), none, .un .not (.t 17), [5]⟩, ⟨(some
    19), none, .mv (.t 18), [6, 5]⟩, ⟨(some 20), (some (19, false)), .mv (.t 0), [7]⟩, ⟨(some 21), (some (19, false)), .iaA 3 1 (.t 3) (.c (.int .i64 0)), [7]⟩, ⟨(some 22), (some (19, false)), .load 1 false (.t 21), [9, 7]⟩, ⟨(some 23), (some (19, false)), .iaA 3 1 (.t 3) (.c (.int .i64 1)), [7]⟩, ⟨(some 24), (some (19, false)), .load 1 false (.t 23), [11, 7]⟩, ⟨(some 25), (some (19, false)), .call
    19 [(.t 20), (.t 22), (.t 24)], [8, 10, 12, 7, 7]⟩, ⟨(some 26), (some (19, false)), .mv (.t 25), [13, 13, 7]⟩, ⟨(some 27), (some (26, true)), .mv (.t 0), [14]⟩, ⟨(some 28), (some (26, true)), .iaA 3 1 (.t 3) (.c (.int .i64 1)), [14]⟩, ⟨(some 29), (some (26, true)), .load 1 false (.t 28), [16, 14]⟩, ⟨(some 30), (some (26, true)), .iaA 3 1 (.t 3) (.c (.int .i64 2)), [14]⟩, ⟨(some 31), (some (26,
    true)), .load 1 false (.t 30), [18, 14]⟩, ⟨(some 32), (some (26, true)), .call 19 [(.t 27), (.t 29), (.t 31)], [15, 17, 19, 14, 14]⟩, ⟨(some 33), (some (19, false)), .pick (.t 26) (.t 32) (.c (.bool false)), [14, 20, 7]⟩, ⟨(some 34), (some (19, false)), .mv (.t 33), [21, 20, 7]⟩, ⟨(some 35), (some (34, true)), .mv (.t 0), [22]⟩, ⟨(some 36), (some (34, true)), .iaA 3 1 (.t 3) (.c (.int .i64 0)),
    [22]⟩, ⟨(some 37), (some (34, true)), .load 1 false (.t 36), [24, 22]⟩, ⟨(some 38), (some (34, true)), .iaA 3 1 (.t 3) (.c (.int .i64 2)), [22]⟩, ⟨(some 39), (some (34, true)), .load 1 false (.t 38), [26, 22]⟩, ⟨(some 40), (some (34, true)), .call 19 [(.t 35), (.t 37), (.t 39)], [23, 25, 27, 22, 22]⟩, ⟨(some 41), (some (34, true)), .un .not (.t 40), [28, 22]⟩, ⟨(some 42), (some (19, false)),
    .pick (.t 34) (.t 41) (.c (.bool false)), [22, 29, 7]⟩, ⟨(some 43), none, .pick (.t 19) (.c (.bool true)) (.t 42), [7, 30]⟩]
@[reducible] def R6_6 : List XO := [⟨(some 4), none, .mv (.c (.bool false)), []⟩]
@[reducible] def R6_7 : List XO := [⟨(some 44), none, .mv (.t 0), []⟩, ⟨(some 45), none, .call 24 [(.t 44)], [0]⟩, ⟨(some 5), none, .mv (.t 45), [1, 1, 0, 1]⟩]
@[reducible] def R6_8 : List XO := [⟨(some 6), none, .mv (.c (.int .i64 0)), []⟩]
@[reducible] def R6_9 : List XO := [⟨(some 46), none, .mv (.t 6), []⟩, ⟨(some 47), none, .mv (.t 5), []⟩, ⟨(some 48), none, .len false (.t 47), [1]⟩, ⟨(some 49), none, .bin false .lss (.t 46) (.t 48), [0, 2]⟩]
@[reducible] def R6_10 : List XO := [⟨(some 52), none, .mv (.t 5), []⟩, ⟨(some 53), none, .mv (.t 6), []⟩, ⟨(some 54), none, .iaS 3 (.t 52) (.t 53), [0, 1]⟩, ⟨(some 55), none, .fad 2 (.t 54), [2]⟩, ⟨(some 56), none, .load 1 false (.t 55), [3]⟩, ⟨(some 57), none, .bin false .eql (.t 56) (.c (.int .i64 12)), [4]⟩, ⟨(some 58), none, .mv (.t 57), [5]⟩, ⟨(some 59), (some (58, false)), .mv (.t 5), [6]⟩,
    ⟨(some 60), (some (58, false)), .mv (.t 6), [6]⟩, ⟨(some 61), (some (58, false)), .iaS 3 (.t 59) (.t 60), [7, 8, 6]⟩, ⟨(some 62), (some (58, false)), .fad 2 (.t 61), [9, 6]⟩, ⟨(some 63), (some (58, false)), .load 1 false (.t 62), [10, 6]⟩, ⟨(some 64), (some (58, false)), .bin false .eql (.t 63) (.c (.int .i64 10)), [11, 6]⟩, ⟨(some 65), none, .pick (.t 58) (.c (.bool true)) (.t 64), [6, 12]⟩]
@[reducible] def R6_11 : List XO := [⟨(some 4), none, .mv (.c (.bool true)), []⟩]
@[reducible] def R6_12 : List XO := [⟨(some 50), none, .mv (.t 6), []⟩, ⟨(some 51), none, .bin false .add (.t 50) (.c (.int .i64 1)), [0]⟩, ⟨(some 6), none, .mv (.t 51), [1, 0, 1]⟩]
@[reducible] def L6_0 : XC := (.seq (.seq (.reg false [] R6_9) (.cond (.t 49) .skip (.exit 0))) (.seq (.blk 1 (.seq (.reg false [] R6_10) (.cond (.t 65) (.seq (.reg false [] R6_11) .ret) .skip))) (.reg false [] R6_12)))
@[reducible] def R6_13 : List XO := [⟨(some 66), none, .iaA 3 1 (.t 3) (.c (.int .i64 0)), []⟩, ⟨(some 67), none, .load 1 false (.t 66), [0]⟩, ⟨(some 68), none, .iaA 3 1 (.t 3) (.c (.int .i64 1)), []⟩, ⟨(some 69), none, .load 1 false (.t 68), [2]⟩, ⟨(some 70), none, .bin false .eql (.t 67) (.t 69), [1, 3]⟩, ⟨(some 71), none, .mv (.t 70), [4]⟩, ⟨(some 72), (some (71, false)), .mv (.t 0), [5]⟩,
    ⟨(some 73), (some (71, false)), .iaA 3 1 (.t 3) (.c (.int .i64 0)), [5]⟩, ⟨(some 74), (some (71, false)), .load 1 false (.t 73), [7, 5]⟩, ⟨(some 75), (some (71, false)), .iaA 3 1 (.t 3) (.c (.int .i64 1)), [5]⟩, ⟨(some 76), (some (71, false)), .load 1 false (.t 75), [9, 5]⟩, ⟨(some 77), (some (71, false)), .call 19 [(.t 72), (.t 74), (.t 76)], [6, 8, 10, 5, 5]⟩, ⟨(some 78), (some (71, false)),
    .un .not (.t 77), [11, 5]⟩, ⟨(some 79), none, .pick (.t 71) (.c (.bool true)) (.t 78), [5, 12]⟩, ⟨(some 80), none, .mv (.t 79), [13, 11]⟩, ⟨(some 81), (some (80, false)), .mv (.t 0), [14]⟩, ⟨(some 82), (some (80, false)), .iaA 3 1 (.t 3) (.c (.int .i64 1)), [14]⟩, ⟨(some 83), (some (80, false)), .load 1 false (.t 82), [16, 14]⟩, ⟨(some 84), (some (80, false)), .iaA 3 1 (.t 3) (.c (.int .i64
    0)), [14]⟩, ⟨(some 85), (some (80, false)), .load 1 false (.t 84), [18, 14]⟩, ⟨(some 86), (some (80, false)), .call 19 [(.t 81), (.t 83), (.t 85)], [15, 17, 19, 14, 14]⟩, ⟨(some 87), (some (80, false)), .un .not (.t 86), [20, 14]⟩, ⟨(some 88), none, .pick (.t 80) (.c (.bool true)) (.t 87), [14, 21]⟩, ⟨(some 4), none, .mv (.t 88), [22, 20, 0, 1, 2, 3, 4, 5, 6, 7, 8, 9, 10, 11, 12, 13, 14, 15,
    16, 17, 18, 19, 20, 21, 22]⟩]
@[reducible] def F6 : XF := ⟨89, (.seq (.reg false [] R6_0) (.seq (.seq (.reg false [] R6_1) (.cond (.t 8) (.seq (.reg false [] R6_2) .ret) .skip)) (.seq (.seq (.reg false [] R6_3) (.cond (.t 11) (.seq (.reg false [] R6_4) .ret) .skip)) (.seq (.seq (.reg false [] R6_5) (.cond (.t 43) (.seq (.reg false [] R6_6) .ret) .skip)) (.seq (.reg false [] R6_7) (.seq (.seq (.reg false [] R6_8) (.blk 0 (.loop
    L6_0))) (.seq (.reg false [] R6_13) .ret))))))), [(4, none)]⟩
/-- codesearch/codesearchlaw15.TypesFirst -/
@[reducible] def R7_0 : List XO := [⟨(some 6), none, .mv (.c (.bool false)), []⟩]
@[reducible] def R7_1 : List XO := [⟨(some 11), none, .call 10 [], []⟩, ⟨(some 12), none, .un .not (.t 11), [0]⟩]
@[reducible] def R7_2 : List XO := [⟨(some 6), none, .mv (.c (.bool false)), []⟩]
@[reducible] def R7_3 : List XO := [⟨(some 13), none, .mv (.t 0), []⟩, ⟨(some 14), none, .call 11 [(.t 13)], [0]⟩, ⟨(some 15), none, .un .not (.t 14), [1]⟩]
@[reducible] def R7_4 : List XO := [⟨(some 6), none, .mv (.c (.bool true)), []⟩]
@[reducible] def R7_5 : List XO := [⟨(some 17), none, .mv (.t 0), []⟩, ⟨(some 18), none, .mv (.t 1), []⟩, ⟨(some 19), none, .mv (.t 2), []⟩, ⟨(some 20), none, .call 26 [(.t 17), (.t 18), (.t 19)], [0, 1, 2]⟩, ⟨(some 16), none, .mv (.t 20), [3]⟩, ⟨(some 21), none, .ext (.t 16) 0, [4]⟩, ⟨(some 22), none, .ext (.t 16) 1, [4]⟩, ⟨(some 7), none, .alloc [(.int .i64 0), (.int .i64 0), (.str (ByteArray.mk
    #[])), (.int .i64 0), (.str (ByteArray.mk #[])), .nls, .nls, (.bool false), (.int .i64 0), (.int .i64 0), (.int .i64 0)], []⟩, ⟨none, none, .store 11 (.t 7) (.t 21), [7, 5, 3, 0, 1, 2, 3, 4, 5, 7]⟩, ⟨(some 8), none, .mv (.t 22), [6, 8, 0, 1, 2, 3, 4, 5, 6, 7, 8]⟩]
@[reducible] def R7_6 : List XO := [⟨(some 23), none, .mv (.t 8), []⟩, ⟨(some 24), none, .mv (.t 23), [0]⟩, ⟨(some 25), (some (24, true)), .fad 2 (.t 7), [1]⟩, ⟨(some 26), (some (24, true)), .load 1 false (.t 25), [2, 1]⟩, ⟨(some 27), (some (24, true)), .call 27 [(.t 26)], [3, 1, 1]⟩, ⟨(some 28), (some (24, true)), .mv (.t 2), [1]⟩, ⟨(some 29), (some (24, true)), .bin false .neq (.t 27) (.t 28),
    [4, 5, 1]⟩, ⟨(some 30), none, .pick (.t 24) (.t 29) (.c (.bool false)), [1, 6]⟩]
@[reducible] def R7_7 : List XO := [⟨(some 6), none, .mv (.c (.bool false)), []⟩]
@[reducible] def R7_8 : List XO := [⟨(some 31), none, .mv (.t 0), []⟩, ⟨(some 32), none, .mv (.t 1), []⟩, ⟨(some 33), none, .mv (.t 2), []⟩, ⟨(some 34), none, .call 28 [(.t 31), (.t 32), (.t 33)], [0, 1, 2]⟩]
@[reducible] def R7_9 : List XO := [⟨(some 35), none, .mv (.t 8), []⟩, ⟨(some 6), none, .mv (.t 35), [0, 0]⟩]
@[reducible] def R7_10 : List XO := [⟨(some 36), none, .mv (.t 0), []⟩, ⟨(some 37), none, .mv (.t 1), []⟩, ⟨(some 38), none, .call 17 [(.t 36), (.t 37)], [0, 1]⟩, ⟨(some 9), none, .mv (.t 38), [2, 2, 0, 1, 2]⟩]
@[reducible] def R7_11 : List XO := [⟨(some 10), none, .mv (.c (.int .i64 0)), []⟩]
@[reducible] def R7_12 : List XO := [⟨(some 39), none, .mv (.t 10), []⟩, ⟨(some 40), none, .mv (.t 9), []⟩, ⟨(some 41), none, .len false (.t 40), [1]⟩, ⟨(some 42), none, .bin false .lss (.t 39) (.t 41), [0, 2]⟩]
@[reducible] def R7_13 : List XO := [⟨(some 45), none, .mv (.t 0), []⟩, ⟨(some 46), none, .mv (.t 9), []⟩, ⟨(some 47), none, .mv (.t 10), []⟩, ⟨(some 48), none, .iaS 1 (.t 46) (.t 47), [1, 2]⟩, ⟨(some 49), none, .load 1 false (.t 48), [3]⟩, ⟨(some 50), none, .mv (.t 2), []⟩, ⟨(some 51), none, .call 28 [(.t 45), (.t 49), (.t 50)], [0, 4, 5]⟩]
@[reducible] def R7_14 : List XO := [⟨(some 52), none, .mv (.t 8), []⟩, ⟨(some 53), none, .mv (.t 52), [0]⟩, ⟨(some 54), (some (53, true)), .mv (.t 0), [1]⟩, ⟨(some 55), (some (53, true)), .fad 3 (.t 7), [1]⟩, ⟨(some 56), (some (53, true)), .load 1 false (.t 55), [3, 1]⟩, ⟨(some 57), (some (53, true)), .mv (.t 9), [1]⟩, ⟨(some 58), (some (53, true)), .mv (.t 10), [1]⟩, ⟨(some 59), (some (53,
    true)), .iaS 1 (.t 57) (.t 58), [5, 6, 1]⟩, ⟨(some 60), (some (53, true)), .load 1 false (.t 59), [7, 1]⟩, ⟨(some 61), (some (53, true)), .call 29 [(.t 54), (.t 56), (.t 60)], [2, 4, 8, 1, 1]⟩, ⟨(some 62), none, .pick (.t 53) (.t 61) (.c (.bool false)), [1, 9]⟩, ⟨(some 6), none, .mv (.t 62), [10, 9, 0, 1, 2, 3, 4, 5, 6, 7, 8, 9, 10]⟩]
@[reducible] def R7_15 : List XO := [⟨(some 43), none, .mv (.t 10), []⟩, ⟨(some 44), none, .bin false .add (.t 43) (.c (.int .i64 1)), [0]⟩, ⟨(some 10), none, .mv (.t 44), [1, 0, 1]⟩]
@[reducible] def L7_0 : XC := (.seq (.seq (.reg false [] R7_12) (.cond (.t 42) .skip (.exit 0))) (.seq (.blk 1 (.seq (.reg false [] R7_13) (.cond (.t 51) (.seq (.reg true [] R7_14) .ret) .skip))) (.reg false [] R7_15)))
@[reducible] def R7_16 : List XO := [⟨(some 63), none, .mv (.t 8), []⟩, ⟨(some 64), none, .un .not (.t 63), [0]⟩, ⟨(some 6), none, .mv (.t 64), [1, 0, 1]⟩]
@[reducible] def F7 : XF := ⟨65, (.seq (.reg false [] R7_0) (.seq (.seq (.reg false [] R7_1) (.cond (.t 12) (.seq (.reg false [] R7_2) .ret) .skip)) (.seq (.seq (.reg false [] R7_3) (.cond (.t 15) (.seq (.reg false [] R7_4) .ret) .skip)) (.seq (.reg false [] R7_5) (.seq (.seq (.reg false [] R7_6) (.cond (.t 30) (.seq (.reg false [] R7_7) .ret) .skip)) (.seq (.seq (.reg false [] R7_8) (.cond (.t 34)
    (.seq (.reg false [] R7_9) .ret) .skip)) (.seq (.reg false [] R7_10) (.seq (.seq (.reg false [] R7_11) (.blk 0 (.loop L7_0))) (.seq (.reg false [] R7_16) .ret))))))))), [(6, none)]⟩
/-- codesearch/codesearchlaw15.TypesChains -/
@[reducible] def R8_0 : List XO := [⟨(some 4), none, .box 3 (.t 1), []⟩, ⟨(some 6), none, .mv (.c (.bool false)), []⟩]
@[reducible] def R8_1 : List XO := [⟨(some 11), none, .call 10 [], []⟩, ⟨(some 12), none, .un .not (.t 11), [0]⟩]
@[reducible] def R8_2 : List XO := [⟨(some 6), none, .mv (.c (.bool false)), []⟩]
@[reducible] def R8_3 : List XO := [⟨(some 13), none, .mv (.t 0), []⟩, ⟨(some 14), none, .call 11 [(.t 13)], [0]⟩, ⟨(some 15), none, .un .not (.t 14), [1]⟩]
@[reducible] def R8_4 : List XO := [⟨(some 6), none, .mv (.c (.bool true)), []⟩]
@[reducible] def R8_5 : List XO := [⟨(some 16), none, .iaA 3 1 (.t 4) (.c (.int .i64 1)), []⟩, ⟨(some 17), none, .load 1 false (.t 16), [0]⟩, ⟨(some 18), none, .bin false .neq (.t 17) (.c (.str (ByteArray.mk #[110, 117, 108, 108]))), [1]⟩, ⟨(some 19), none, .mv (.t 18), [2]⟩, ⟨(some 20), (some (19, true)), .mv (.t 0), [3]⟩, ⟨(some 21), (some (19, true)), .iaA 3 1 (.t 4) (.c (.int .i64 0)), [3]⟩,
    ⟨(some 22), (some (19, true)), .load 1 false (.t 21), [5, 3]⟩, ⟨(some 23), (some (19, true)), .iaA 3 1 (.t 4) (.c (.int .i64 1)), [3]⟩, ⟨(some 24), (some (19, true)), .load 1 false (.t 23), [7, 3]⟩, ⟨(some 25), (some (19, true)), .call 21 [(.t 20), (.t 22), (.t 24)], [4, 6, 8, 3, 3]⟩, ⟨(some 26), none, .pick (.t 19) (.t 25) (.c (.bool false)), [3, 9]⟩, ⟨(some 27), none, .mv (.t 26), [10, 9]⟩,
    ⟨(some 28), (some (27, true)), .mv (.t 0), [11]⟩, ⟨(some 29), (some (27, true)), .iaA 3 1 (.t 4) (.c (.int .i64 1)), [11]⟩, ⟨(some 30), (some (27, true)), .load 1 false (.t 29), [13, 11]⟩, ⟨(some 31), (some (27, true)), .iaA 3 1 (.t 4) (.c (.int .i64 2)), [11]⟩, ⟨(some 32), (some (27, true)), .load 1 false (.t 31), [15, 11]⟩, ⟨(some 33), (some (27, true)), .call 21 [(.t 28), (.t 30), (.t 32)],
    [12, 14, 16, 11, 11]⟩, ⟨(some 34), none, .pick (.t 27) (.t 33) (.c (.bool false)), [11, 17]⟩, ⟨(some 35), none, .mv (.t 34), [18, 17]⟩, ⟨(some 36), (some (35, true)), .mv (.t 0), [19]⟩, ⟨(some 37), (some (35, true)), .iaA 3 1 (.t 4) (.c (.int .i64 0)), [19]⟩, ⟨(some 38), (some (35, true)), .load 1 false (.t 37), [21, 19]⟩, ⟨(some 39), (some (35, true)), .iaA 3 1 (.t 4) (.c (.int .i64 2)),
    [19]⟩, ⟨(some 40), (some (35, true)), .load 1 false (.t 39), [23, 19]⟩, ⟨(some 41), (some (35, true)), .call 21 [(.t 36), (.t 38), (.t 40)], [20, 22, 24, 19, 19]⟩, ⟨(some 42), (some (35, true)), .un .not (.t 41), [25, 19]⟩, ⟨(some 43), none, .pick (.t 35) (.t 42) (.c (.bool false)), [19, 26]⟩]
@[reducible] def R8_6 : List XO := [⟨(some 6), none, .mv (.c (.bool false)), []⟩]
@[reducible] def R8_7 : List XO := [⟨(some 45), none, .mv (.t 0), []⟩, ⟨(some 46), none, .iaA 3 1 (.t 4) (.c (.int .i64 0)), []⟩, ⟨(some 47), none, .load 1 false (.t 46), [1]⟩, ⟨(some 48), none, .mv (.t 2), []⟩, ⟨(some 49), none, .call 26 [(.t 45), (.t 47), (.t 48)], [0, 2, 3]⟩, ⟨(some 44), none, .mv (.t 49), [4]⟩, ⟨(some 50), none, .ext (.t 44) 0, [5]⟩, ⟨(some 51), none, .ext (.t 44) 1, [5]⟩,
    ⟨(some 7), none, .alloc [(.int .i64 0), (.int .i64 0), (.str (ByteArray.mk #[])), (.int .i64 0), (.str (ByteArray.mk #[])), .nls, .nls, (.bool false), (.int .i64 0), (.int .i64 0), (.int .i64 0)], []⟩, ⟨none, none, .store 11 (.t 7) (.t 50), [8, 6, 4, 0, 1, 2, 3, 4, 5, 6, 8]⟩, ⟨(some 8), none, .mv (.t 51), [7, 9, 0, 1, 2, 3, 4, 5, 6, 7, 8, 9]⟩]
@[reducible] def R8_8 : List XO := [⟨(some 53), none, .mv (.t 0), []⟩, ⟨(some 54), none, .iaA 3 1 (.t 4) (.c (.int .i64 1)), []⟩, ⟨(some 55), none, .load 1 false (.t 54), [1]⟩, ⟨(some 56), none, .mv (.t 2), []⟩, ⟨(some 57), none, .call 26 [(.t 53), (.t 55), (.t 56)], [0, 2, 3]⟩, ⟨(some 52), none, .mv (.t 57), [4]⟩, ⟨(some 58), none, .ext (.t 52) 0, [5]⟩, ⟨(some 59), none, .ext (.t 52) 1, [5]⟩,
    ⟨(some 9), none, .alloc [(.int .i64 0), (.int .i64 0), (.str (ByteArray.mk #[])), (.int .i64 0), (.str (ByteArray.mk #[])), .nls, .nls, (.bool false), (.int .i64 0), (.int .i64 0), (.int .i64 0)], []⟩, ⟨none, none, .store 11 (.t 9) (.t 58), [8, 6, 4, 0, 1, 2, 3, 4, 5, 6, 8]⟩, ⟨(some 10), none, .mv (.t 59), [7, 9, 0, 1, 2, 3, 4, 5, 6, 7, 8, 9]⟩]
@[reducible] def R8_9 : List XO := [⟨(some 60), none, .mv (.t 0), []⟩, ⟨(some 61), none, .iaA 3 1 (.t 4) (.c (.int .i64 0)), []⟩, ⟨(some 62), none, .load 1 false (.t 61), [1]⟩, ⟨(some 63), none, .iaA 3 1 (.t 4) (.c (.int .i64 1)), []⟩, ⟨(some 64), none, .load 1 false (.t 63), [3]⟩, ⟨(some 65), none, .call 19 [(.t 60), (.t 62), (.t 64)], [0, 2, 4]⟩, ⟨(some 66), none, .un .not (.t 65), [5]⟩, ⟨(some
    67), none, .mv (.t 66), [6, 5]⟩, ⟨(some 68), (some (67, false)), .mv (.t 10), [7]⟩, ⟨(some 69), (some (67, false)), .un .not (.t 68), [8, 7]⟩, ⟨(some 70), none, .pick (.t 67) (.c (.bool true)) (.t 69), [7, 9]⟩, ⟨(some 71), none, .mv (.t 70), [10, 7]⟩, ⟨(some 72), (some (71, false)), .mv (.t 8), [11]⟩, ⟨(some 73), none, .pick (.t 71) (.c (.bool true)) (.t 72), [11, 12]⟩, ⟨(some 6), none, .mv (.t
    73), [13, 11, 0, 1, 2, 3, 4, 5, 6, 7, 8, 9, 10, 11, 12, 13]⟩]
@[reducible] def F8 : XF := ⟨74, (.seq (.reg false [] R8_0) (.seq (.seq (.reg false [] R8_1) (.cond (.t 12) (.seq (.reg false [] R8_2) .ret) .skip)) (.seq (.seq (.reg false [] R8_3) (.cond (.t 15) (.seq (.reg false [] R8_4) .ret) .skip)) (.seq (.seq (.reg false [] R8_5) (.cond (.t 43) (.seq (.reg false [] R8_6) .ret) .skip)) (.seq (.reg false [] R8_7) (.seq (.reg false [] R8_8) (.seq (.reg false []
    R8_9) .ret))))))), [(6, none)]⟩
/-- codesearch/codesearchlaw15.TypesMembers -/
@[reducible] def R9_0 : List XO := [⟨(some 4), none, .box 2 (.t 1), []⟩, ⟨(some 6), none, .mv (.c (.bool false)), []⟩]
@[reducible] def R9_1 : List XO := [⟨(some 14), none, .call 10 [], []⟩, ⟨(some 15), none, .un .not (.t 14), [0]⟩]
@[reducible] def R9_2 : List XO := [⟨(some 6), none, .mv (.c (.bool false)), []⟩]
@[reducible] def R9_3 : List XO := [⟨(some 16), none, .mv (.t 0), []⟩, ⟨(some 17), none, .call 11 [(.t 16)], [0]⟩, ⟨(some 18), none, .un .not (.t 17), [1]⟩]
@[reducible] def R9_4 : List XO := [⟨(some 6), none, .mv (.c (.bool true)), []⟩]
@[reducible] def R9_5 : List XO := [⟨(some 20), none, .mv (.t 0), []⟩, ⟨(some 21), none, .iaA 2 1 (.t 4) (.c (.int .i64 0)), []⟩, ⟨(some 22), none, .load 1 false (.t 21), [1]⟩, ⟨(some 23), none, .iaA 2 1 (.t 4) (.c (.int .i64 1)), []⟩, ⟨(some 24), none, .load 1 false (.t 23), [3]⟩, ⟨(some 25), none, .call 26 [(.t 20), (.t 22), (.t 24)], [0, 2, 4]⟩, ⟨(some 19), none, .mv (.t 25), [5]⟩, ⟨(some 26),
    none, .ext (.t 19) 0, [6]⟩, ⟨(some 27), none, .ext (.t 19) 1, [6]⟩, ⟨(some 7), none, .alloc [(.int .i64 0), (.int .i64 0), (.str (ByteArray.mk #[])), (.int .i64 0), (.str (ByteArray.mk #[])), .nls, .nls, (.bool false), (.int .i64 0), (.int .i64 0), (.int .i64 0)], []⟩, ⟨none, none, .store 11 (.t 7) (.t 26), [9, 7, 5, 0, 1, 2, 3, 4, 5, 6, 7, 9]⟩, ⟨(some 8), none, .mv (.t 27), [8, 10, 0, 1, 2, 3,
    4, 5, 6, 7, 8, 9, 10]⟩]
@[reducible] def R9_6 : List XO := [⟨(some 29), none, .mv (.t 0), []⟩, ⟨(some 30), none, .iaA 2 1 (.t 4) (.c (.int .i64 0)), []⟩, ⟨(some 31), none, .load 1 false (.t 30), [1]⟩, ⟨(some 32), none, .iaA 2 1 (.t 4) (.c (.int .i64 1)), []⟩, ⟨(some 33), none, .load 1 false (.t 32), [3]⟩, ⟨(some 34), none, .call 30 [(.t 29), (.t 31), (.t 33)], [0, 2, 4]⟩, ⟨(some 28), none, .mv (.t 34), [5]⟩, ⟨(some 35),
    none, .ext (.t 28) 0, [6]⟩, ⟨(some 36), none, .ext (.t 28) 1, [6]⟩, ⟨(some 9), none, .alloc [(.int .i64 0), (.int .i64 0), (.str (ByteArray.mk #[])), (.int .i64 0), (.str (ByteArray.mk #[])), .nls, .nls, (.bool false), (.int .i64 0), (.int .i64 0), (.int .i64 0)], []⟩, ⟨none, none, .store 11 (.t 9) (.t 35), [9, 7, 5, 0, 1, 2, 3, 4, 5, 6, 7, 9]⟩, ⟨(some 10), none, .mv (.t 36), [8, 10, 0, 1, 2,
    3, 4, 5, 6, 7, 8, 9, 10]⟩]
@[reducible] def R9_7 : List XO := [⟨(some 37), none, .mv (.t 8), []⟩, ⟨(some 38), none, .mv (.t 10), []⟩, ⟨(some 39), none, .bin true .neq (.t 37) (.t 38), [0, 1]⟩, ⟨(some 40), none, .mv (.t 39), [2]⟩, ⟨(some 41), (some (40, false)), .load 11 true (.t 7), [3]⟩, ⟨(some 42), (some (40, false)), .load 11 true (.t 9), [3]⟩, ⟨(some 43), (some (40, false)), .call 31 [(.t 41), (.t 42)], [4, 5, 3, 3]⟩,
    ⟨(some 44), (some (40, false)), .un .not (.t 43), [6, 3]⟩, ⟨(some 45), none, .pick (.t 40) (.c (.bool true)) (.t 44), [3, 7]⟩]
@[reducible] def R9_8 : List XO := [⟨(some 6), none, .mv (.c (.bool false)), []⟩]
@[reducible] def R9_9 : List XO := [⟨(some 46), none, .mv (.t 0), []⟩, ⟨(some 47), none, .mv (.t 2), []⟩, ⟨(some 48), none, .call 32 [(.t 46), (.t 47)], [0, 1]⟩, ⟨(some 49), none, .mv (.t 0), []⟩, ⟨(some 50), none, .mv (.t 2), []⟩, ⟨(some 51), none, .call 33 [(.t 49), (.t 50)], [3, 4, 2]⟩, ⟨(some 11), none, .mv (.t 48), [2, 5, 0, 1, 2]⟩, ⟨(some 12), none, .mv (.t 51), [5, 6, 0, 1, 2, 3, 4, 5, 6]⟩]
@[reducible] def R9_10 : List XO := [⟨(some 52), none, .mv (.t 11), []⟩, ⟨(some 53), none, .len false (.t 52), [0]⟩, ⟨(some 54), none, .mv (.t 12), []⟩, ⟨(some 55), none, .len false (.t 54), [2]⟩, ⟨(some 56), none, .bin false .neq (.t 53) (.t 55), [1, 3]⟩]
@[reducible] def R9_11 : List XO := [⟨(some 6), none, .mv (.c (.bool false)), []⟩]
@[reducible] def R9_12 : List XO := [⟨(some 13), none, .mv (.c (.int .i64 0)), []⟩]
@[reducible] def R9_13 : List XO := [⟨(some 57), none, .mv (.t 13), []⟩, ⟨(some 58), none, .mv (.t 11), []⟩, ⟨(some 59), none, .len false (.t 58), [1]⟩, ⟨(some 60), none, .bin false .lss (.t 57) (.t 59), [0, 2]⟩]
@[reducible] def R9_14 : List XO := [⟨(some 63), none, .mv (.t 11), []⟩, ⟨(some 64), none, .mv (.t 13), []⟩, ⟨(some 65), none, .iaS 1 (.t 63) (.t 64), [0, 1]⟩, ⟨(some 66), none, .load 1 false (.t 65), [2]⟩, ⟨(some 67), none, .mv (.t 12), []⟩, ⟨(some 68), none, .mv (.t 13), []⟩, ⟨(some 69), none, .iaS 1 (.t 67) (.t 68), [4, 5]⟩, ⟨(some 70), none, .load 1 false (.t 69), [6]⟩, ⟨(some 71), none, .bin
    false .neq (.t 66) (.t 70), [3, 7]⟩]
@[reducible] def R9_15 : List XO := [⟨(some 6), none, .mv (.c (.bool false)), []⟩]
@[reducible] def R9_16 : List XO := [⟨(some 61), none, .mv (.t 13), []⟩, ⟨(some 62), none, .bin false .add (.t 61) (.c (.int .i64 1)), [0]⟩, ⟨(some 13), none, .mv (.t 62), [1, 0, 1]⟩]
@[reducible] def L9_0 : XC := (.seq (.seq (.reg false [] R9_13) (.cond (.t 60) .skip (.exit 0))) (.seq (.blk 1 (.seq (.reg true [] R9_14) (.cond (.t 71) (.seq (.reg false [] R9_15) .ret) .skip))) (.reg false [] R9_16)))
@[reducible] def R9_17 : List XO := [⟨(some 6), none, .mv (.c (.bool true)), []⟩]
@[reducible] def F9 : XF := ⟨72, (.seq (.reg false [] R9_0) (.seq (.seq (.reg false [] R9_1) (.cond (.t 15) (.seq (.reg false [] R9_2) .ret) .skip)) (.seq (.seq (.reg false [] R9_3) (.cond (.t 18) (.seq (.reg false [] R9_4) .ret) .skip)) (.seq (.reg false [] R9_5) (.seq (.reg false [] R9_6) (.seq (.seq (.reg false [] R9_7) (.cond (.t 45) (.seq (.reg false [] R9_8) .ret) .skip)) (.seq (.reg false []
    R9_9) (.seq (.seq (.reg false [] R9_10) (.cond (.t 56) (.seq (.reg false [] R9_11) .ret) .skip)) (.seq (.seq (.reg false [] R9_12) (.blk 0 (.loop L9_0))) (.seq (.reg false [] R9_17) .ret)))))))))), [(6, none)]⟩
/-- codesearch/codesearchlaw15.alive -/
@[reducible] def R10_0 : List XO := [⟨(some 0), none, .mv (.c (.bool false)), []⟩]
@[reducible] def R10_1 : List XO := [⟨(some 6), none, .build [(.int .i64 0), (.int .i64 0), (.str (ByteArray.mk #[])), (.int .i64 0), (.str (ByteArray.mk #[])), .nls, .nls, (.bool false), (.int .i64 0), (.int .i64 0), (.int .i64 0)] [(0, 1, (.c (.int .i64 1))), (1, 1, (.c (.int .i64 1))), (2, 1, (.c (.str (ByteArray.mk #[109]))))], []⟩, ⟨(some 7), none, .bsl 9 1 [(.str (ByteArray.mk #[]))] 2 [(0,
    (.c (.str (ByteArray.mk #[109, 46, 66])))), (1, (.c (.str (ByteArray.mk #[109, 46, 73]))))], []⟩, ⟨(some 8), none, .call 34 [(.c (.int .i64 2)), (.c (.int .i64 3)), (.c (.str (ByteArray.mk #[109, 46, 65]))), (.c (.bool true)), (.t 7)], [1]⟩, ⟨(some 9), none, .bsl 9 1 [(.str (ByteArray.mk #[]))] 1 [(0, (.c (.str (ByteArray.mk #[109, 46, 74]))))], []⟩, ⟨(some 10), none, .call 34 [(.c (.int .i64
    3)), (.c (.int .i64 3)), (.c (.str (ByteArray.mk #[109, 46, 66]))), (.c (.bool false)), (.t 9)], [3, 2]⟩, ⟨(some 11), none, .bsl 9 1 [(.str (ByteArray.mk #[]))] 1 [(0, (.c (.str (ByteArray.mk #[109, 46, 74]))))], []⟩, ⟨(some 12), none, .call 34 [(.c (.int .i64 4)), (.c (.int .i64 4)), (.c (.str (ByteArray.mk #[109, 46, 73]))), (.c (.bool false)), (.t 11)], [5, 4]⟩, ⟨(some 13), none, .call 34
    [(.c (.int .i64 5)), (.c (.int .i64 4)), (.c (.str (ByteArray.mk #[109, 46, 74]))), (.c (.bool false)), (.c .nls)], [6]⟩, ⟨(some 14), none, .bsl 40 11 [(.int .i64 0), (.int .i64 0), (.str (ByteArray.mk #[])), (.int .i64 0), (.str (ByteArray.mk #[])), .nls, .nls, (.bool false), (.int .i64 0), (.int .i64 0), (.int .i64 0)] 5 [(0, (.t 6)), (1, (.t 8)), (2, (.t 10)), (3, (.t 12)), (4, (.t 13))],
    [0, 2, 4, 6, 7]⟩, ⟨(some 1), none, .mv (.t 14), [8, 7, 0, 1, 2, 3, 4, 5, 6, 7, 8]⟩]
@[reducible] def R10_2 : List XO := [⟨(some 15), none, .mv (.t 1), []⟩, ⟨(some 16), none, .call 17 [(.t 15), (.c (.str (ByteArray.mk #[109, 46, 65])))], [0]⟩, ⟨(some 17), none, .bsl 9 1 [(.str (ByteArray.mk #[]))] 3 [(0, (.c (.str (ByteArray.mk #[109, 46, 66])))), (1, (.c (.str (ByteArray.mk #[109, 46, 73])))), (2, (.c (.str (ByteArray.mk #[109, 46, 74]))))], []⟩, ⟨(some 18), none, .call 16 [(.t
    16), (.t 17)], [1, 2, 1]⟩, ⟨(some 19), none, .un .not (.t 18), [3]⟩, ⟨(some 20), none, .mv (.t 19), [4, 3]⟩, ⟨(some 21), (some (20, false)), .mv (.t 1), [5]⟩, ⟨(some 22), (some (20, false)), .call 19 [(.t 21), (.c (.str (ByteArray.mk #[109, 46, 65]))), (.c (.str (ByteArray.mk #[109, 46, 74])))], [6, 5, 5]⟩, ⟨(some 23), (some (20, false)), .un .not (.t 22), [7, 5]⟩, ⟨(some 24), none, .pick (.t
    20) (.c (.bool true)) (.t 23), [5, 8]⟩, ⟨(some 25), none, .mv (.t 24), [9, 7]⟩, ⟨(some 26), (some (25, false)), .mv (.t 1), [10]⟩, ⟨(some 27), (some (25, false)), .call 19 [(.t 26), (.c (.str (ByteArray.mk #[109, 46, 74]))), (.c (.str (ByteArray.mk #[109, 46, 65])))], [11, 10, 10]⟩, ⟨(some 28), none, .pick (.t 25) (.c (.bool true)) (.t 27), [10, 12]⟩, ⟨(some 29), none, .mv (.t 28), [13, 12]⟩,
    ⟨(some 30), (some (29, false)), .mv (.t 1), [14]⟩, ⟨(some 31), (some (29, false)), .call 24 [(.t 30)], [15, 14, 14]⟩, ⟨(some 32), (some (29, false)), .len false (.t 31), [16, 14]⟩, ⟨(some 33), (some (29, false)), .bin false .neq (.t 32) (.c (.int .i64 0)), [17, 14]⟩, ⟨(some 34), none, .pick (.t 29) (.c (.bool true)) (.t 33), [14, 18]⟩]
@[reducible] def R10_3 : List XO := [⟨(some 0), none, .mv (.c (.bool false)), []⟩]
@[reducible] def R10_4 : List XO := [⟨(some 35), none, .mv (.t 1), []⟩, ⟨(some 36), none, .call 21 [(.t 35), (.c (.str (ByteArray.mk #[110, 117, 108, 108]))), (.c (.str (ByteArray.mk #[109, 46, 65])))], [0]⟩, ⟨(some 37), none, .un .not (.t 36), [1]⟩, ⟨(some 38), none, .mv (.t 37), [2, 1]⟩, ⟨(some 39), (some (38, false)), .mv (.t 1), [3]⟩, ⟨(some 40), (some (38, false)), .call 21 [(.t 39), (.c (.str
    (ByteArray.mk #[105, 110, 116]))), (.c (.str (ByteArray.mk #[105, 110, 116])))], [4, 3, 3]⟩, ⟨(some 41), (some (38, false)), .un .not (.t 40), [5, 3]⟩, ⟨(some 42), none, .pick (.t 38) (.c (.bool true)) (.t 41), [3, 6]⟩, ⟨(some 43), none, .mv (.t 42), [7, 5]⟩, ⟨(some 44), (some (43, false)), .mv (.t 1), [8]⟩, ⟨(some 45), (some (43, false)), .call 21 [(.t 44), (.c (.str (ByteArray.mk #[118, 111,
    105, 100]))), (.c (.str (ByteArray.mk #[118, 111, 105, 100])))], [9, 8, 8]⟩, ⟨(some 46), none, .pick (.t 43) (.c (.bool true)) (.t 45), [8, 10]⟩, ⟨(some 47), none, .mv (.t 46), [11, 10]⟩, ⟨(some 48), (some (47, false)), .mv (.t 1), [12]⟩, ⟨(some 49), (some (47, false)), .call 21 [(.t 48), (.c (.str (ByteArray.mk #[110, 117, 108, 108]))), (.c (.str (ByteArray.mk #[105, 110, 116])))], [13, 12,
    12]⟩, ⟨(some 50), none, .pick (.t 47) (.c (.bool true)) (.t 49), [12, 14]⟩, ⟨(some 51), none, .mv (.t 50), [15, 14]⟩, ⟨(some 52), (some (51, false)), .mv (.t 1), [16]⟩, ⟨(some 53), (some (51, false)), .call 21 [(.t 52), (.c (.str (ByteArray.mk #[105, 110, 116]))), (.c (.str (ByteArray.mk #[98, 111, 111, 108])))], [17, 16, 16]⟩, ⟨(some 54), none, .pick (.t 51) (.c (.bool true)) (.t 53), [16,
    18]⟩]
@[reducible] def R10_5 : List XO := [⟨(some 0), none, .mv (.c (.bool false)), []⟩]
@[reducible] def R10_6 : List XO := [⟨(some 55), none, .bsl 9 1 [(.str (ByteArray.mk #[]))] 1 [(0, (.c (.str (ByteArray.mk #[109, 46, 65]))))], []⟩, ⟨(some 56), none, .call 34 [(.c (.int .i64 2)), (.c (.int .i64 3)), (.c (.str (ByteArray.mk #[109, 46, 65]))), (.c (.bool true)), (.t 55)], [0]⟩, ⟨(some 57), none, .bsl 40 11 [(.int .i64 0), (.int .i64 0), (.str (ByteArray.mk #[])), (.int .i64 0),
    (.str (ByteArray.mk #[])), .nls, .nls, (.bool false), (.int .i64 0), (.int .i64 0), (.int .i64 0)] 1 [(0, (.t 56))], [1]⟩, ⟨(some 58), none, .call 24 [(.t 57)], [2, 1]⟩, ⟨(some 2), none, .mv (.t 58), [3, 3, 0, 1, 2, 3]⟩]
@[reducible] def R10_7 : List XO := [⟨(some 59), none, .build [(.int .i64 0), (.int .i64 0), (.str (ByteArray.mk #[])), (.int .i64 0), (.str (ByteArray.mk #[])), .nls, .nls, (.bool false), (.int .i64 0), (.int .i64 0), (.int .i64 0)] [(0, 1, (.c (.int .i64 1))), (1, 1, (.c (.int .i64 6))), (2, 1, (.c (.str (ByteArray.mk #[109, 46, 118])))), (4, 1, (.c (.str (ByteArray.mk #[118, 111, 105, 100])))),
    (9, 1, (.c (.int .i64 7)))], []⟩, ⟨(some 60), none, .bsl 40 11 [(.int .i64 0), (.int .i64 0), (.str (ByteArray.mk #[])), (.int .i64 0), (.str (ByteArray.mk #[])), .nls, .nls, (.bool false), (.int .i64 0), (.int .i64 0), (.int .i64 0)] 1 [(0, (.t 59))], [0]⟩, ⟨(some 61), none, .call 24 [(.t 60)], [1]⟩, ⟨(some 3), none, .mv (.t 61), [2, 2, 0, 1, 2]⟩]
@[reducible] def R10_8 : List XO := [⟨(some 62), none, .bsl 9 1 [(.str (ByteArray.mk #[]))] 1 [(0, (.c (.str (ByteArray.mk #[109, 46, 73]))))], []⟩, ⟨(some 63), none, .call 34 [(.c (.int .i64 2)), (.c (.int .i64 3)), (.c (.str (ByteArray.mk #[109, 46, 65]))), (.c (.bool true)), (.t 62)], [0]⟩, ⟨(some 64), none, .call 34 [(.c (.int .i64 4)), (.c (.int .i64 4)), (.c (.str (ByteArray.mk #[109, 46,
    73]))), (.c (.bool false)), (.c .nls)], [1]⟩, ⟨(some 65), none, .bsl 40 11 [(.int .i64 0), (.int .i64 0), (.str (ByteArray.mk #[])), (.int .i64 0), (.str (ByteArray.mk #[])), .nls, .nls, (.bool false), (.int .i64 0), (.int .i64 0), (.int .i64 0)] 2 [(0, (.t 63)), (1, (.t 64))], [1, 2]⟩, ⟨(some 66), none, .call 24 [(.t 65)], [3, 2]⟩, ⟨(some 4), none, .mv (.t 66), [4, 4, 0, 1, 2, 3, 4]⟩]
@[reducible] def R10_9 : List XO := [⟨(some 67), none, .build [(.int .i64 0), (.int .i64 0), (.str (ByteArray.mk #[])), (.int .i64 0), (.str (ByteArray.mk #[])), .nls, .nls, (.bool false), (.int .i64 0), (.int .i64 0), (.int .i64 0)] [(0, 1, (.c (.int .i64 1))), (1, 1, (.c (.int .i64 5))), (2, 1, (.c (.str (ByteArray.mk #[109, 46, 102])))), (4, 1, (.c (.str (ByteArray.mk #[109, 46, 84]))))], []⟩,
    ⟨(some 68), none, .bsl 40 11 [(.int .i64 0), (.int .i64 0), (.str (ByteArray.mk #[])), (.int .i64 0), (.str (ByteArray.mk #[])), .nls, .nls, (.bool false), (.int .i64 0), (.int .i64 0), (.int .i64 0)] 1 [(0, (.t 67))], [0]⟩, ⟨(some 69), none, .call 24 [(.t 68)], [1]⟩, ⟨(some 5), none, .mv (.t 69), [2, 2, 0, 1, 2]⟩]
@[reducible] def R10_10 : List XO := [⟨(some 70), none, .mv (.t 2), []⟩, ⟨(some 71), none, .len false (.t 70), [0]⟩, ⟨(some 72), none, .bin false .eql (.t 71) (.c (.int .i64 1)), [1]⟩, ⟨(some 73), none, .mv (.t 72), [2]⟩, ⟨(some 74), (some (73, true)), .mv (.t 2), [3]⟩, ⟨(some 75), (some (73, true)), .iaS 3 (.t 74) (.c (.int .i64 0)), [4, 3]⟩, ⟨(some 76), (some (73, true)), .fad 2 (.t 75), [5, 3]⟩,
    ⟨(some 77), (some (73, true)), .load 1 false (.t 76), [6, 3]⟩, ⟨(some 78), (some (73, true)), .bin false .eql (.t 77) (.c (.int .i64 10)), [7, 3]⟩, ⟨(some 79), none, .pick (.t 73) (.t 78) (.c (.bool false)), [3, 8]⟩, ⟨(some 80), none, .mv (.t 79), [9, 3]⟩, ⟨(some 81), (some (80, true)), .mv (.t 3), [10]⟩, ⟨(some 82), (some (80, true)), .len false (.t 81), [11, 10]⟩, ⟨(some 83), (some (80,
    true)), .bin false .eql (.t 82) (.c (.int .i64 1)), [12, 10]⟩, ⟨(some 84), none, .pick (.t 80) (.t 83) (.c (.bool false)), [10, 13]⟩, ⟨(some 85), none, .mv (.t 84), [14, 10]⟩, ⟨(some 86), (some (85, true)), .mv (.t 3), [15]⟩, ⟨(some 87), (some (85, true)), .iaS 3 (.t 86) (.c (.int .i64 0)), [16, 15]⟩, ⟨(some 88), (some (85, true)), .load 3 true (.t 87), [17, 15]⟩, ⟨(some 89), (some (85, true)),
    .build [(.int .i64 0), (.int .i64 0), (.int .i64 0)] [(1, 1, (.c (.int .i64 7))), (2, 1, (.c (.int .i64 13)))], [15]⟩, ⟨(some 90), (some (85, true)), .eqs false [0, 0, 0] (.t 88) (.t 89), [18, 19, 15]⟩, ⟨(some 91), none, .pick (.t 85) (.t 90) (.c (.bool false)), [15, 20]⟩, ⟨(some 92), none, .mv (.t 91), [21, 15]⟩, ⟨(some 93), (some (92, true)), .mv (.t 4), [22]⟩, ⟨(some 94), (some (92, true)),
    .len false (.t 93), [23, 22]⟩, ⟨(some 95), (some (92, true)), .bin false .eql (.t 94) (.c (.int .i64 1)), [24, 22]⟩, ⟨(some 96), none, .pick (.t 92) (.t 95) (.c (.bool false)), [22, 25]⟩, ⟨(some 97), none, .mv (.t 96), [26, 22]⟩, ⟨(some 98), (some (97, true)), .mv (.t 4), [27]⟩, ⟨(some 99), (some (97, true)), .iaS 3 (.t 98) (.c (.int .i64 0)), [28, 27]⟩, ⟨(some 100), (some (97, true)), .fad 2
    (.t 99), [29, 27]⟩, ⟨(some 101), (some (97, true)), .load 1 false (.t 100), [30, 27]⟩, ⟨(some 102), (some (97, true)), .bin false .eql (.t 101) (.c (.int .i64 13)), [31, 27]⟩, ⟨(some 103), none, .pick (.t 97) (.t 102) (.c (.bool false)), [27, 32]⟩, ⟨(some 104), none, .mv (.t 103), [33, 27]⟩, ⟨(some 105), (some (104, true)), .mv (.t 5), [34]⟩, ⟨(some 106), (some (104, true)), .len false (.t
    105), [35, 34]⟩, ⟨(some 107), (some (104, true)), .bin false .eql (.t 106) (.c (.int .i64 1)), [36, 34]⟩, ⟨(some 108), none, .pick (.t 104) (.t 107) (.c (.bool false)), [34, 37]⟩, ⟨(some 109), none, .mv (.t 108), [38, 34]⟩, ⟨(some 110), (some (109, true)), .mv (.t 5), [39]⟩, ⟨(some 111), (some (109, true)), .iaS 3 (.t 110) (.c (.int .i64 0)), [40, 39]⟩, ⟨(some 112), (some (109, true)), .fad 2
    (.t 111), [41, 39]⟩, ⟨(some 113), (some (109, true)), .load 1 false (.t 112), [42, 39]⟩, ⟨(some 114), (some (109, true)), .bin false .eql (.t 113) (.c (.int .i64 12)), [43, 39]⟩, ⟨(some 115), none, .pick (.t 109) (.t 114) (.c (.bool false)), [39, 44]⟩, ⟨(some 0), none, .mv (.t 115), [45, 39, 0, 1, 2, 3, 4, 5, 6, 7, 8, 9, 10, 11, 12, 13, 14, 15, 16, 17, 18, 19, 20, 21, 22, 23, 24, 25, 26, 27,
    28, 29, 30, 31, 32, 33, 34, 35, 36, 37, 38, 39, 40, 41, 42, 43, 44, 45]⟩]
@[reducible] def F10 : XF := ⟨116, (.seq (.reg false [] R10_0) (.seq (.reg false [] R10_1) (.seq (.seq (.reg false [] R10_2) (.cond (.t 34) (.seq (.reg false [] R10_3) .ret) .skip)) (.seq (.seq (.reg false [] R10_4) (.cond (.t 54) (.seq (.reg false [] R10_5) .ret) .skip)) (.seq (.reg false [] R10_6) (.seq (.reg false [] R10_7) (.seq (.reg false [] R10_8) (.seq (.reg false [] R10_9) (.seq (.reg
    false [] R10_10) .ret))))))))), [(0, none)]⟩
/-- codesearch/codesearchlaw15.small -/
@[reducible] def R11_0 : List XO := [⟨(some 2), none, .mv (.c (.bool false)), []⟩]
@[reducible] def R11_1 : List XO := [⟨(some 4), none, .mv (.t 0), []⟩, ⟨(some 5), none, .len false (.t 4), [0]⟩, ⟨(some 6), none, .bin false .gtr (.t 5) (.c (.int .i64 60)), [1]⟩]
@[reducible] def R11_2 : List XO := [⟨(some 2), none, .mv (.c (.bool false)), []⟩]
@[reducible] def R11_3 : List XO := [⟨(some 3), none, .mv (.c (.int .i64 0)), []⟩]
@[reducible] def R11_4 : List XO := [⟨(some 7), none, .mv (.t 3), []⟩, ⟨(some 8), none, .mv (.t 0), []⟩, ⟨(some 9), none, .len false (.t 8), [1]⟩, ⟨(some 10), none, .bin false .lss (.t 7) (.t 9), [0, 2]⟩]
@[reducible] def R11_5 : List XO := [⟨(some 13), none, .mv (.t 0), []⟩, ⟨(some 14), none, .mv (.t 3), []⟩, ⟨(some 15), none, .iaS 11 (.t 13) (.t 14), [0, 1]⟩, ⟨(some 16), none, .fad 6 (.t 15), [2]⟩, ⟨(some 17), none, .load 1 false (.t 16), [3]⟩, ⟨(some 18), none, .len false (.t 17), [4]⟩, ⟨(some 19), none, .bin false .gtr (.t 18) (.c (.int .i64 20)), [5]⟩]
@[reducible] def R11_6 : List XO := [⟨(some 2), none, .mv (.c (.bool false)), []⟩]
@[reducible] def R11_7 : List XO := [⟨(some 11), none, .mv (.t 3), []⟩, ⟨(some 12), none, .bin false .add (.t 11) (.c (.int .i64 1)), [0]⟩, ⟨(some 3), none, .mv (.t 12), [1, 0, 1]⟩]
@[reducible] def L11_0 : XC := (.seq (.seq (.reg false [] R11_4) (.cond (.t 10) .skip (.exit 0))) (.seq (.blk 1 (.seq (.reg false [] R11_5) (.cond (.t 19) (.seq (.reg false [] R11_6) .ret) .skip))) (.reg false [] R11_7)))
@[reducible] def R11_8 : List XO := [⟨(some 2), none, .mv (.c (.bool true)), []⟩]
@[reducible] def F11 : XF := ⟨20, (.seq (.reg false [] R11_0) (.seq (.seq (.reg false [] R11_1) (.cond (.t 6) (.seq (.reg false [] R11_2) .ret) .skip)) (.seq (.seq (.reg false [] R11_3) (.blk 0 (.loop L11_0))) (.seq (.reg false [] R11_8) .ret)))), [(2, none)]⟩
/-- codesearch/types.Basic -/
@[reducible] def R12_0 : List XO := [⟨(some 2), none, .mv (.c (.bool false)), []⟩]
@[reducible] def R12_1 : List XO := [⟨(some 3), none, .mv (.t 0), []⟩, ⟨(some 4), none, .bin false .eql (.t 3) (.c (.str (ByteArray.mk #[105, 110, 116]))), [0]⟩, ⟨(some 5), none, .mv (.t 4), [1]⟩, ⟨(some 6), (some (5, false)), .mv (.t 0), [2]⟩, ⟨(some 7), (some (5, false)), .bin false .eql (.t 6) (.c (.str (ByteArray.mk #[98, 111, 111, 108]))), [3, 2]⟩, ⟨(some 8), none, .pick (.t 5) (.c (.bool
    true)) (.t 7), [2, 4]⟩, ⟨(some 9), none, .mv (.t 8), [5, 2]⟩, ⟨(some 10), (some (9, false)), .mv (.t 0), [6]⟩, ⟨(some 11), (some (9, false)), .bin false .eql (.t 10) (.c (.str (ByteArray.mk #[115, 116, 114, 105, 110, 103]))), [7, 6]⟩, ⟨(some 12), none, .pick (.t 9) (.c (.bool true)) (.t 11), [6, 8]⟩, ⟨(some 13), none, .mv (.t 12), [9, 6]⟩, ⟨(some 14), (some (13, false)), .mv (.t 0), [10]⟩,
    ⟨(some 15), (some (13, false)), .bin false .eql (.t 14) (.c (.str (ByteArray.mk #[118, 111, 105, 100]))), [11, 10]⟩, ⟨(some 16), none, .pick (.t 13) (.c (.bool true)) (.t 15), [10, 12]⟩, ⟨(some 2), none, .mv (.t 16), [13, 10, 0, 1, 2, 3, 4, 5, 6, 7, 8, 9, 10, 11, 12, 13]⟩]
@[reducible] def F12 : XF := ⟨17, (.seq (.reg false [] R12_0) (.seq (.reg false [] R12_1) .ret)), [(2, none)]⟩
/-- codesearch/codesearchref15.Basic -/
@[reducible] def R13_0 : List XO := [⟨(some 2), none, .mv (.c (.bool false)), []⟩]
@[reducible] def R13_1 : List XO := [⟨(some 3), none, .mv (.t 0), []⟩, ⟨(some 4), none, .bin false .eql (.t 3) (.c (.str (ByteArray.mk #[105, 110, 116]))), [0]⟩, ⟨(some 5), none, .mv (.t 4), [1]⟩, ⟨(some 6), (some (5, false)), .mv (.t 0), [2]⟩, ⟨(some 7), (some (5, false)), .bin false .eql (.t 6) (.c (.str (ByteArray.mk #[98, 111, 111, 108]))), [3, 2]⟩, ⟨(some 8), none, .pick (.t 5) (.c (.bool
    true)) (.t 7), [2, 4]⟩, ⟨(some 9), none, .mv (.t 8), [5, 2]⟩, ⟨(some 10), (some (9, false)), .mv (.t 0), [6]⟩, ⟨(some 11), (some (9, false)), .bin false .eql (.t 10) (.c (.str (ByteArray.mk #[115, 116, 114, 105, 110, 103]))), [7, 6]⟩, ⟨(some 12), none, .pick (.t 9) (.c (.bool true)) (.t 11), [6, 8]⟩, ⟨(some 13), none, .mv (.t 12), [9, 6]⟩, ⟨(some 14), (some (13, false)), .mv (.t 0), [10]⟩,
    ⟨(some 15), (some (13, false)), .bin false .eql (.t 14) (.c (.str (ByteArray.mk #[118, 111, 105, 100]))), [11, 10]⟩, ⟨(some 16), none, .pick (.t 13) (.c (.bool true)) (.t 15), [10, 12]⟩, ⟨(some 2), none, .mv (.t 16), [13, 10, 0, 1, 2, 3, 4, 5, 6, 7, 8, 9, 10, 11, 12, 13]⟩]
@[reducible] def F13 : XF := ⟨17, (.seq (.reg false [] R13_0) (.seq (.reg false [] R13_1) .ret)), [(2, none)]⟩
/-- codesearch/types.Known -/
@[reducible] def R14_0 : List XO := [⟨(some 4), none, .mv (.c (.bool false)), []⟩]
@[reducible] def R14_1 : List XO := [⟨(some 8), none, .mv (.t 0), []⟩, ⟨(some 9), none, .mv (.t 1), []⟩, ⟨(some 10), none, .call 35 [(.t 8), (.t 9)], [0, 1]⟩, ⟨(some 7), none, .mv (.t 10), [2]⟩, ⟨(some 11), none, .ext (.t 7) 0, [3]⟩, ⟨(some 12), none, .ext (.t 7) 1, [3]⟩, ⟨(some 5), none, .alloc [(.int .i64 0), (.int .i64 0), (.str (ByteArray.mk #[])), (.int .i64 0), (.str (ByteArray.mk #[])),
    .nls, .nls, (.bool false), (.int .i64 0), (.int .i64 0), (.int .i64 0)], []⟩, ⟨none, none, .store 11 (.t 5) (.t 11), [6, 4, 2, 0, 1, 2, 3, 4, 6]⟩, ⟨(some 6), none, .mv (.t 12), [5, 7, 0, 1, 2, 3, 4, 5, 6, 7]⟩]
@[reducible] def R14_2 : List XO := [⟨(some 13), none, .mv (.t 6), []⟩, ⟨(some 14), none, .mv (.t 13), [0]⟩, ⟨(some 15), (some (14, false)), .mv (.t 1), [1]⟩, ⟨(some 16), (some (14, false)), .call 12 [(.t 15)], [2, 1, 1]⟩, ⟨(some 17), none, .pick (.t 14) (.c (.bool true)) (.t 16), [1, 3]⟩, ⟨(some 4), none, .mv (.t 17), [4, 3, 0, 1, 2, 3, 4]⟩]
@[reducible] def F14 : XF := ⟨18, (.seq (.reg false [] R14_0) (.seq (.reg false [] R14_1) (.seq (.reg false [] R14_2) .ret))), [(4, none)]⟩
/-- codesearch/codesearchref15.Known -/
@[reducible] def R15_0 : List XO := [⟨(some 4), none, .mv (.c (.bool false)), []⟩]
@[reducible] def R15_1 : List XO := [⟨(some 8), none, .mv (.t 0), []⟩, ⟨(some 9), none, .mv (.t 1), []⟩, ⟨(some 10), none, .call 36 [(.t 8), (.t 9)], [0, 1]⟩, ⟨(some 7), none, .mv (.t 10), [2]⟩, ⟨(some 11), none, .ext (.t 7) 0, [3]⟩, ⟨(some 12), none, .ext (.t 7) 1, [3]⟩, ⟨(some 5), none, .alloc [(.int .i64 0), (.int .i64 0), (.str (ByteArray.mk #[])), (.int .i64 0), (.str (ByteArray.mk #[])),
    .nls, .nls, (.bool false), (.int .i64 0), (.int .i64 0), (.int .i64 0)], []⟩, ⟨none, none, .store 11 (.t 5) (.t 11), [6, 4, 2, 0, 1, 2, 3, 4, 6]⟩, ⟨(some 6), none, .mv (.t 12), [5, 7, 0, 1, 2, 3, 4, 5, 6, 7]⟩]
@[reducible] def R15_2 : List XO := [⟨(some 13), none, .mv (.t 1), []⟩, ⟨(some 14), none, .call 13 [(.t 13)], [0]⟩, ⟨(some 15), none, .mv (.t 14), [1, 1]⟩, ⟨(some 16), (some (15, false)), .mv (.t 6), [2]⟩, ⟨(some 17), none, .pick (.t 15) (.c (.bool true)) (.t 16), [2, 3]⟩, ⟨(some 4), none, .mv (.t 17), [4, 2, 0, 1, 2, 3, 4]⟩]
@[reducible] def F15 : XF := ⟨18, (.seq (.reg false [] R15_0) (.seq (.reg false [] R15_1) (.seq (.reg false [] R15_2) .ret))), [(4, none)]⟩
/-- codesearch/codesearchref15.SameTexts -/
@[reducible] def R16_0 : List XO := [⟨(some 4), none, .mv (.c (.bool false)), []⟩]
@[reducible] def R16_1 : List XO := [⟨(some 5), none, .mv (.t 0), []⟩, ⟨(some 6), none, .mv (.t 1), []⟩, ⟨(some 7), none, .call 37 [(.t 5), (.t 6)], [0, 1]⟩, ⟨(some 4), none, .mv (.t 7), [2, 2, 0, 1, 2]⟩]
@[reducible] def F16 : XF := ⟨8, (.seq (.reg false [] R16_0) (.seq (.reg false [] R16_1) .ret)), [(4, none)]⟩
/-- codesearch/types.Supers -/
@[reducible] def R17_0 : List XO := [⟨(some 2), none, .box 1 (.t 0), []⟩, ⟨(some 4), none, .mv (.c .nls), []⟩]
@[reducible] def R17_1 : List XO := [⟨(some 5), none, .alloc [.nls], []⟩]
@[reducible] def R17_2 : List XO := [⟨(some 9), none, .mkmap, []⟩, ⟨(some 10), none, .mv (.t 1), []⟩, ⟨none, none, .mput (.t 9) (.t 10) (.c (.int .i64 1)), [0, 1]⟩, ⟨(some 11), none, .mv (.t 9), [0, 1, 2]⟩, ⟨(some 6), none, .alloc [.nlf], []⟩, ⟨none, none, .store 1 (.t 6) (.t 11), [4, 3, 0, 1, 2, 3, 4]⟩]
@[reducible] def R17_3 : List XO := [⟨(some 12), none, .mkfn 38 [(.t 2), (.t 6), (.t 5)], []⟩, ⟨(some 7), none, .mv (.t 12), [0, 0]⟩]
@[reducible] def R17_4 : List XO := [⟨(some 13), none, .mv (.t 7), []⟩, ⟨(some 14), none, .mv (.t 1), []⟩, ⟨(some 15), none, .callv (.t 13) [(.t 14)], [0, 1]⟩]
@[reducible] def R17_5 : List XO := [⟨(some 8), none, .mv (.c (.int .i64 0)), []⟩]
@[reducible] def R17_6 : List XO := [⟨(some 16), none, .mv (.t 8), []⟩, ⟨(some 17), none, .load 1 false (.t 5), []⟩, ⟨(some 18), none, .len false (.t 17), [1]⟩, ⟨(some 19), none, .bin false .lss (.t 16) (.t 18), [0, 2]⟩]
@[reducible] def R17_7 : List XO := [⟨(some 22), none, .mv (.t 7), []⟩, ⟨(some 23), none, .load 1 false (.t 5), []⟩, ⟨(some 24), none, .mv (.t 8), []⟩, ⟨(some 25), none, .iaS 1 (.t 23) (.t 24), [1, 2]⟩, ⟨(some 26), none, .load 1 false (.t 25), [3]⟩, ⟨(some 27), none, .callv (.t 22) [(.t 26)], [0, 4]⟩]
@[reducible] def R17_8 : List XO := [⟨(some 20), none, .mv (.t 8), []⟩, ⟨(some 21), none, .bin false .add (.t 20) (.c (.int .i64 1)), [0]⟩, ⟨(some 8), none, .mv (.t 21), [1, 0, 1]⟩]
@[reducible] def L17_0 : XC := (.seq (.seq (.reg false [] R17_6) (.cond (.t 19) .skip (.exit 0))) (.seq (.blk 1 (.reg false [] R17_7)) (.reg false [] R17_8)))
@[reducible] def R17_9 : List XO := [⟨(some 28), none, .load 1 false (.t 5), []⟩, ⟨(some 4), none, .mv (.t 28), [0, 0]⟩]
@[reducible] def F17 : XF := ⟨29, (.seq (.reg false [] R17_0) (.seq (.reg false [] R17_1) (.seq (.reg false [] R17_2) (.seq (.reg false [] R17_3) (.seq (.reg false [] R17_4) (.seq (.seq (.reg false [] R17_5) (.blk 0 (.loop L17_0))) (.seq (.reg false [] R17_9) .ret))))))), [(4, none)]⟩
/-- codesearch/codesearchref15.Supers -/
@[reducible] def R18_0 : List XO := [⟨(some 4), none, .mv (.c .nls), []⟩]
@[reducible] def R18_1 : List XO := [⟨(some 11), none, .mv (.t 0), []⟩, ⟨(some 12), none, .mv (.t 1), []⟩, ⟨(some 13), none, .call 36 [(.t 11), (.t 12)], [0, 1]⟩, ⟨(some 10), none, .mv (.t 13), [2]⟩, ⟨(some 14), none, .ext (.t 10) 0, [3]⟩, ⟨(some 15), none, .ext (.t 10) 1, [3]⟩, ⟨(some 5), none, .alloc [(.int .i64 0), (.int .i64 0), (.str (ByteArray.mk #[])), (.int .i64 0), (.str (ByteArray.mk
    #[])), .nls, .nls, (.bool false), (.int .i64 0), (.int .i64 0), (.int .i64 0)], []⟩, ⟨none, none, .store 11 (.t 5) (.t 14), [6, 4, 2, 0, 1, 2, 3, 4, 6]⟩, ⟨(some 6), none, .mv (.t 15), [5, 7, 0, 1, 2, 3, 4, 5, 6, 7]⟩]
@[reducible] def R18_2 : List XO := [⟨(some 16), none, .mv (.t 6), []⟩, ⟨(some 17), none, .un .not (.t 16), [0]⟩]
@[reducible] def R18_3 : List XO := [⟨(some 4), none, .mv (.c .nls), []⟩]
@[reducible] def R18_4 : List XO := [⟨(some 7), none, .mv (.c .nls), []⟩]
@[reducible] def R18_5 : List XO := [⟨(some 8), none, .mv (.c (.int .i64 (-1))), []⟩]
@[reducible] def R18_6 : List XO := [⟨(some 18), none, .mv (.t 8), []⟩, ⟨(some 19), none, .mv (.t 7), []⟩, ⟨(some 20), none, .len false (.t 19), [1]⟩, ⟨(some 21), none, .bin false .lss (.t 18) (.t 20), [0, 2]⟩]
@[reducible] def R18_7 : List XO := [⟨(some 24), none, .mv (.t 8), []⟩, ⟨(some 25), none, .bin false .geq (.t 24) (.c (.int .i64 0)), [0]⟩]
@[reducible] def R18_8 : List XO := [⟨(some 27), none, .mv (.t 0), []⟩, ⟨(some 28), none, .mv (.t 7), []⟩, ⟨(some 29), none, .mv (.t 8), []⟩, ⟨(some 30), none, .iaS 1 (.t 28) (.t 29), [1, 2]⟩, ⟨(some 31), none, .load 1 false (.t 30), [3]⟩, ⟨(some 32), none, .call 36 [(.t 27), (.t 31)], [0, 4]⟩, ⟨(some 26), none, .mv (.t 32), [5]⟩, ⟨(some 33), none, .ext (.t 26) 0, [6]⟩, ⟨(some 34), none, .ext (.t
    26) 1, [6]⟩, ⟨none, none, .store 11 (.t 5) (.t 33), [7, 5, 0, 1, 2, 3, 4, 5, 6, 7]⟩, ⟨(some 6), none, .mv (.t 34), [8, 9, 0, 1, 2, 3, 4, 5, 6, 7, 8, 9]⟩]
@[reducible] def R18_9 : List XO := [⟨(some 9), none, .mv (.c (.int .i64 0)), []⟩]
@[reducible] def R18_10 : List XO := [⟨(some 35), none, .mv (.t 6), []⟩, ⟨(some 36), none, .mv (.t 35), [0]⟩, ⟨(some 37), (some (36, true)), .mv (.t 9), [1]⟩, ⟨(some 38), (some (36, true)), .fad 6 (.t 5), [1]⟩, ⟨(some 39), (some (36, true)), .load 1 false (.t 38), [3, 1]⟩, ⟨(some 40), (some (36, true)), .len false (.t 39), [4, 1]⟩, ⟨(some 41), (some (36, true)), .bin false .lss (.t 37) (.t 40), [2,
    5, 1]⟩, ⟨(some 42), none, .pick (.t 36) (.t 41) (.c (.bool false)), [1, 6]⟩]
@[reducible] def R18_11 : List XO := [⟨(some 45), none, .fad 6 (.t 5), []⟩, ⟨(some 46), none, .load 1 false (.t 45), [0]⟩, ⟨(some 47), none, .mv (.t 9), []⟩, ⟨(some 48), none, .iaS 1 (.t 46) (.t 47), [1, 2]⟩, ⟨(some 49), none, .load 1 false (.t 48), [3]⟩, ⟨(some 50), none, .mv (.t 1), []⟩, ⟨(some 51), none, .bin false .neq (.t 49) (.t 50), [4, 5]⟩, ⟨(some 52), none, .mv (.t 51), [6]⟩, ⟨(some 53),
    (some (52, true)), .mv (.t 7), [7]⟩, ⟨(some 54), (some (52, true)), .fad 6 (.t 5), [7]⟩, ⟨(some 55), (some (52, true)), .load 1 false (.t 54), [9, 7]⟩, ⟨(some 56), (some (52, true)), .mv (.t 9), [7]⟩, ⟨(some 57), (some (52, true)), .iaS 1 (.t 55) (.t 56), [10, 11, 7]⟩, ⟨(some 58), (some (52, true)), .load 1 false (.t 57), [12, 7]⟩, ⟨(some 59), (some (52, true)), .call 39 [(.t 53), (.t 58)], [8,
    13, 7, 7]⟩, ⟨(some 60), (some (52, true)), .un .not (.t 59), [14, 7]⟩, ⟨(some 61), none, .pick (.t 52) (.t 60) (.c (.bool false)), [7, 15]⟩]
@[reducible] def R18_12 : List XO := [⟨(some 62), none, .mv (.t 7), []⟩, ⟨(some 63), none, .fad 6 (.t 5), []⟩, ⟨(some 64), none, .load 1 false (.t 63), [1]⟩, ⟨(some 65), none, .mv (.t 9), []⟩, ⟨(some 66), none, .iaS 1 (.t 64) (.t 65), [2, 3]⟩, ⟨(some 67), none, .load 1 false (.t 66), [4]⟩, ⟨(some 68), none, .bsl 9 1 [(.str (ByteArray.mk #[]))] 1 [(0, (.t 67))], [5]⟩, ⟨(some 69), none, .app 9 1 16
    (.t 62) (.t 68), [0, 6]⟩, ⟨(some 7), none, .mv (.t 69), [7, 7, 0, 1, 2, 3, 4, 5, 6, 7]⟩]
@[reducible] def R18_13 : List XO := [⟨(some 43), none, .mv (.t 9), []⟩, ⟨(some 44), none, .bin false .add (.t 43) (.c (.int .i64 1)), [0]⟩, ⟨(some 9), none, .mv (.t 44), [1, 0, 1]⟩]
@[reducible] def L18_0 : XC := (.seq (.seq (.reg false [] R18_10) (.cond (.t 42) .skip (.exit 2))) (.seq (.blk 3 (.seq (.reg false [] R18_11) (.cond (.t 61) (.reg false [] R18_12) .skip))) (.reg false [] R18_13)))
@[reducible] def R18_14 : List XO := [⟨(some 22), none, .mv (.t 8), []⟩, ⟨(some 23), none, .bin false .add (.t 22) (.c (.int .i64 1)), [0]⟩, ⟨(some 8), none, .mv (.t 23), [1, 0, 1]⟩]
@[reducible] def L18_1 : XC := (.seq (.seq (.reg false [] R18_6) (.cond (.t 21) .skip (.exit 0))) (.seq (.blk 1 (.seq (.seq (.reg false [] R18_7) (.cond (.t 25) (.reg false [] R18_8) .skip)) (.seq (.reg false [] R18_9) (.blk 2 (.loop L18_0))))) (.reg false [] R18_14)))
@[reducible] def R18_15 : List XO := [⟨(some 70), none, .mv (.t 7), []⟩, ⟨(some 4), none, .mv (.t 70), [0, 0]⟩]
@[reducible] def F18 : XF := ⟨71, (.seq (.reg false [] R18_0) (.seq (.reg false [] R18_1) (.seq (.seq (.reg false [] R18_2) (.cond (.t 17) (.seq (.reg false [] R18_3) .ret) .skip)) (.seq (.reg false [] R18_4) (.seq (.seq (.reg false [] R18_5) (.blk 0 (.loop L18_1))) (.seq (.reg false [] R18_15) .ret)))))), [(4, none)]⟩
/-- codesearch/types.Sub -/
@[reducible] def R19_0 : List XO := [⟨(some 6), none, .mv (.c (.bool false)), []⟩]
@[reducible] def R19_1 : List XO := [⟨(some 7), none, .mv (.t 1), []⟩, ⟨(some 8), none, .mv (.t 2), []⟩, ⟨(some 9), none, .bin false .eql (.t 7) (.t 8), [0, 1]⟩, ⟨(some 10), none, .mv (.t 9), [2]⟩, ⟨(some 11), (some (10, false)), .mv (.t 0), [3]⟩, ⟨(some 12), (some (10, false)), .mv (.t 1), [3]⟩, ⟨(some 13), (some (10, false)), .call 17 [(.t 11), (.t 12)], [4, 5, 3, 3]⟩, ⟨(some 14), (some (10,
    false)), .mv (.t 2), [3]⟩, ⟨(some 15), (some (10, false)), .call 40 [(.t 13), (.t 14)], [6, 7, 6, 3]⟩, ⟨(some 16), none, .pick (.t 10) (.c (.bool true)) (.t 15), [3, 8]⟩, ⟨(some 6), none, .mv (.t 16), [9, 8, 0, 1, 2, 3, 4, 5, 6, 7, 8, 9]⟩]
@[reducible] def F19 : XF := ⟨17, (.seq (.reg false [] R19_0) (.seq (.reg false [] R19_1) .ret)), [(6, none)]⟩
/-- codesearch/codesearchref15.Sub -/
@[reducible] def R20_0 : List XO := [⟨(some 6), none, .mv (.c (.bool false)), []⟩]
@[reducible] def R20_1 : List XO := [⟨(some 7), none, .mv (.t 1), []⟩, ⟨(some 8), none, .mv (.t 2), []⟩, ⟨(some 9), none, .bin false .eql (.t 7) (.t 8), [0, 1]⟩, ⟨(some 10), none, .mv (.t 9), [2]⟩, ⟨(some 11), (some (10, false)), .mv (.t 0), [3]⟩, ⟨(some 12), (some (10, false)), .mv (.t 1), [3]⟩, ⟨(some 13), (some (10, false)), .call 18 [(.t 11), (.t 12)], [4, 5, 3, 3]⟩, ⟨(some 14), (some (10,
    false)), .mv (.t 2), [3]⟩, ⟨(some 15), (some (10, false)), .call 39 [(.t 13), (.t 14)], [6, 7, 6, 3]⟩, ⟨(some 16), none, .pick (.t 10) (.c (.bool true)) (.t 15), [3, 8]⟩, ⟨(some 6), none, .mv (.t 16), [9, 8, 0, 1, 2, 3, 4, 5, 6, 7, 8, 9]⟩]
@[reducible] def F20 : XF := ⟨17, (.seq (.reg false [] R20_0) (.seq (.reg false [] R20_1) .ret)), [(6, none)]⟩
/-- codesearch/types.Fits -/
@[reducible] def R21_0 : List XO := [⟨(some 6), none, .mv (.c (.bool false)), []⟩]
@[reducible] def R21_1 : List XO := [⟨(some 12), none, .mv (.t 0), []⟩, ⟨(some 13), none, .mv (.t 1), []⟩, ⟨(some 14), none, .call 35 [(.t 12), (.t 13)], [0, 1]⟩, ⟨(some 11), none, .mv (.t 14), [2]⟩, ⟨(some 15), none, .ext (.t 11) 0, [3]⟩, ⟨(some 16), none, .ext (.t 11) 1, [3]⟩, ⟨(some 7), none, .alloc [(.int .i64 0), (.int .i64 0), (.str (ByteArray.mk #[])), (.int .i64 0), (.str (ByteArray.mk
    #[])), .nls, .nls, (.bool false), (.int .i64 0), (.int .i64 0), (.int .i64 0)], []⟩, ⟨none, none, .store 11 (.t 7) (.t 15), [6, 4, 2, 0, 1, 2, 3, 4, 6]⟩, ⟨(some 8), none, .mv (.t 16), [5, 7, 0, 1, 2, 3, 4, 5, 6, 7]⟩]
@[reducible] def R21_2 : List XO := [⟨(some 18), none, .mv (.t 0), []⟩, ⟨(some 19), none, .mv (.t 2), []⟩, ⟨(some 20), none, .call 35 [(.t 18), (.t 19)], [0, 1]⟩, ⟨(some 17), none, .mv (.t 20), [2]⟩, ⟨(some 21), none, .ext (.t 17) 0, [3]⟩, ⟨(some 22), none, .ext (.t 17) 1, [3]⟩, ⟨(some 9), none, .alloc [(.int .i64 0), (.int .i64 0), (.str (ByteArray.mk #[])), (.int .i64 0), (.str (ByteArray.mk
    #[])), .nls, .nls, (.bool false), (.int .i64 0), (.int .i64 0), (.int .i64 0)], []⟩, ⟨none, none, .store 11 (.t 9) (.t 21), [6, 4, 2, 0, 1, 2, 3, 4, 6]⟩, ⟨(some 10), none, .mv (.t 22), [5, 7, 0, 1, 2, 3, 4, 5, 6, 7]⟩]
@[reducible] def R21_3 : List XO := [⟨(some 23), none, .mv (.t 1), []⟩, ⟨(some 24), none, .mv (.t 2), []⟩, ⟨(some 25), none, .bin false .eql (.t 23) (.t 24), [0, 1]⟩, ⟨(some 26), none, .mv (.t 25), [2]⟩, ⟨(some 27), (some (26, true)), .mv (.t 1), [3]⟩, ⟨(some 28), (some (26, true)), .bin false .neq (.t 27) (.c (.str (ByteArray.mk #[118, 111, 105, 100]))), [4, 3]⟩, ⟨(some 29), none, .pick (.t 26)
    (.t 28) (.c (.bool false)), [3, 5]⟩, ⟨(some 30), none, .mv (.t 29), [6, 3]⟩, ⟨(some 31), (some (30, true)), .mv (.t 0), [7]⟩, ⟨(some 32), (some (30, true)), .mv (.t 1), [7]⟩, ⟨(some 33), (some (30, true)), .call 14 [(.t 31), (.t 32)], [8, 9, 7, 7]⟩, ⟨(some 34), none, .pick (.t 30) (.t 33) (.c (.bool false)), [7, 10]⟩]
@[reducible] def R21_4 : List XO := [⟨(some 6), none, .mv (.c (.bool true)), []⟩]
@[reducible] def R21_5 : List XO := [⟨(some 35), none, .mv (.t 10), []⟩, ⟨(some 36), none, .mv (.t 35), [0]⟩, ⟨(some 37), (some (36, true)), .mv (.t 1), [1]⟩, ⟨(some 38), (some (36, true)), .bin false .eql (.t 37) (.c (.str (ByteArray.mk #[110, 117, 108, 108]))), [2, 1]⟩, ⟨(some 39), (some (36, true)), .mv (.t 38), [3, 1, 1]⟩, ⟨(some 40), (some (39, false)), .mv (.t 8), [4]⟩, ⟨(some 41), (some (39,
    false)), .mv (.t 40), [5, 4, 4]⟩, ⟨(some 42), (some (41, true)), .mv (.t 0), [6]⟩, ⟨(some 43), (some (41, true)), .mv (.t 1), [6]⟩, ⟨(some 44), (some (41, true)), .mv (.t 2), [6]⟩, ⟨(some 45), (some (41, true)), .call 19 [(.t 42), (.t 43), (.t 44)], [7, 8, 9, 6, 6]⟩, ⟨(some 46), (some (39, false)), .pick (.t 41) (.t 45) (.c (.bool false)), [6, 10, 4]⟩, ⟨(some 47), (some (36, true)), .pick (.t
    39) (.c (.bool true)) (.t 46), [4, 11, 1]⟩, ⟨(some 48), none, .pick (.t 36) (.t 47) (.c (.bool false)), [1, 12]⟩, ⟨(some 6), none, .mv (.t 48), [13, 10, 0, 1, 2, 3, 4, 5, 6, 7, 8, 9, 10, 11, 12, 13]⟩]
@[reducible] def F21 : XF := ⟨49, (.seq (.reg false [] R21_0) (.seq (.reg false [] R21_1) (.seq (.reg false [] R21_2) (.seq (.seq (.reg false [] R21_3) (.cond (.t 34) (.seq (.reg false [] R21_4) .ret) .skip)) (.seq (.reg false [] R21_5) .ret))))), [(6, none)]⟩
/-- codesearch/codesearchref15.Fits -/
@[reducible] def R22_0 : List XO := [⟨(some 6), none, .mv (.c (.bool false)), []⟩]
@[reducible] def R22_1 : List XO := [⟨(some 11), none, .mv (.t 1), []⟩, ⟨(some 12), none, .mv (.t 2), []⟩, ⟨(some 13), none, .bin false .eql (.t 11) (.t 12), [0, 1]⟩, ⟨(some 14), none, .mv (.t 13), [2]⟩, ⟨(some 15), (some (14, true)), .mv (.t 0), [3]⟩, ⟨(some 16), (some (14, true)), .mv (.t 1), [3]⟩, ⟨(some 17), (some (14, true)), .call 15 [(.t 15), (.t 16)], [4, 5, 3, 3]⟩, ⟨(some 18), none, .pick
    (.t 14) (.t 17) (.c (.bool false)), [3, 6]⟩, ⟨(some 19), none, .mv (.t 18), [7, 6]⟩, ⟨(some 20), (some (19, true)), .mv (.t 1), [8]⟩, ⟨(some 21), (some (19, true)), .bin false .neq (.t 20) (.c (.str (ByteArray.mk #[118, 111, 105, 100]))), [9, 8]⟩, ⟨(some 22), none, .pick (.t 19) (.t 21) (.c (.bool false)), [8, 10]⟩]
@[reducible] def R22_2 : List XO := [⟨(some 6), none, .mv (.c (.bool true)), []⟩]
@[reducible] def R22_3 : List XO := [⟨(some 24), none, .mv (.t 0), []⟩, ⟨(some 25), none, .mv (.t 1), []⟩, ⟨(some 26), none, .call 36 [(.t 24), (.t 25)], [0, 1]⟩, ⟨(some 23), none, .mv (.t 26), [2]⟩, ⟨(some 27), none, .ext (.t 23) 0, [3]⟩, ⟨(some 28), none, .ext (.t 23) 1, [3]⟩, ⟨(some 7), none, .alloc [(.int .i64 0), (.int .i64 0), (.str (ByteArray.mk #[])), (.int .i64 0), (.str (ByteArray.mk
    #[])), .nls, .nls, (.bool false), (.int .i64 0), (.int .i64 0), (.int .i64 0)], []⟩, ⟨none, none, .store 11 (.t 7) (.t 27), [6, 4, 2, 0, 1, 2, 3, 4, 6]⟩, ⟨(some 8), none, .mv (.t 28), [5, 7, 0, 1, 2, 3, 4, 5, 6, 7]⟩]
@[reducible] def R22_4 : List XO := [⟨(some 30), none, .mv (.t 0), []⟩, ⟨(some 31), none, .mv (.t 2), []⟩, ⟨(some 32), none, .call 36 [(.t 30), (.t 31)], [0, 1]⟩, ⟨(some 29), none, .mv (.t 32), [2]⟩, ⟨(some 33), none, .ext (.t 29) 0, [3]⟩, ⟨(some 34), none, .ext (.t 29) 1, [3]⟩, ⟨(some 9), none, .alloc [(.int .i64 0), (.int .i64 0), (.str (ByteArray.mk #[])), (.int .i64 0), (.str (ByteArray.mk
    #[])), .nls, .nls, (.bool false), (.int .i64 0), (.int .i64 0), (.int .i64 0)], []⟩, ⟨none, none, .store 11 (.t 9) (.t 33), [6, 4, 2, 0, 1, 2, 3, 4, 6]⟩, ⟨(some 10), none, .mv (.t 34), [5, 7, 0, 1, 2, 3, 4, 5, 6, 7]⟩]
@[reducible] def R22_5 : List XO := [⟨(some 35), none, .mv (.t 1), []⟩, ⟨(some 36), none, .bin false .eql (.t 35) (.c (.str (ByteArray.mk #[110, 117, 108, 108]))), [0]⟩, ⟨(some 37), none, .mv (.t 36), [1]⟩, ⟨(some 38), (some (37, true)), .mv (.t 10), [2]⟩, ⟨(some 39), none, .pick (.t 37) (.t 38) (.c (.bool false)), [2, 3]⟩, ⟨(some 40), none, .mv (.t 39), [4, 2]⟩, ⟨(some 41), (some (40, false)), .mv
    (.t 8), [5]⟩, ⟨(some 42), (some (40, false)), .mv (.t 41), [6, 5, 5]⟩, ⟨(some 43), (some (42, true)), .mv (.t 10), [7]⟩, ⟨(some 44), (some (40, false)), .pick (.t 42) (.t 43) (.c (.bool false)), [7, 8, 5]⟩, ⟨(some 45), (some (40, false)), .mv (.t 44), [9, 7, 5]⟩, ⟨(some 46), (some (45, true)), .mv (.t 0), [10]⟩, ⟨(some 47), (some (45, true)), .mv (.t 1), [10]⟩, ⟨(some 48), (some (45, true)),
    .mv (.t 2), [10]⟩, ⟨(some 49), (some (45, true)), .call 20 [(.t 46), (.t 47), (.t 48)], [11, 12, 13, 10, 10]⟩, ⟨(some 50), (some (40, false)), .pick (.t 45) (.t 49) (.c (.bool false)), [10, 14, 5]⟩, ⟨(some 51), none, .pick (.t 40) (.c (.bool true)) (.t 50), [5, 15]⟩, ⟨(some 6), none, .mv (.t 51), [16, 14, 0, 1, 2, 3, 4, 5, 6, 7, 8, 9, 10, 11, 12, 13, 14, 15, 16]⟩]
@[reducible] def F22 : XF := ⟨52, (.seq (.reg false [] R22_0) (.seq (.seq (.reg false [] R22_1) (.cond (.t 22) (.seq (.reg false [] R22_2) .ret) .skip)) (.seq (.reg false [] R22_3) (.seq (.reg false [] R22_4) (.seq (.reg false [] R22_5) .ret))))), [(6, none)]⟩
/-- codesearch/codesearchref15.SameProblems -/
@[reducible] def R23_0 : List XO := [⟨(some 4), none, .mv (.c (.bool false)), []⟩]
@[reducible] def R23_1 : List XO := [⟨(some 6), none, .mv (.t 0), []⟩, ⟨(some 7), none, .len false (.t 6), [0]⟩, ⟨(some 8), none, .mv (.t 1), []⟩, ⟨(some 9), none, .len false (.t 8), [2]⟩, ⟨(some 10), none, .bin false .neq (.t 7) (.t 9), [1, 3]⟩]
@[reducible] def R23_2 : List XO := [⟨(some 4), none, .mv (.c (.bool false)), []⟩]
@[reducible] def R23_3 : List XO := [⟨(some 5), none, .mv (.c (.int .i64 0)), []⟩]
@[reducible] def R23_4 : List XO := [⟨(some 11), none, .mv (.t 5), []⟩, ⟨(some 12), none, .mv (.t 0), []⟩, ⟨(some 13), none, .len false (.t 12), [1]⟩, ⟨(some 14), none, .bin false .lss (.t 11) (.t 13), [0, 2]⟩]
@[reducible] def R23_5 : List XO := [⟨(some 17), none, .mv (.t 0), []⟩, ⟨(some 18), none, .mv (.t 5), []⟩, ⟨(some 19), none, .iaS 3 (.t 17) (.t 18), [0, 1]⟩, ⟨(some 20), none, .load 3 true (.t 19), [2]⟩, ⟨(some 21), none, .mv (.t 1), []⟩, ⟨(some 22), none, .mv (.t 5), []⟩, ⟨(some 23), none, .iaS 3 (.t 21) (.t 22), [4, 5]⟩, ⟨(some 24), none, .load 3 true (.t 23), [6]⟩, ⟨(some 25), none, .eqs true
    [0, 0, 0] (.t 20) (.t 24), [3, 7]⟩]
@[reducible] def R23_6 : List XO := [⟨(some 4), none, .mv (.c (.bool false)), []⟩]
@[reducible] def R23_7 : List XO := [⟨(some 15), none, .mv (.t 5), []⟩, ⟨(some 16), none, .bin false .add (.t 15) (.c (.int .i64 1)), [0]⟩, ⟨(some 5), none, .mv (.t 16), [1, 0, 1]⟩]
@[reducible] def L23_0 : XC := (.seq (.seq (.reg false [] R23_4) (.cond (.t 14) .skip (.exit 0))) (.seq (.blk 1 (.seq (.reg true [] R23_5) (.cond (.t 25) (.seq (.reg false [] R23_6) .ret) .skip))) (.reg false [] R23_7)))
@[reducible] def R23_8 : List XO := [⟨(some 4), none, .mv (.c (.bool true)), []⟩]
@[reducible] def F23 : XF := ⟨26, (.seq (.reg false [] R23_0) (.seq (.seq (.reg false [] R23_1) (.cond (.t 10) (.seq (.reg false [] R23_2) .ret) .skip)) (.seq (.seq (.reg false [] R23_3) (.blk 0 (.loop L23_0))) (.seq (.reg false [] R23_8) .ret)))), [(4, none)]⟩
/-- codesearch/types.Check -/
@[reducible] def R24_0 : List XO := [⟨(some 2), none, .mv (.c .nls), []⟩]
@[reducible] def R24_1 : List XO := [⟨(some 3), none, .mv (.c .nls), []⟩]
@[reducible] def R24_2 : List XO := [⟨(some 7), none, .mv (.t 0), []⟩, ⟨(some 8), none, .len false (.t 7), [0]⟩, ⟨(some 9), none, .mv (.c (.int .i64 0)), []⟩]
@[reducible] def R24_3 : List XO := [⟨(some 10), none, .bin false .lss (.t 9) (.t 8), []⟩]
@[reducible] def R24_4 : List XO := [⟨(some 11), none, .iaS 11 (.t 7) (.t 9), []⟩, ⟨(some 12), none, .load 11 true (.t 11), [0]⟩, ⟨(some 5), none, .alloc [(.int .i64 0), (.int .i64 0), (.str (ByteArray.mk #[])), (.int .i64 0), (.str (ByteArray.mk #[])), .nls, .nls, (.bool false), (.int .i64 0), (.int .i64 0), (.int .i64 0)], []⟩, ⟨none, none, .store 11 (.t 5) (.t 12), [2, 1, 0, 1, 2]⟩]
@[reducible] def R24_5 : List XO := [⟨(some 6), none, .mv (.c (.int .i64 0)), []⟩]
@[reducible] def R24_6 : List XO := [⟨(some 14), none, .mv (.t 0), []⟩, ⟨(some 15), none, .load 11 true (.t 5), []⟩, ⟨(some 16), none, .call 41 [(.t 14), (.t 15)], [0, 1]⟩, ⟨(some 13), none, .mv (.t 16), [2, 2]⟩]
@[reducible] def R24_7 : List XO := [⟨(some 6), none, .mv (.c (.int .i64 12)), []⟩]
@[reducible] def R24_8 : List XO := [⟨(some 18), none, .mv (.t 0), []⟩, ⟨(some 19), none, .load 11 true (.t 5), []⟩, ⟨(some 20), none, .call 42 [(.t 18), (.t 19)], [0, 1]⟩, ⟨(some 17), none, .mv (.t 20), [2, 2]⟩]
@[reducible] def R24_9 : List XO := [⟨(some 6), none, .mv (.c (.int .i64 10)), []⟩]
@[reducible] def R24_10 : List XO := [⟨(some 22), none, .mv (.t 0), []⟩, ⟨(some 23), none, .load 11 true (.t 5), []⟩, ⟨(some 24), none, .call 43 [(.t 22), (.t 23)], [0, 1]⟩, ⟨(some 21), none, .mv (.t 24), [2, 2]⟩]
@[reducible] def R24_11 : List XO := [⟨(some 6), none, .mv (.c (.int .i64 13)), []⟩]
@[reducible] def R24_12 : List XO := [⟨(some 25), none, .mv (.t 6), []⟩, ⟨(some 26), none, .bin false .neq (.t 25) (.c (.int .i64 0)), [0]⟩]
@[reducible] def R24_13 : List XO := [⟨(some 27), none, .mv (.t 3), []⟩, ⟨(some 28), none, .fad 8 (.t 5), []⟩, ⟨(some 29), none, .load 1 false (.t 28), [1]⟩, ⟨(some 30), none, .fad 9 (.t 5), []⟩, ⟨(some 31), none, .load 1 false (.t 30), [3]⟩, ⟨(some 32), none, .mv (.t 6), []⟩, ⟨(some 33), none, .build [(.int .i64 0), (.int .i64 0), (.int .i64 0)] [(0, 1, (.t 29)), (1, 1, (.t 31)), (2, 1, (.t 32))],
    [2, 4, 5]⟩, ⟨(some 34), none, .bsl 37 3 [(.int .i64 0), (.int .i64 0), (.int .i64 0)] 1 [(0, (.t 33))], [6]⟩, ⟨(some 35), none, .app 37 3 24 (.t 27) (.t 34), [0, 7]⟩, ⟨(some 3), none, .mv (.t 35), [8, 8, 0, 1, 2, 3, 4, 5, 6, 7, 8]⟩]
@[reducible] def R24_14 : List XO := [⟨(some 36), none, .bin false .add (.t 9) (.c (.int .i64 1)), []⟩, ⟨(some 9), none, .mv (.t 36), [0]⟩]
@[reducible] def L24_0 : XC := (.seq (.reg false [] R24_3) (.seq (.cond (.t 10) .skip (.exit 0)) (.seq (.blk 1 (.seq (.reg false [] R24_4) (.seq (.reg false [] R24_5) (.seq (.blk 2 (.seq (.reg false [] R24_6) (.cond (.t 13) (.reg false [] R24_7) (.seq (.reg false [] R24_8) (.cond (.t 17) (.reg false [] R24_9) (.seq (.reg false [] R24_10) (.cond (.t 21) (.reg false [] R24_11) .skip))))))) (.seq
    (.reg false [] R24_12) (.cond (.t 26) (.reg false [] R24_13) .skip)))))) (.reg false [] R24_14))))
@[reducible] def R24_15 : List XO := [⟨(some 37), none, .mv (.t 3), []⟩, ⟨(some 2), none, .mv (.t 37), [0, 0]⟩]
@[reducible] def F24 : XF := ⟨38, (.seq (.reg false [] R24_0) (.seq (.reg false [] R24_1) (.seq (.seq (.reg false [] R24_2) (.blk 0 (.loop L24_0))) (.seq (.reg false [] R24_15) .ret)))), [(2, none)]⟩
/-- codesearch/codesearchref15.Check -/
@[reducible] def R25_0 : List XO := [⟨(some 2), none, .mv (.c .nls), []⟩]
@[reducible] def R25_1 : List XO := [⟨(some 3), none, .mv (.c .nls), []⟩]
@[reducible] def R25_2 : List XO := [⟨(some 4), none, .mv (.c (.int .i64 0)), []⟩]
@[reducible] def R25_3 : List XO := [⟨(some 6), none, .mv (.t 4), []⟩, ⟨(some 7), none, .mv (.t 0), []⟩, ⟨(some 8), none, .len false (.t 7), [1]⟩, ⟨(some 9), none, .bin false .lss (.t 6) (.t 8), [0, 2]⟩]
@[reducible] def R25_4 : List XO := [⟨(some 5), none, .mv (.c (.int .i64 0)), []⟩]
@[reducible] def R25_5 : List XO := [⟨(some 12), none, .mv (.t 0), []⟩, ⟨(some 13), none, .mv (.t 0), []⟩, ⟨(some 14), none, .mv (.t 4), []⟩, ⟨(some 15), none, .iaS 11 (.t 13) (.t 14), [1, 2]⟩, ⟨(some 16), none, .load 11 true (.t 15), [3]⟩, ⟨(some 17), none, .call 44 [(.t 12), (.t 16)], [0, 4]⟩]
@[reducible] def R25_6 : List XO := [⟨(some 5), none, .mv (.c (.int .i64 12)), []⟩]
@[reducible] def R25_7 : List XO := [⟨(some 18), none, .mv (.t 0), []⟩, ⟨(some 19), none, .mv (.t 0), []⟩, ⟨(some 20), none, .mv (.t 4), []⟩, ⟨(some 21), none, .iaS 11 (.t 19) (.t 20), [1, 2]⟩, ⟨(some 22), none, .load 11 true (.t 21), [3]⟩, ⟨(some 23), none, .call 45 [(.t 18), (.t 22)], [0, 4]⟩]
@[reducible] def R25_8 : List XO := [⟨(some 5), none, .mv (.c (.int .i64 10)), []⟩]
@[reducible] def R25_9 : List XO := [⟨(some 24), none, .mv (.t 0), []⟩, ⟨(some 25), none, .mv (.t 0), []⟩, ⟨(some 26), none, .mv (.t 4), []⟩, ⟨(some 27), none, .iaS 11 (.t 25) (.t 26), [1, 2]⟩, ⟨(some 28), none, .load 11 true (.t 27), [3]⟩, ⟨(some 29), none, .call 46 [(.t 24), (.t 28)], [0, 4]⟩]
@[reducible] def R25_10 : List XO := [⟨(some 5), none, .mv (.c (.int .i64 13)), []⟩]
@[reducible] def R25_11 : List XO := [⟨(some 30), none, .mv (.t 5), []⟩, ⟨(some 31), none, .bin false .neq (.t 30) (.c (.int .i64 0)), [0]⟩]
@[reducible] def R25_12 : List XO := [⟨(some 32), none, .mv (.t 3), []⟩, ⟨(some 33), none, .mv (.t 0), []⟩, ⟨(some 34), none, .mv (.t 4), []⟩, ⟨(some 35), none, .iaS 11 (.t 33) (.t 34), [1, 2]⟩, ⟨(some 36), none, .fad 8 (.t 35), [3]⟩, ⟨(some 37), none, .load 1 false (.t 36), [4]⟩, ⟨(some 38), none, .mv (.t 0), []⟩, ⟨(some 39), none, .mv (.t 4), []⟩, ⟨(some 40), none, .iaS 11 (.t 38) (.t 39), [6,
    7]⟩, ⟨(some 41), none, .fad 9 (.t 40), [8]⟩, ⟨(some 42), none, .load 1 false (.t 41), [9]⟩, ⟨(some 43), none, .mv (.t 5), []⟩, ⟨(some 44), none, .build [(.int .i64 0), (.int .i64 0), (.int .i64 0)] [(0, 1, (.t 37)), (1, 1, (.t 42)), (2, 1, (.t 43))], [5, 10, 11]⟩, ⟨(some 45), none, .bsl 37 3 [(.int .i64 0), (.int .i64 0), (.int .i64 0)] 1 [(0, (.t 44))], [12]⟩, ⟨(some 46), none, .app 37 3 24
    (.t 32) (.t 45), [0, 13]⟩, ⟨(some 3), none, .mv (.t 46), [14, 14, 0, 1, 2, 3, 4, 5, 6, 7, 8, 9, 10, 11, 12, 13, 14]⟩]
@[reducible] def R25_13 : List XO := [⟨(some 10), none, .mv (.t 4), []⟩, ⟨(some 11), none, .bin false .add (.t 10) (.c (.int .i64 1)), [0]⟩, ⟨(some 4), none, .mv (.t 11), [1, 0, 1]⟩]
@[reducible] def L25_0 : XC := (.seq (.seq (.reg false [] R25_3) (.cond (.t 9) .skip (.exit 0))) (.seq (.blk 1 (.seq (.reg false [] R25_4) (.seq (.seq (.reg false [] R25_5) (.cond (.t 17) (.reg false [] R25_6) (.seq (.reg false [] R25_7) (.cond (.t 23) (.reg false [] R25_8) (.seq (.reg false [] R25_9) (.cond (.t 29) (.reg false [] R25_10) .skip)))))) (.seq (.reg false [] R25_11) (.cond (.t 31)
    (.reg true [] R25_12) .skip))))) (.reg false [] R25_13)))
@[reducible] def R25_14 : List XO := [⟨(some 47), none, .mv (.t 3), []⟩, ⟨(some 2), none, .mv (.t 47), [0, 0]⟩]
@[reducible] def F25 : XF := ⟨48, (.seq (.reg false [] R25_0) (.seq (.reg false [] R25_1) (.seq (.seq (.reg false [] R25_2) (.blk 0 (.loop L25_0))) (.seq (.reg false [] R25_14) .ret)))), [(2, none)]⟩
/-- codesearch/types.Member -/
@[reducible] def R26_0 : List XO := [⟨(some 6), none, .alloc [(.int .i64 0), (.int .i64 0), (.str (ByteArray.mk #[])), (.int .i64 0), (.str (ByteArray.mk #[])), .nls, .nls, (.bool false), (.int .i64 0), (.int .i64 0), (.int .i64 0)], []⟩, ⟨(some 7), none, .mv (.c (.bool false)), []⟩]
@[reducible] def R26_1 : List XO := [⟨(some 12), none, .mv (.t 1), []⟩, ⟨(some 13), none, .bsl 9 1 [(.str (ByteArray.mk #[]))] 1 [(0, (.t 12))], [0]⟩, ⟨(some 14), none, .mv (.t 0), []⟩, ⟨(some 15), none, .mv (.t 1), []⟩, ⟨(some 16), none, .call 17 [(.t 14), (.t 15)], [2, 3]⟩, ⟨(some 17), none, .app 9 1 16 (.t 13) (.t 16), [1, 4, 4]⟩, ⟨(some 18), none, .len false (.t 17), [5]⟩, ⟨(some 19), none, .mv
    (.c (.int .i64 0)), []⟩]
@[reducible] def R26_2 : List XO := [⟨(some 20), none, .bin false .lss (.t 19) (.t 18), []⟩]
@[reducible] def R26_3 : List XO := [⟨(some 21), none, .iaS 1 (.t 17) (.t 19), []⟩, ⟨(some 22), none, .load 1 false (.t 21), [0]⟩, ⟨(some 9), none, .mv (.t 22), [1, 0, 1]⟩]
@[reducible] def R26_4 : List XO := [⟨(some 24), none, .mv (.t 0), []⟩, ⟨(some 25), none, .mv (.t 9), []⟩, ⟨(some 26), none, .mv (.t 2), []⟩, ⟨(some 27), none, .call 47 [(.t 24), (.t 25), (.t 26)], [0, 1, 2]⟩, ⟨(some 23), none, .mv (.t 27), [3]⟩, ⟨(some 28), none, .ext (.t 23) 0, [4]⟩, ⟨(some 29), none, .ext (.t 23) 1, [4]⟩, ⟨(some 10), none, .alloc [(.int .i64 0), (.int .i64 0), (.str
    (ByteArray.mk #[])), (.int .i64 0), (.str (ByteArray.mk #[])), .nls, .nls, (.bool false), (.int .i64 0), (.int .i64 0), (.int .i64 0)], []⟩, ⟨none, none, .store 11 (.t 10) (.t 28), [7, 5, 3, 0, 1, 2, 3, 4, 5, 7]⟩, ⟨(some 11), none, .mv (.t 29), [6, 8, 0, 1, 2, 3, 4, 5, 6, 7, 8]⟩]
@[reducible] def R26_5 : List XO := [⟨(some 30), none, .mv (.t 11), []⟩]
@[reducible] def R26_6 : List XO := [⟨(some 31), none, .load 11 true (.t 10), []⟩, ⟨none, none, .store 11 (.t 6) (.t 31), [0, 0]⟩, ⟨(some 7), none, .mv (.c (.bool true)), [1, 0, 1]⟩]
@[reducible] def R26_7 : List XO := [⟨(some 32), none, .bin false .add (.t 19) (.c (.int .i64 1)), []⟩, ⟨(some 19), none, .mv (.t 32), [0]⟩]
@[reducible] def L26_0 : XC := (.seq (.reg false [] R26_2) (.seq (.cond (.t 20) .skip (.exit 0)) (.seq (.blk 1 (.seq (.reg false [] R26_3) (.seq (.reg false [] R26_4) (.seq (.reg false [] R26_5) (.cond (.t 30) (.seq (.reg false [] R26_6) .ret) .skip))))) (.reg false [] R26_7))))
@[reducible] def R26_8 : List XO := [⟨(some 33), none, .build [(.int .i64 0), (.int .i64 0), (.str (ByteArray.mk #[])), (.int .i64 0), (.str (ByteArray.mk #[])), .nls, .nls, (.bool false), (.int .i64 0), (.int .i64 0), (.int .i64 0)] [], []⟩, ⟨none, none, .store 11 (.t 6) (.t 33), [0, 0]⟩, ⟨(some 7), none, .mv (.c (.bool false)), [1, 0, 1]⟩]
@[reducible] def F26 : XF := ⟨34, (.seq (.reg false [] R26_0) (.seq (.seq (.reg false [] R26_1) (.blk 0 (.loop L26_0))) (.seq (.reg false [] R26_8) .ret))), [(6, some (11, true)), (7, none)]⟩
/-- codesearch/codesearchref14.Simple -/
@[reducible] def R27_0 : List XO := [⟨(some 2), none, .mv (.c (.str (ByteArray.mk #[]))), []⟩]
@[reducible] def R27_1 : List XO := [⟨(some 3), none, .mv (.t 0), []⟩, ⟨(some 4), none, .mv (.t 0), []⟩, ⟨(some 5), none, .call 48 [(.t 4)], [1]⟩, ⟨(some 6), none, .bin false .add (.t 5) (.c (.int .i64 1)), [2]⟩, ⟨(some 7), none, .slS (.t 3) (some (.t 6)) none, [0, 3]⟩, ⟨(some 2), none, .mv (.t 7), [4, 2, 0, 1, 2, 3, 4]⟩]
@[reducible] def F27 : XF := ⟨8, (.seq (.reg false [] R27_0) (.seq (.reg false [] R27_1) .ret)), [(2, none)]⟩
/-- codesearch/codesearchlaw15.declares -/
@[reducible] def R28_0 : List XO := [⟨(some 6), none, .mv (.c (.bool false)), []⟩]
@[reducible] def R28_1 : List XO := [⟨(some 7), none, .mv (.c (.int .i64 0)), []⟩]
@[reducible] def R28_2 : List XO := [⟨(some 9), none, .mv (.t 7), []⟩, ⟨(some 10), none, .mv (.t 0), []⟩, ⟨(some 11), none, .len false (.t 10), [1]⟩, ⟨(some 12), none, .bin false .lss (.t 9) (.t 11), [0, 2]⟩]
@[reducible] def R28_3 : List XO := [⟨(some 15), none, .mv (.t 0), []⟩, ⟨(some 16), none, .mv (.t 7), []⟩, ⟨(some 17), none, .iaS 11 (.t 15) (.t 16), [0, 1]⟩, ⟨(some 18), none, .fad 2 (.t 17), [2]⟩, ⟨(some 19), none, .load 1 false (.t 18), [3]⟩, ⟨(some 20), none, .mv (.t 1), []⟩, ⟨(some 21), none, .bin false .neq (.t 19) (.t 20), [4, 5]⟩]
@[reducible] def R28_4 : List XO := [⟨(some 22), none, .mv (.t 0), []⟩, ⟨(some 23), none, .mv (.t 7), []⟩, ⟨(some 24), none, .iaS 11 (.t 22) (.t 23), [0, 1]⟩, ⟨(some 25), none, .fad 1 (.t 24), [2]⟩, ⟨(some 26), none, .load 1 false (.t 25), [3]⟩, ⟨(some 27), none, .bin false .neq (.t 26) (.c (.int .i64 3)), [4]⟩, ⟨(some 28), none, .mv (.t 27), [5]⟩, ⟨(some 29), (some (28, true)), .mv (.t 0), [6]⟩,
    ⟨(some 30), (some (28, true)), .mv (.t 7), [6]⟩, ⟨(some 31), (some (28, true)), .iaS 11 (.t 29) (.t 30), [7, 8, 6]⟩, ⟨(some 32), (some (28, true)), .fad 1 (.t 31), [9, 6]⟩, ⟨(some 33), (some (28, true)), .load 1 false (.t 32), [10, 6]⟩, ⟨(some 34), (some (28, true)), .bin false .neq (.t 33) (.c (.int .i64 4)), [11, 6]⟩, ⟨(some 35), none, .pick (.t 28) (.t 34) (.c (.bool false)), [6, 12]⟩]
@[reducible] def R28_5 : List XO := [⟨(some 6), none, .mv (.c (.bool false)), []⟩]
@[reducible] def R28_6 : List XO := [⟨(some 8), none, .mv (.c (.int .i64 0)), []⟩]
@[reducible] def R28_7 : List XO := [⟨(some 36), none, .mv (.t 8), []⟩, ⟨(some 37), none, .mv (.t 0), []⟩, ⟨(some 38), none, .len false (.t 37), [1]⟩, ⟨(some 39), none, .bin false .lss (.t 36) (.t 38), [0, 2]⟩]
@[reducible] def R28_8 : List XO := [⟨(some 42), none, .mv (.t 0), []⟩, ⟨(some 43), none, .mv (.t 8), []⟩, ⟨(some 44), none, .iaS 11 (.t 42) (.t 43), [0, 1]⟩, ⟨(some 45), none, .fad 3 (.t 44), [2]⟩, ⟨(some 46), none, .load 1 false (.t 45), [3]⟩, ⟨(some 47), none, .mv (.t 0), []⟩, ⟨(some 48), none, .mv (.t 7), []⟩, ⟨(some 49), none, .iaS 11 (.t 47) (.t 48), [5, 6]⟩, ⟨(some 50), none, .fad 0 (.t 49),
    [7]⟩, ⟨(some 51), none, .load 1 false (.t 50), [8]⟩, ⟨(some 52), none, .bin false .eql (.t 46) (.t 51), [4, 9]⟩, ⟨(some 53), none, .mv (.t 52), [10]⟩, ⟨(some 54), (some (53, true)), .mv (.t 0), [11]⟩, ⟨(some 55), (some (53, true)), .mv (.t 8), [11]⟩, ⟨(some 56), (some (53, true)), .iaS 11 (.t 54) (.t 55), [12, 13, 11]⟩, ⟨(some 57), (some (53, true)), .fad 1 (.t 56), [14, 11]⟩, ⟨(some 58), (some
    (53, true)), .load 1 false (.t 57), [15, 11]⟩, ⟨(some 59), (some (53, true)), .bin false .eql (.t 58) (.c (.int .i64 5)), [16, 11]⟩, ⟨(some 60), (some (53, true)), .mv (.t 59), [17, 11, 11]⟩, ⟨(some 61), (some (60, false)), .mv (.t 0), [18]⟩, ⟨(some 62), (some (60, false)), .mv (.t 8), [18]⟩, ⟨(some 63), (some (60, false)), .iaS 11 (.t 61) (.t 62), [19, 20, 18]⟩, ⟨(some 64), (some (60, false)),
    .fad 1 (.t 63), [21, 18]⟩, ⟨(some 65), (some (60, false)), .load 1 false (.t 64), [22, 18]⟩, ⟨(some 66), (some (60, false)), .bin false .eql (.t 65) (.c (.int .i64 6)), [23, 18]⟩, ⟨(some 67), (some (53, true)), .pick (.t 60) (.c (.bool true)) (.t 66), [18, 24, 11]⟩, ⟨(some 68), none, .pick (.t 53) (.t 67) (.c (.bool false)), [11, 25]⟩, ⟨(some 69), none, .mv (.t 68), [26, 18]⟩, ⟨(some 70), (some
    (69, true)), .mv (.t 0), [27]⟩, ⟨(some 71), (some (69, true)), .mv (.t 8), [27]⟩, ⟨(some 72), (some (69, true)), .iaS 11 (.t 70) (.t 71), [28, 29, 27]⟩, ⟨(some 73), (some (69, true)), .fad 2 (.t 72), [30, 27]⟩, ⟨(some 74), (some (69, true)), .load 1 false (.t 73), [31, 27]⟩, ⟨(some 75), (some (69, true)), .call 27 [(.t 74)], [32, 27, 27]⟩, ⟨(some 76), (some (69, true)), .mv (.t 2), [27]⟩,
    ⟨(some 77), (some (69, true)), .bin false .eql (.t 75) (.t 76), [33, 34, 27]⟩, ⟨(some 78), none, .pick (.t 69) (.t 77) (.c (.bool false)), [27, 35]⟩]
@[reducible] def R28_9 : List XO := [⟨(some 6), none, .mv (.c (.bool true)), []⟩]
@[reducible] def R28_10 : List XO := [⟨(some 40), none, .mv (.t 8), []⟩, ⟨(some 41), none, .bin false .add (.t 40) (.c (.int .i64 1)), [0]⟩, ⟨(some 8), none, .mv (.t 41), [1, 0, 1]⟩]
@[reducible] def L28_0 : XC := (.seq (.seq (.reg false [] R28_7) (.cond (.t 39) .skip (.exit 2))) (.seq (.blk 3 (.seq (.reg true [] R28_8) (.cond (.t 78) (.seq (.reg false [] R28_9) .ret) .skip))) (.reg false [] R28_10)))
@[reducible] def R28_11 : List XO := [⟨(some 6), none, .mv (.c (.bool false)), []⟩]
@[reducible] def R28_12 : List XO := [⟨(some 13), none, .mv (.t 7), []⟩, ⟨(some 14), none, .bin false .add (.t 13) (.c (.int .i64 1)), [0]⟩, ⟨(some 7), none, .mv (.t 14), [1, 0, 1]⟩]
@[reducible] def L28_1 : XC := (.seq (.seq (.reg false [] R28_2) (.cond (.t 12) .skip (.exit 0))) (.seq (.blk 1 (.seq (.seq (.reg false [] R28_3) (.cond (.t 21) (.exit 1) .skip)) (.seq (.seq (.reg false [] R28_4) (.cond (.t 35) (.seq (.reg false [] R28_5) .ret) .skip)) (.seq (.seq (.reg false [] R28_6) (.blk 2 (.loop L28_0))) (.seq (.reg false [] R28_11) .ret))))) (.reg false [] R28_12)))
@[reducible] def R28_13 : List XO := [⟨(some 6), none, .mv (.c (.bool false)), []⟩]
@[reducible] def F28 : XF := ⟨79, (.seq (.reg false [] R28_0) (.seq (.seq (.reg false [] R28_1) (.blk 0 (.loop L28_1))) (.seq (.reg false [] R28_13) .ret))), [(6, none)]⟩
/-- codesearch/codesearchlaw15.parent -/
@[reducible] def R29_0 : List XO := [⟨(some 6), none, .mv (.c (.bool false)), []⟩]
@[reducible] def R29_1 : List XO := [⟨(some 7), none, .mv (.c (.int .i64 0)), []⟩]
@[reducible] def R29_2 : List XO := [⟨(some 8), none, .mv (.t 7), []⟩, ⟨(some 9), none, .mv (.t 0), []⟩, ⟨(some 10), none, .len false (.t 9), [1]⟩, ⟨(some 11), none, .bin false .lss (.t 8) (.t 10), [0, 2]⟩]
@[reducible] def R29_3 : List XO := [⟨(some 14), none, .mv (.t 0), []⟩, ⟨(some 15), none, .mv (.t 7), []⟩, ⟨(some 16), none, .iaS 11 (.t 14) (.t 15), [0, 1]⟩, ⟨(some 17), none, .fad 0 (.t 16), [2]⟩, ⟨(some 18), none, .load 1 false (.t 17), [3]⟩, ⟨(some 19), none, .mv (.t 1), []⟩, ⟨(some 20), none, .bin false .eql (.t 18) (.t 19), [4, 5]⟩, ⟨(some 21), none, .mv (.t 20), [6]⟩, ⟨(some 22), (some (21,
    true)), .mv (.t 0), [7]⟩, ⟨(some 23), (some (21, true)), .mv (.t 7), [7]⟩, ⟨(some 24), (some (21, true)), .iaS 11 (.t 22) (.t 23), [8, 9, 7]⟩, ⟨(some 25), (some (21, true)), .fad 2 (.t 24), [10, 7]⟩, ⟨(some 26), (some (21, true)), .load 1 false (.t 25), [11, 7]⟩, ⟨(some 27), (some (21, true)), .mv (.t 2), [7]⟩, ⟨(some 28), (some (21, true)), .bin false .eql (.t 26) (.t 27), [12, 13, 7]⟩, ⟨(some
    29), none, .pick (.t 21) (.t 28) (.c (.bool false)), [7, 14]⟩]
@[reducible] def R29_4 : List XO := [⟨(some 6), none, .mv (.c (.bool true)), []⟩]
@[reducible] def R29_5 : List XO := [⟨(some 12), none, .mv (.t 7), []⟩, ⟨(some 13), none, .bin false .add (.t 12) (.c (.int .i64 1)), [0]⟩, ⟨(some 7), none, .mv (.t 13), [1, 0, 1]⟩]
@[reducible] def L29_0 : XC := (.seq (.seq (.reg false [] R29_2) (.cond (.t 11) .skip (.exit 0))) (.seq (.blk 1 (.seq (.reg false [] R29_3) (.cond (.t 29) (.seq (.reg false [] R29_4) .ret) .skip))) (.reg false [] R29_5)))
@[reducible] def R29_6 : List XO := [⟨(some 6), none, .mv (.c (.bool false)), []⟩]
@[reducible] def F29 : XF := ⟨30, (.seq (.reg false [] R29_0) (.seq (.seq (.reg false [] R29_1) (.blk 0 (.loop L29_0))) (.seq (.reg false [] R29_6) .ret))), [(6, none)]⟩
/-- codesearch/codesearchref15.Member -/
@[reducible] def R30_0 : List XO := [⟨(some 6), none, .alloc [(.int .i64 0), (.int .i64 0), (.str (ByteArray.mk #[])), (.int .i64 0), (.str (ByteArray.mk #[])), .nls, .nls, (.bool false), (.int .i64 0), (.int .i64 0), (.int .i64 0)], []⟩, ⟨(some 7), none, .mv (.c (.bool false)), []⟩]
@[reducible] def R30_1 : List XO := [⟨(some 17), none, .mv (.t 0), []⟩, ⟨(some 18), none, .mv (.t 1), []⟩, ⟨(some 19), none, .call 36 [(.t 17), (.t 18)], [0, 1]⟩, ⟨(some 16), none, .mv (.t 19), [2]⟩, ⟨(some 20), none, .ext (.t 16) 0, [3]⟩, ⟨(some 21), none, .ext (.t 16) 1, [3]⟩, ⟨(some 8), none, .alloc [(.int .i64 0), (.int .i64 0), (.str (ByteArray.mk #[])), (.int .i64 0), (.str (ByteArray.mk
    #[])), .nls, .nls, (.bool false), (.int .i64 0), (.int .i64 0), (.int .i64 0)], []⟩, ⟨none, none, .store 11 (.t 8) (.t 20), [6, 4, 2, 0, 1, 2, 3, 4, 6]⟩, ⟨(some 9), none, .mv (.t 21), [5, 7, 0, 1, 2, 3, 4, 5, 6, 7]⟩]
@[reducible] def R30_2 : List XO := [⟨(some 22), none, .mv (.t 9), []⟩, ⟨(some 23), none, .un .not (.t 22), [0]⟩]
@[reducible] def R30_3 : List XO := [⟨(some 24), none, .build [(.int .i64 0), (.int .i64 0), (.str (ByteArray.mk #[])), (.int .i64 0), (.str (ByteArray.mk #[])), .nls, .nls, (.bool false), (.int .i64 0), (.int .i64 0), (.int .i64 0)] [], []⟩, ⟨none, none, .store 11 (.t 6) (.t 24), [0, 0]⟩, ⟨(some 7), none, .mv (.c (.bool false)), [1, 0, 1]⟩]
@[reducible] def R30_4 : List XO := [⟨(some 26), none, .mv (.t 0), []⟩, ⟨(some 27), none, .mv (.t 1), []⟩, ⟨(some 28), none, .mv (.t 2), []⟩, ⟨(some 29), none, .call 49 [(.t 26), (.t 27), (.t 28)], [0, 1, 2]⟩, ⟨(some 25), none, .mv (.t 29), [3]⟩, ⟨(some 30), none, .ext (.t 25) 0, [4]⟩, ⟨(some 31), none, .ext (.t 25) 1, [4]⟩, ⟨(some 10), none, .alloc [(.int .i64 0), (.int .i64 0), (.str
    (ByteArray.mk #[])), (.int .i64 0), (.str (ByteArray.mk #[])), .nls, .nls, (.bool false), (.int .i64 0), (.int .i64 0), (.int .i64 0)], []⟩, ⟨none, none, .store 11 (.t 10) (.t 30), [7, 5, 3, 0, 1, 2, 3, 4, 5, 7]⟩, ⟨(some 11), none, .mv (.t 31), [6, 8, 0, 1, 2, 3, 4, 5, 6, 7, 8]⟩]
@[reducible] def R30_5 : List XO := [⟨(some 32), none, .mv (.t 11), []⟩]
@[reducible] def R30_6 : List XO := [⟨(some 33), none, .load 11 true (.t 10), []⟩, ⟨none, none, .store 11 (.t 6) (.t 33), [0, 0]⟩, ⟨(some 7), none, .mv (.c (.bool true)), [1, 0, 1]⟩]
@[reducible] def R30_7 : List XO := [⟨(some 34), none, .mv (.t 0), []⟩, ⟨(some 35), none, .mv (.t 1), []⟩, ⟨(some 36), none, .call 18 [(.t 34), (.t 35)], [0, 1]⟩, ⟨(some 12), none, .mv (.t 36), [2, 2, 0, 1, 2]⟩]
@[reducible] def R30_8 : List XO := [⟨(some 13), none, .mv (.c (.int .i64 0)), []⟩]
@[reducible] def R30_9 : List XO := [⟨(some 37), none, .mv (.t 13), []⟩, ⟨(some 38), none, .mv (.t 12), []⟩, ⟨(some 39), none, .len false (.t 38), [1]⟩, ⟨(some 40), none, .bin false .lss (.t 37) (.t 39), [0, 2]⟩]
@[reducible] def R30_10 : List XO := [⟨(some 44), none, .mv (.t 0), []⟩, ⟨(some 45), none, .mv (.t 12), []⟩, ⟨(some 46), none, .mv (.t 13), []⟩, ⟨(some 47), none, .iaS 1 (.t 45) (.t 46), [1, 2]⟩, ⟨(some 48), none, .load 1 false (.t 47), [3]⟩, ⟨(some 49), none, .mv (.t 2), []⟩, ⟨(some 50), none, .call 49 [(.t 44), (.t 48), (.t 49)], [0, 4, 5]⟩, ⟨(some 43), none, .mv (.t 50), [6]⟩, ⟨(some 51), none,
    .ext (.t 43) 0, [7]⟩, ⟨(some 52), none, .ext (.t 43) 1, [7]⟩, ⟨(some 14), none, .alloc [(.int .i64 0), (.int .i64 0), (.str (ByteArray.mk #[])), (.int .i64 0), (.str (ByteArray.mk #[])), .nls, .nls, (.bool false), (.int .i64 0), (.int .i64 0), (.int .i64 0)], []⟩, ⟨none, none, .store 11 (.t 14) (.t 51), [10, 8, 6, 0, 1, 2, 3, 4, 5, 6, 7, 8, 10]⟩, ⟨(some 15), none, .mv (.t 52), [9, 11, 0, 1, 2,
    3, 4, 5, 6, 7, 8, 9, 10, 11]⟩]
@[reducible] def R30_11 : List XO := [⟨(some 53), none, .mv (.t 15), []⟩]
@[reducible] def R30_12 : List XO := [⟨(some 54), none, .load 11 true (.t 14), []⟩, ⟨none, none, .store 11 (.t 6) (.t 54), [0, 0]⟩, ⟨(some 7), none, .mv (.c (.bool true)), [1, 0, 1]⟩]
@[reducible] def R30_13 : List XO := [⟨(some 41), none, .mv (.t 13), []⟩, ⟨(some 42), none, .bin false .add (.t 41) (.c (.int .i64 1)), [0]⟩, ⟨(some 13), none, .mv (.t 42), [1, 0, 1]⟩]
@[reducible] def L30_0 : XC := (.seq (.seq (.reg false [] R30_9) (.cond (.t 40) .skip (.exit 0))) (.seq (.blk 1 (.seq (.reg false [] R30_10) (.seq (.reg false [] R30_11) (.cond (.t 53) (.seq (.reg false [] R30_12) .ret) .skip)))) (.reg false [] R30_13)))
@[reducible] def R30_14 : List XO := [⟨(some 55), none, .build [(.int .i64 0), (.int .i64 0), (.str (ByteArray.mk #[])), (.int .i64 0), (.str (ByteArray.mk #[])), .nls, .nls, (.bool false), (.int .i64 0), (.int .i64 0), (.int .i64 0)] [], []⟩, ⟨none, none, .store 11 (.t 6) (.t 55), [0, 0]⟩, ⟨(some 7), none, .mv (.c (.bool false)), [1, 0, 1]⟩]
@[reducible] def F30 : XF := ⟨56, (.seq (.reg false [] R30_0) (.seq (.seq (.reg false [] R30_1) (.seq (.reg false [] R30_2) (.cond (.t 23) (.seq (.reg false [] R30_3) .ret) .skip))) (.seq (.seq (.reg false [] R30_4) (.seq (.reg false [] R30_5) (.cond (.t 32) (.seq (.reg false [] R30_6) .ret) .skip))) (.seq (.reg false [] R30_7) (.seq (.seq (.reg false [] R30_8) (.blk 0 (.loop L30_0))) (.seq (.reg
    false [] R30_14) .ret)))))), [(6, some (11, true)), (7, none)]⟩
/-- codesearch/codesearchref15.SameDecl -/
@[reducible] def R31_0 : List XO := [⟨(some 2), none, .box 11 (.t 0), []⟩, ⟨(some 3), none, .box 11 (.t 1), []⟩, ⟨(some 4), none, .mv (.c (.bool false)), []⟩]
@[reducible] def R31_1 : List XO := [⟨(some 5), none, .fad 0 (.t 2), []⟩, ⟨(some 6), none, .load 1 false (.t 5), [0]⟩, ⟨(some 7), none, .fad 0 (.t 3), []⟩, ⟨(some 8), none, .load 1 false (.t 7), [2]⟩, ⟨(some 9), none, .bin false .eql (.t 6) (.t 8), [1, 3]⟩, ⟨(some 10), none, .mv (.t 9), [4]⟩, ⟨(some 11), (some (10, true)), .fad 1 (.t 2), [5]⟩, ⟨(some 12), (some (10, true)), .load 1 false (.t 11),
    [6, 5]⟩, ⟨(some 13), (some (10, true)), .fad 1 (.t 3), [5]⟩, ⟨(some 14), (some (10, true)), .load 1 false (.t 13), [8, 5]⟩, ⟨(some 15), (some (10, true)), .bin false .eql (.t 12) (.t 14), [7, 9, 5]⟩, ⟨(some 16), none, .pick (.t 10) (.t 15) (.c (.bool false)), [5, 10]⟩, ⟨(some 17), none, .mv (.t 16), [11, 5]⟩, ⟨(some 18), (some (17, true)), .fad 2 (.t 2), [12]⟩, ⟨(some 19), (some (17, true)),
    .load 1 false (.t 18), [13, 12]⟩, ⟨(some 20), (some (17, true)), .fad 2 (.t 3), [12]⟩, ⟨(some 21), (some (17, true)), .load 1 false (.t 20), [15, 12]⟩, ⟨(some 22), (some (17, true)), .bin false .eql (.t 19) (.t 21), [14, 16, 12]⟩, ⟨(some 23), none, .pick (.t 17) (.t 22) (.c (.bool false)), [12, 17]⟩, ⟨(some 24), none, .mv (.t 23), [18, 12]⟩, ⟨(some 25), (some (24, true)), .fad 3 (.t 2), [19]⟩,
    ⟨(some 26), (some (24, true)), .load 1 false (.t 25), [20, 19]⟩, ⟨(some 27), (some (24, true)), .fad 3 (.t 3), [19]⟩, ⟨(some 28), (some (24, true)), .load 1 false (.t 27), [22, 19]⟩, ⟨(some 29), (some (24, true)), .bin false .eql (.t 26) (.t 28), [21, 23, 19]⟩, ⟨(some 30), none, .pick (.t 24) (.t 29) (.c (.bool false)), [19, 24]⟩, ⟨(some 31), none, .mv (.t 30), [25, 19]⟩, ⟨(some 32), (some (31,
    true)), .fad 4 (.t 2), [26]⟩, ⟨(some 33), (some (31, true)), .load 1 false (.t 32), [27, 26]⟩, ⟨(some 34), (some (31, true)), .fad 4 (.t 3), [26]⟩, ⟨(some 35), (some (31, true)), .load 1 false (.t 34), [29, 26]⟩, ⟨(some 36), (some (31, true)), .bin false .eql (.t 33) (.t 35), [28, 30, 26]⟩, ⟨(some 37), none, .pick (.t 31) (.t 36) (.c (.bool false)), [26, 31]⟩, ⟨(some 38), none, .mv (.t 37),
    [32, 26]⟩, ⟨(some 39), (some (38, true)), .fad 5 (.t 2), [33]⟩, ⟨(some 40), (some (38, true)), .load 1 false (.t 39), [34, 33]⟩, ⟨(some 41), (some (38, true)), .fad 5 (.t 3), [33]⟩, ⟨(some 42), (some (38, true)), .load 1 false (.t 41), [36, 33]⟩, ⟨(some 43), (some (38, true)), .call 37 [(.t 40), (.t 42)], [35, 37, 33, 33]⟩, ⟨(some 44), none, .pick (.t 38) (.t 43) (.c (.bool false)), [33, 38]⟩,
    ⟨(some 45), none, .mv (.t 44), [39, 38]⟩, ⟨(some 46), (some (45, true)), .fad 6 (.t 2), [40]⟩, ⟨(some 47), (some (45, true)), .load 1 false (.t 46), [41, 40]⟩, ⟨(some 48), (some (45, true)), .fad 6 (.t 3), [40]⟩, ⟨(some 49), (some (45, true)), .load 1 false (.t 48), [43, 40]⟩, ⟨(some 50), (some (45, true)), .call 37 [(.t 47), (.t 49)], [42, 44, 40, 40]⟩, ⟨(some 51), none, .pick (.t 45) (.t 50)
    (.c (.bool false)), [40, 45]⟩, ⟨(some 52), none, .mv (.t 51), [46, 45]⟩, ⟨(some 53), (some (52, true)), .fad 7 (.t 2), [47]⟩, ⟨(some 54), (some (52, true)), .load 1 false (.t 53), [48, 47]⟩, ⟨(some 55), (some (52, true)), .fad 7 (.t 3), [47]⟩, ⟨(some 56), (some (52, true)), .load 1 false (.t 55), [50, 47]⟩, ⟨(some 57), (some (52, true)), .bin true .eql (.t 54) (.t 56), [49, 51, 47]⟩, ⟨(some
    58), none, .pick (.t 52) (.t 57) (.c (.bool false)), [47, 52]⟩, ⟨(some 59), none, .mv (.t 58), [53, 47]⟩, ⟨(some 60), (some (59, true)), .fad 8 (.t 2), [54]⟩, ⟨(some 61), (some (59, true)), .load 1 false (.t 60), [55, 54]⟩, ⟨(some 62), (some (59, true)), .fad 8 (.t 3), [54]⟩, ⟨(some 63), (some (59, true)), .load 1 false (.t 62), [57, 54]⟩, ⟨(some 64), (some (59, true)), .bin false .eql (.t 61)
    (.t 63), [56, 58, 54]⟩, ⟨(some 65), none, .pick (.t 59) (.t 64) (.c (.bool false)), [54, 59]⟩, ⟨(some 66), none, .mv (.t 65), [60, 54]⟩, ⟨(some 67), (some (66, true)), .fad 9 (.t 2), [61]⟩, ⟨(some 68), (some (66, true)), .load 1 false (.t 67), [62, 61]⟩, ⟨(some 69), (some (66, true)), .fad 9 (.t 3), [61]⟩, ⟨(some 70), (some (66, true)), .load 1 false (.t 69), [64, 61]⟩, ⟨(some 71), (some (66,
    true)), .bin false .eql (.t 68) (.t 70), [63, 65, 61]⟩, ⟨(some 72), none, .pick (.t 66) (.t 71) (.c (.bool false)), [61, 66]⟩, ⟨(some 73), none, .mv (.t 72), [67, 61]⟩, ⟨(some 74), (some (73, true)), .fad 10 (.t 2), [68]⟩, ⟨(some 75), (some (73, true)), .load 1 false (.t 74), [69, 68]⟩, ⟨(some 76), (some (73, true)), .fad 10 (.t 3), [68]⟩, ⟨(some 77), (some (73, true)), .load 1 false (.t 76),
    [71, 68]⟩, ⟨(some 78), (some (73, true)), .bin false .eql (.t 75) (.t 77), [70, 72, 68]⟩, ⟨(some 79), none, .pick (.t 73) (.t 78) (.c (.bool false)), [68, 73]⟩, ⟨(some 4), none, .mv (.t 79), [74, 68, 0, 1, 2, 3, 4, 5, 6, 7, 8, 9, 10, 11, 12, 13, 14, 15, 16, 17, 18, 19, 20, 21, 22, 23, 24, 25, 26, 27, 28, 29, 30, 31, 32, 33, 34, 35, 36, 37, 38, 39, 40, 41, 42, 43, 44, 45, 46, 47, 48, 49, 50, 51,
    52, 53, 54, 55, 56, 57, 58, 59, 60, 61, 62, 63, 64, 65, 66, 67, 68, 69, 70, 71, 72, 73, 74]⟩]
@[reducible] def F31 : XF := ⟨80, (.seq (.reg false [] R31_0) (.seq (.reg false [] R31_1) .ret)), [(4, none)]⟩
/-- codesearch/types.Overridden -/
@[reducible] def R32_0 : List XO := [⟨(some 4), none, .mv (.c .nls), []⟩]
@[reducible] def R32_1 : List XO := [⟨(some 14), none, .mv (.t 0), []⟩, ⟨(some 15), none, .mv (.t 1), []⟩, ⟨(some 16), none, .call 50 [(.t 14), (.t 15)], [0, 1]⟩, ⟨(some 13), none, .mv (.t 16), [2]⟩, ⟨(some 17), none, .ext (.t 13) 0, [3]⟩, ⟨(some 18), none, .ext (.t 13) 1, [3]⟩, ⟨(some 5), none, .alloc [(.int .i64 0), (.int .i64 0), (.str (ByteArray.mk #[])), (.int .i64 0), (.str (ByteArray.mk
    #[])), .nls, .nls, (.bool false), (.int .i64 0), (.int .i64 0), (.int .i64 0)], []⟩, ⟨none, none, .store 11 (.t 5) (.t 17), [6, 4, 2, 0, 1, 2, 3, 4, 6]⟩, ⟨(some 6), none, .mv (.t 18), [5, 7, 0, 1, 2, 3, 4, 5, 6, 7]⟩]
@[reducible] def R32_2 : List XO := [⟨(some 19), none, .mv (.t 6), []⟩, ⟨(some 20), none, .un .not (.t 19), [0]⟩]
@[reducible] def R32_3 : List XO := [⟨(some 4), none, .mv (.c .nls), []⟩]
@[reducible] def R32_4 : List XO := [⟨(some 22), none, .mv (.t 0), []⟩, ⟨(some 23), none, .load 11 true (.t 5), []⟩, ⟨(some 24), none, .call 51 [(.t 22), (.t 23)], [0, 1]⟩, ⟨(some 21), none, .mv (.t 24), [2]⟩, ⟨(some 25), none, .ext (.t 21) 0, [3]⟩, ⟨(some 26), none, .ext (.t 21) 1, [3]⟩, ⟨(some 7), none, .alloc [(.int .i64 0), (.int .i64 0), (.str (ByteArray.mk #[])), (.int .i64 0), (.str
    (ByteArray.mk #[])), .nls, .nls, (.bool false), (.int .i64 0), (.int .i64 0), (.int .i64 0)], []⟩, ⟨none, none, .store 11 (.t 7) (.t 25), [6, 4, 2, 0, 1, 2, 3, 4, 6]⟩, ⟨(some 6), none, .mv (.t 26), [5, 7, 0, 1, 2, 3, 4, 5, 6, 7]⟩]
@[reducible] def R32_5 : List XO := [⟨(some 27), none, .mv (.t 6), []⟩, ⟨(some 28), none, .un .not (.t 27), [0]⟩]
@[reducible] def R32_6 : List XO := [⟨(some 4), none, .mv (.c .nls), []⟩]
@[reducible] def R32_7 : List XO := [⟨(some 8), none, .mv (.c .nls), []⟩]
@[reducible] def R32_8 : List XO := [⟨(some 29), none, .fad 6 (.t 7), []⟩, ⟨(some 30), none, .load 1 false (.t 29), [0]⟩, ⟨(some 31), none, .len false (.t 30), [1]⟩, ⟨(some 32), none, .mv (.c (.int .i64 0)), []⟩]
@[reducible] def R32_9 : List XO := [⟨(some 33), none, .bin false .lss (.t 32) (.t 31), []⟩]
@[reducible] def R32_10 : List XO := [⟨(some 34), none, .iaS 1 (.t 30) (.t 32), []⟩, ⟨(some 35), none, .load 1 false (.t 34), [0]⟩, ⟨(some 10), none, .mv (.t 35), [1, 0, 1]⟩]
@[reducible] def R32_11 : List XO := [⟨(some 37), none, .mv (.t 0), []⟩, ⟨(some 38), none, .mv (.t 10), []⟩, ⟨(some 39), none, .fad 2 (.t 5), []⟩, ⟨(some 40), none, .load 1 false (.t 39), [2]⟩, ⟨(some 41), none, .call 52 [(.t 40)], [3]⟩, ⟨(some 42), none, .call 26 [(.t 37), (.t 38), (.t 41)], [0, 1, 4, 4]⟩, ⟨(some 36), none, .mv (.t 42), [5]⟩, ⟨(some 43), none, .ext (.t 36) 0, [6]⟩, ⟨(some 44),
    none, .ext (.t 36) 1, [6]⟩, ⟨(some 11), none, .alloc [(.int .i64 0), (.int .i64 0), (.str (ByteArray.mk #[])), (.int .i64 0), (.str (ByteArray.mk #[])), .nls, .nls, (.bool false), (.int .i64 0), (.int .i64 0), (.int .i64 0)], []⟩, ⟨none, none, .store 11 (.t 11) (.t 43), [9, 7, 5, 0, 1, 2, 3, 4, 5, 6, 7, 9]⟩, ⟨(some 12), none, .mv (.t 44), [8, 10, 0, 1, 2, 3, 4, 5, 6, 7, 8, 9, 10]⟩]
@[reducible] def R32_12 : List XO := [⟨(some 45), none, .mv (.t 12), []⟩, ⟨(some 46), none, .mv (.t 45), [0]⟩, ⟨(some 47), (some (46, true)), .fad 1 (.t 11), [1]⟩, ⟨(some 48), (some (46, true)), .load 1 false (.t 47), [2, 1]⟩, ⟨(some 49), (some (46, true)), .bin false .eql (.t 48) (.c (.int .i64 5)), [3, 1]⟩, ⟨(some 50), none, .pick (.t 46) (.t 49) (.c (.bool false)), [1, 4]⟩, ⟨(some 51), none, .mv
    (.t 50), [5, 1]⟩, ⟨(some 52), (some (51, true)), .mv (.t 8), [6]⟩, ⟨(some 53), (some (51, true)), .fad 0 (.t 11), [6]⟩, ⟨(some 54), (some (51, true)), .load 1 false (.t 53), [8, 6]⟩, ⟨(some 55), (some (51, true)), .call 53 [(.t 52), (.t 54)], [7, 9, 6, 6]⟩, ⟨(some 56), (some (51, true)), .un .not (.t 55), [10, 6]⟩, ⟨(some 57), none, .pick (.t 51) (.t 56) (.c (.bool false)), [6, 11]⟩]
@[reducible] def R32_13 : List XO := [⟨(some 58), none, .mv (.t 8), []⟩, ⟨(some 59), none, .fad 0 (.t 11), []⟩, ⟨(some 60), none, .load 1 false (.t 59), [1]⟩, ⟨(some 61), none, .bsl 3 1 [(.int .i64 0)] 1 [(0, (.t 60))], [2]⟩, ⟨(some 62), none, .app 3 1 8 (.t 58) (.t 61), [0, 3]⟩, ⟨(some 8), none, .mv (.t 62), [4, 4, 0, 1, 2, 3, 4]⟩]
@[reducible] def R32_14 : List XO := [⟨(some 63), none, .bin false .add (.t 32) (.c (.int .i64 1)), []⟩, ⟨(some 32), none, .mv (.t 63), [0]⟩]
@[reducible] def L32_0 : XC := (.seq (.reg false [] R32_9) (.seq (.cond (.t 33) .skip (.exit 0)) (.seq (.blk 1 (.seq (.reg false [] R32_10) (.seq (.reg false [] R32_11) (.seq (.reg false [] R32_12) (.cond (.t 57) (.reg false [] R32_13) .skip))))) (.reg false [] R32_14))))
@[reducible] def R32_15 : List XO := [⟨(some 64), none, .mv (.t 8), []⟩, ⟨(some 4), none, .mv (.t 64), [0, 0]⟩]
@[reducible] def F32 : XF := ⟨65, (.seq (.reg false [] R32_0) (.seq (.reg false [] R32_1) (.seq (.seq (.reg false [] R32_2) (.cond (.t 20) (.seq (.reg false [] R32_3) .ret) .skip)) (.seq (.reg false [] R32_4) (.seq (.seq (.reg false [] R32_5) (.cond (.t 28) (.seq (.reg false [] R32_6) .ret) .skip)) (.seq (.reg false [] R32_7) (.seq (.seq (.reg false [] R32_8) (.blk 0 (.loop L32_0))) (.seq (.reg
    false [] R32_15) .ret)))))))), [(4, none)]⟩
/-- codesearch/codesearchref15.Overridden -/
@[reducible] def R33_0 : List XO := [⟨(some 4), none, .mv (.c .nls), []⟩]
@[reducible] def R33_1 : List XO := [⟨(some 16), none, .mv (.t 0), []⟩, ⟨(some 17), none, .mv (.t 1), []⟩, ⟨(some 18), none, .call 54 [(.t 16), (.t 17)], [0, 1]⟩, ⟨(some 15), none, .mv (.t 18), [2]⟩, ⟨(some 19), none, .ext (.t 15) 0, [3]⟩, ⟨(some 20), none, .ext (.t 15) 1, [3]⟩, ⟨(some 5), none, .alloc [(.int .i64 0), (.int .i64 0), (.str (ByteArray.mk #[])), (.int .i64 0), (.str (ByteArray.mk
    #[])), .nls, .nls, (.bool false), (.int .i64 0), (.int .i64 0), (.int .i64 0)], []⟩, ⟨none, none, .store 11 (.t 5) (.t 19), [6, 4, 2, 0, 1, 2, 3, 4, 6]⟩, ⟨(some 6), none, .mv (.t 20), [5, 7, 0, 1, 2, 3, 4, 5, 6, 7]⟩]
@[reducible] def R33_2 : List XO := [⟨(some 22), none, .mv (.t 0), []⟩, ⟨(some 23), none, .load 11 true (.t 5), []⟩, ⟨(some 24), none, .call 55 [(.t 22), (.t 23)], [0, 1]⟩, ⟨(some 21), none, .mv (.t 24), [2]⟩, ⟨(some 25), none, .ext (.t 21) 0, [3]⟩, ⟨(some 26), none, .ext (.t 21) 1, [3]⟩, ⟨(some 7), none, .alloc [(.int .i64 0), (.int .i64 0), (.str (ByteArray.mk #[])), (.int .i64 0), (.str
    (ByteArray.mk #[])), .nls, .nls, (.bool false), (.int .i64 0), (.int .i64 0), (.int .i64 0)], []⟩, ⟨none, none, .store 11 (.t 7) (.t 25), [6, 4, 2, 0, 1, 2, 3, 4, 6]⟩, ⟨(some 8), none, .mv (.t 26), [5, 7, 0, 1, 2, 3, 4, 5, 6, 7]⟩]
@[reducible] def R33_3 : List XO := [⟨(some 9), none, .mv (.c .nls), []⟩]
@[reducible] def R33_4 : List XO := [⟨(some 10), none, .mv (.c (.int .i64 0)), []⟩]
@[reducible] def R33_5 : List XO := [⟨(some 27), none, .mv (.t 6), []⟩, ⟨(some 28), none, .mv (.t 27), [0]⟩, ⟨(some 29), (some (28, true)), .mv (.t 8), [1]⟩, ⟨(some 30), none, .pick (.t 28) (.t 29) (.c (.bool false)), [1, 2]⟩, ⟨(some 31), none, .mv (.t 30), [3, 1]⟩, ⟨(some 32), (some (31, true)), .mv (.t 10), [4]⟩, ⟨(some 33), (some (31, true)), .fad 6 (.t 7), [4]⟩, ⟨(some 34), (some (31, true)),
    .load 1 false (.t 33), [6, 4]⟩, ⟨(some 35), (some (31, true)), .len false (.t 34), [7, 4]⟩, ⟨(some 36), (some (31, true)), .bin false .lss (.t 32) (.t 35), [5, 8, 4]⟩, ⟨(some 37), none, .pick (.t 31) (.t 36) (.c (.bool false)), [4, 9]⟩]
@[reducible] def R33_6 : List XO := [⟨(some 41), none, .mv (.t 0), []⟩, ⟨(some 42), none, .fad 6 (.t 7), []⟩, ⟨(some 43), none, .load 1 false (.t 42), [1]⟩, ⟨(some 44), none, .mv (.t 10), []⟩, ⟨(some 45), none, .iaS 1 (.t 43) (.t 44), [2, 3]⟩, ⟨(some 46), none, .load 1 false (.t 45), [4]⟩, ⟨(some 47), none, .fad 2 (.t 5), []⟩, ⟨(some 48), none, .load 1 false (.t 47), [6]⟩, ⟨(some 49), none, .call
    27 [(.t 48)], [7]⟩, ⟨(some 50), none, .call 30 [(.t 41), (.t 46), (.t 49)], [0, 5, 8, 8]⟩, ⟨(some 40), none, .mv (.t 50), [9]⟩, ⟨(some 51), none, .ext (.t 40) 0, [10]⟩, ⟨(some 52), none, .ext (.t 40) 1, [10]⟩, ⟨(some 11), none, .alloc [(.int .i64 0), (.int .i64 0), (.str (ByteArray.mk #[])), (.int .i64 0), (.str (ByteArray.mk #[])), .nls, .nls, (.bool false), (.int .i64 0), (.int .i64 0), (.int
    .i64 0)], []⟩, ⟨none, none, .store 11 (.t 11) (.t 51), [13, 11, 9, 0, 1, 2, 3, 4, 5, 6, 7, 8, 9, 10, 11, 13]⟩, ⟨(some 12), none, .mv (.t 52), [12, 14, 0, 1, 2, 3, 4, 5, 6, 7, 8, 9, 10, 11, 12, 13, 14]⟩]
@[reducible] def R33_7 : List XO := [⟨(some 13), none, .mv (.c (.bool false)), []⟩]
@[reducible] def R33_8 : List XO := [⟨(some 14), none, .mv (.c (.int .i64 0)), []⟩]
@[reducible] def R33_9 : List XO := [⟨(some 53), none, .mv (.t 14), []⟩, ⟨(some 54), none, .mv (.t 9), []⟩, ⟨(some 55), none, .len false (.t 54), [1]⟩, ⟨(some 56), none, .bin false .lss (.t 53) (.t 55), [0, 2]⟩]
@[reducible] def R33_10 : List XO := [⟨(some 59), none, .mv (.t 13), []⟩, ⟨(some 60), none, .mv (.t 59), [0]⟩, ⟨(some 61), (some (60, false)), .mv (.t 9), [1]⟩, ⟨(some 62), (some (60, false)), .mv (.t 14), [1]⟩, ⟨(some 63), (some (60, false)), .iaS 1 (.t 61) (.t 62), [2, 3, 1]⟩, ⟨(some 64), (some (60, false)), .load 1 false (.t 63), [4, 1]⟩, ⟨(some 65), (some (60, false)), .fad 0 (.t 11), [1]⟩,
    ⟨(some 66), (some (60, false)), .load 1 false (.t 65), [6, 1]⟩, ⟨(some 67), (some (60, false)), .bin false .eql (.t 64) (.t 66), [5, 7, 1]⟩, ⟨(some 68), none, .pick (.t 60) (.c (.bool true)) (.t 67), [1, 8]⟩, ⟨(some 13), none, .mv (.t 68), [9, 1, 0, 1, 2, 3, 4, 5, 6, 7, 8, 9]⟩]
@[reducible] def R33_11 : List XO := [⟨(some 57), none, .mv (.t 14), []⟩, ⟨(some 58), none, .bin false .add (.t 57) (.c (.int .i64 1)), [0]⟩, ⟨(some 14), none, .mv (.t 58), [1, 0, 1]⟩]
@[reducible] def L33_0 : XC := (.seq (.seq (.reg false [] R33_9) (.cond (.t 56) .skip (.exit 2))) (.seq (.blk 3 (.reg true [] R33_10)) (.reg false [] R33_11)))
@[reducible] def R33_12 : List XO := [⟨(some 69), none, .mv (.t 12), []⟩, ⟨(some 70), none, .mv (.t 69), [0]⟩, ⟨(some 71), (some (70, true)), .mv (.t 13), [1]⟩, ⟨(some 72), (some (70, true)), .un .not (.t 71), [2, 1]⟩, ⟨(some 73), none, .pick (.t 70) (.t 72) (.c (.bool false)), [1, 3]⟩, ⟨(some 74), none, .mv (.t 73), [4, 1]⟩, ⟨(some 75), (some (74, true)), .fad 1 (.t 11), [5]⟩, ⟨(some 76), (some
    (74, true)), .load 1 false (.t 75), [6, 5]⟩, ⟨(some 77), (some (74, true)), .bin false .eql (.t 76) (.c (.int .i64 5)), [7, 5]⟩, ⟨(some 78), none, .pick (.t 74) (.t 77) (.c (.bool false)), [5, 8]⟩]
@[reducible] def R33_13 : List XO := [⟨(some 79), none, .mv (.t 9), []⟩, ⟨(some 80), none, .fad 0 (.t 11), []⟩, ⟨(some 81), none, .load 1 false (.t 80), [1]⟩, ⟨(some 82), none, .bsl 3 1 [(.int .i64 0)] 1 [(0, (.t 81))], [2]⟩, ⟨(some 83), none, .app 3 1 8 (.t 79) (.t 82), [0, 3]⟩, ⟨(some 9), none, .mv (.t 83), [4, 4, 0, 1, 2, 3, 4]⟩]
@[reducible] def R33_14 : List XO := [⟨(some 38), none, .mv (.t 10), []⟩, ⟨(some 39), none, .bin false .add (.t 38) (.c (.int .i64 1)), [0]⟩, ⟨(some 10), none, .mv (.t 39), [1, 0, 1]⟩]
@[reducible] def L33_1 : XC := (.seq (.seq (.reg false [] R33_5) (.cond (.t 37) .skip (.exit 0))) (.seq (.blk 1 (.seq (.reg true [] R33_6) (.seq (.reg false [] R33_7) (.seq (.seq (.reg false [] R33_8) (.blk 2 (.loop L33_0))) (.seq (.reg false [] R33_12) (.cond (.t 78) (.reg false [] R33_13) .skip)))))) (.reg false [] R33_14)))
@[reducible] def R33_15 : List XO := [⟨(some 84), none, .mv (.t 9), []⟩, ⟨(some 4), none, .mv (.t 84), [0, 0]⟩]
@[reducible] def F33 : XF := ⟨85, (.seq (.reg false [] R33_0) (.seq (.reg false [] R33_1) (.seq (.reg false [] R33_2) (.seq (.reg false [] R33_3) (.seq (.seq (.reg false [] R33_4) (.blk 0 (.loop L33_1))) (.seq (.reg false [] R33_15) .ret)))))), [(4, none)]⟩
/-- codesearch/codesearchlaw15.decl -/
@[reducible] def R34_0 : List XO := [⟨(some 10), none, .alloc [(.int .i64 0), (.int .i64 0), (.str (ByteArray.mk #[])), (.int .i64 0), (.str (ByteArray.mk #[])), .nls, .nls, (.bool false), (.int .i64 0), (.int .i64 0), (.int .i64 0)], []⟩]
@[reducible] def R34_1 : List XO := [⟨(some 11), none, .mv (.t 0), []⟩, ⟨(some 12), none, .mv (.t 1), []⟩, ⟨(some 13), none, .mv (.t 2), []⟩, ⟨(some 14), none, .mv (.t 3), []⟩, ⟨(some 15), none, .mv (.t 4), []⟩, ⟨(some 16), none, .mv (.t 0), []⟩, ⟨(some 17), none, .bin false .mul (.c (.int .i64 10)) (.t 16), [5]⟩, ⟨(some 18), none, .build [(.int .i64 0), (.int .i64 0), (.str (ByteArray.mk #[])),
    (.int .i64 0), (.str (ByteArray.mk #[])), .nls, .nls, (.bool false), (.int .i64 0), (.int .i64 0), (.int .i64 0)] [(0, 1, (.t 11)), (1, 1, (.t 12)), (2, 1, (.t 13)), (3, 1, (.c (.int .i64 1))), (7, 1, (.t 14)), (6, 1, (.t 15)), (9, 1, (.t 17))], [0, 1, 2, 3, 4, 6]⟩, ⟨none, none, .store 11 (.t 10) (.t 18), [7, 0, 1, 2, 3, 4, 5, 6, 7]⟩]
@[reducible] def F34 : XF := ⟨19, (.seq (.reg false [] R34_0) (.seq (.reg false [] R34_1) .ret)), [(10, some (11, true))]⟩
/-- codesearch/types.named -/
@[reducible] def R35_0 : List XO := [⟨(some 4), none, .alloc [(.int .i64 0), (.int .i64 0), (.str (ByteArray.mk #[])), (.int .i64 0), (.str (ByteArray.mk #[])), .nls, .nls, (.bool false), (.int .i64 0), (.int .i64 0), (.int .i64 0)], []⟩, ⟨(some 5), none, .mv (.c (.bool false)), []⟩]
@[reducible] def R35_1 : List XO := [⟨(some 9), none, .mv (.t 0), []⟩, ⟨(some 10), none, .mv (.t 1), []⟩, ⟨(some 11), none, .call 56 [(.t 9), (.t 10)], [0, 1]⟩, ⟨(some 8), none, .mv (.t 11), [2]⟩, ⟨(some 12), none, .ext (.t 8) 0, [3]⟩, ⟨(some 13), none, .ext (.t 8) 1, [3]⟩, ⟨(some 6), none, .alloc [(.int .i64 0), (.int .i64 0), (.str (ByteArray.mk #[])), (.int .i64 0), (.str (ByteArray.mk #[])),
    .nls, .nls, (.bool false), (.int .i64 0), (.int .i64 0), (.int .i64 0)], []⟩, ⟨none, none, .store 11 (.t 6) (.t 12), [6, 4, 2, 0, 1, 2, 3, 4, 6]⟩, ⟨(some 7), none, .mv (.t 13), [5, 7, 0, 1, 2, 3, 4, 5, 6, 7]⟩]
@[reducible] def R35_2 : List XO := [⟨(some 14), none, .mv (.t 7), []⟩, ⟨(some 15), none, .un .not (.t 14), [0]⟩, ⟨(some 16), none, .mv (.t 15), [1]⟩, ⟨(some 17), (some (16, false)), .load 11 true (.t 6), [2]⟩, ⟨(some 18), (some (16, false)), .call 57 [(.t 17)], [3, 2, 2]⟩, ⟨(some 19), (some (16, false)), .un .not (.t 18), [4, 2]⟩, ⟨(some 20), none, .pick (.t 16) (.c (.bool true)) (.t 19), [2, 5]⟩]
@[reducible] def R35_3 : List XO := [⟨(some 21), none, .build [(.int .i64 0), (.int .i64 0), (.str (ByteArray.mk #[])), (.int .i64 0), (.str (ByteArray.mk #[])), .nls, .nls, (.bool false), (.int .i64 0), (.int .i64 0), (.int .i64 0)] [], []⟩, ⟨none, none, .store 11 (.t 4) (.t 21), [0, 0]⟩, ⟨(some 5), none, .mv (.c (.bool false)), [1, 0, 1]⟩]
@[reducible] def R35_4 : List XO := [⟨(some 22), none, .load 11 true (.t 6), []⟩, ⟨none, none, .store 11 (.t 4) (.t 22), [0, 0]⟩, ⟨(some 5), none, .mv (.c (.bool true)), [1, 0, 1]⟩]
@[reducible] def F35 : XF := ⟨23, (.seq (.reg false [] R35_0) (.seq (.reg false [] R35_1) (.seq (.seq (.reg false [] R35_2) (.cond (.t 20) (.seq (.reg false [] R35_3) .ret) .skip)) (.seq (.reg false [] R35_4) .ret)))), [(4, some (11, true)), (5, none)]⟩
/-- codesearch/codesearchref15.class -/
@[reducible] def R36_0 : List XO := [⟨(some 4), none, .alloc [(.int .i64 0), (.int .i64 0), (.str (ByteArray.mk #[])), (.int .i64 0), (.str (ByteArray.mk #[])), .nls, .nls, (.bool false), (.int .i64 0), (.int .i64 0), (.int .i64 0)], []⟩, ⟨(some 5), none, .mv (.c (.bool false)), []⟩]
@[reducible] def R36_1 : List XO := [⟨(some 6), none, .mv (.c (.int .i64 0)), []⟩]
@[reducible] def R36_2 : List XO := [⟨(some 7), none, .mv (.t 6), []⟩, ⟨(some 8), none, .mv (.t 0), []⟩, ⟨(some 9), none, .len false (.t 8), [1]⟩, ⟨(some 10), none, .bin false .lss (.t 7) (.t 9), [0, 2]⟩]
@[reducible] def R36_3 : List XO := [⟨(some 13), none, .mv (.t 0), []⟩, ⟨(some 14), none, .mv (.t 6), []⟩, ⟨(some 15), none, .iaS 11 (.t 13) (.t 14), [0, 1]⟩, ⟨(some 16), none, .fad 2 (.t 15), [2]⟩, ⟨(some 17), none, .load 1 false (.t 16), [3]⟩, ⟨(some 18), none, .mv (.t 1), []⟩, ⟨(some 19), none, .bin false .eql (.t 17) (.t 18), [4, 5]⟩]
@[reducible] def R36_4 : List XO := [⟨(some 20), none, .mv (.t 0), []⟩, ⟨(some 21), none, .mv (.t 6), []⟩, ⟨(some 22), none, .iaS 11 (.t 20) (.t 21), [0, 1]⟩, ⟨(some 23), none, .load 11 true (.t 22), [2]⟩, ⟨(some 24), none, .mv (.t 0), []⟩, ⟨(some 25), none, .mv (.t 6), []⟩, ⟨(some 26), none, .iaS 11 (.t 24) (.t 25), [4, 5]⟩, ⟨(some 27), none, .fad 1 (.t 26), [6]⟩, ⟨(some 28), none, .load 1 false
    (.t 27), [7]⟩, ⟨(some 29), none, .bin false .eql (.t 28) (.c (.int .i64 3)), [8]⟩, ⟨(some 30), none, .mv (.t 29), [9]⟩, ⟨(some 31), (some (30, false)), .mv (.t 0), [10]⟩, ⟨(some 32), (some (30, false)), .mv (.t 6), [10]⟩, ⟨(some 33), (some (30, false)), .iaS 11 (.t 31) (.t 32), [11, 12, 10]⟩, ⟨(some 34), (some (30, false)), .fad 1 (.t 33), [13, 10]⟩, ⟨(some 35), (some (30, false)), .load 1
    false (.t 34), [14, 10]⟩, ⟨(some 36), (some (30, false)), .bin false .eql (.t 35) (.c (.int .i64 4)), [15, 10]⟩, ⟨(some 37), none, .pick (.t 30) (.c (.bool true)) (.t 36), [10, 16]⟩, ⟨none, none, .store 11 (.t 4) (.t 23), [3, 10, 0, 1, 2, 3]⟩, ⟨(some 5), none, .mv (.t 37), [17, 18, 0, 1, 2, 3, 4, 5, 6, 7, 8, 9, 10, 11, 12, 13, 14, 15, 16, 17, 18]⟩]
@[reducible] def R36_5 : List XO := [⟨(some 11), none, .mv (.t 6), []⟩, ⟨(some 12), none, .bin false .add (.t 11) (.c (.int .i64 1)), [0]⟩, ⟨(some 6), none, .mv (.t 12), [1, 0, 1]⟩]
@[reducible] def L36_0 : XC := (.seq (.seq (.reg false [] R36_2) (.cond (.t 10) .skip (.exit 0))) (.seq (.blk 1 (.seq (.reg false [] R36_3) (.cond (.t 19) (.seq (.reg true [(13, 18), (15, 18)] R36_4) .ret) .skip))) (.reg false [] R36_5)))
@[reducible] def R36_6 : List XO := [⟨(some 38), none, .build [(.int .i64 0), (.int .i64 0), (.str (ByteArray.mk #[])), (.int .i64 0), (.str (ByteArray.mk #[])), .nls, .nls, (.bool false), (.int .i64 0), (.int .i64 0), (.int .i64 0)] [], []⟩, ⟨none, none, .store 11 (.t 4) (.t 38), [0, 0]⟩, ⟨(some 5), none, .mv (.c (.bool false)), [1, 0, 1]⟩]
@[reducible] def F36 : XF := ⟨39, (.seq (.reg false [] R36_0) (.seq (.seq (.reg false [] R36_1) (.blk 0 (.loop L36_0))) (.seq (.reg false [] R36_6) .ret))), [(4, some (11, true)), (5, none)]⟩
/-- codesearch/codesearchref15.same -/
@[reducible] def R37_0 : List XO := [⟨(some 4), none, .mv (.c (.bool false)), []⟩]
@[reducible] def R37_1 : List XO := [⟨(some 6), none, .mv (.t 0), []⟩, ⟨(some 7), none, .len false (.t 6), [0]⟩, ⟨(some 8), none, .mv (.t 1), []⟩, ⟨(some 9), none, .len false (.t 8), [2]⟩, ⟨(some 10), none, .bin false .neq (.t 7) (.t 9), [1, 3]⟩]
@[reducible] def R37_2 : List XO := [⟨(some 4), none, .mv (.c (.bool false)), []⟩]
@[reducible] def R37_3 : List XO := [⟨(some 5), none, .mv (.c (.int .i64 0)), []⟩]
@[reducible] def R37_4 : List XO := [⟨(some 11), none, .mv (.t 5), []⟩, ⟨(some 12), none, .mv (.t 0), []⟩, ⟨(some 13), none, .len false (.t 12), [1]⟩, ⟨(some 14), none, .bin false .lss (.t 11) (.t 13), [0, 2]⟩]
@[reducible] def R37_5 : List XO := [⟨(some 17), none, .mv (.t 0), []⟩, ⟨(some 18), none, .mv (.t 5), []⟩, ⟨(some 19), none, .iaS 1 (.t 17) (.t 18), [0, 1]⟩, ⟨(some 20), none, .load 1 false (.t 19), [2]⟩, ⟨(some 21), none, .mv (.t 1), []⟩, ⟨(some 22), none, .mv (.t 5), []⟩, ⟨(some 23), none, .iaS 1 (.t 21) (.t 22), [4, 5]⟩, ⟨(some 24), none, .load 1 false (.t 23), [6]⟩, ⟨(some 25), none, .bin false
    .neq (.t 20) (.t 24), [3, 7]⟩]
@[reducible] def R37_6 : List XO := [⟨(some 4), none, .mv (.c (.bool false)), []⟩]
@[reducible] def R37_7 : List XO := [⟨(some 15), none, .mv (.t 5), []⟩, ⟨(some 16), none, .bin false .add (.t 15) (.c (.int .i64 1)), [0]⟩, ⟨(some 5), none, .mv (.t 16), [1, 0, 1]⟩]
@[reducible] def L37_0 : XC := (.seq (.seq (.reg false [] R37_4) (.cond (.t 14) .skip (.exit 0))) (.seq (.blk 1 (.seq (.reg true [] R37_5) (.cond (.t 25) (.seq (.reg false [] R37_6) .ret) .skip))) (.reg false [] R37_7)))
@[reducible] def R37_8 : List XO := [⟨(some 4), none, .mv (.c (.bool true)), []⟩]
@[reducible] def F37 : XF := ⟨26, (.seq (.reg false [] R37_0) (.seq (.seq (.reg false [] R37_1) (.cond (.t 10) (.seq (.reg false [] R37_2) .ret) .skip)) (.seq (.seq (.reg false [] R37_3) (.blk 0 (.loop L37_0))) (.seq (.reg false [] R37_8) .ret)))), [(4, none)]⟩
/-- codesearch/types.Supers$1 -/
@[reducible] def R38_0 : List XO := [⟨(some 10), none, .load 1 false (.t 1), []⟩, ⟨(some 11), none, .mv (.t 0), []⟩, ⟨(some 12), none, .call 35 [(.t 10), (.t 11)], [0, 1]⟩, ⟨(some 9), none, .mv (.t 12), [2]⟩, ⟨(some 13), none, .ext (.t 9) 0, [3]⟩, ⟨(some 14), none, .ext (.t 9) 1, [3]⟩, ⟨(some 5), none, .alloc [(.int .i64 0), (.int .i64 0), (.str (ByteArray.mk #[])), (.int .i64 0), (.str
    (ByteArray.mk #[])), .nls, .nls, (.bool false), (.int .i64 0), (.int .i64 0), (.int .i64 0)], []⟩, ⟨none, none, .store 11 (.t 5) (.t 13), [6, 4, 2, 0, 1, 2, 3, 4, 6]⟩, ⟨(some 6), none, .mv (.t 14), [5, 7, 0, 1, 2, 3, 4, 5, 6, 7]⟩]
@[reducible] def R38_1 : List XO := [⟨(some 15), none, .mv (.t 6), []⟩, ⟨(some 16), none, .un .not (.t 15), [0]⟩]
@[reducible] def R38_2 : List XO := [⟨(some 17), none, .fad 6 (.t 5), []⟩, ⟨(some 18), none, .load 1 false (.t 17), [0]⟩, ⟨(some 19), none, .len false (.t 18), [1]⟩, ⟨(some 20), none, .mv (.c (.int .i64 0)), []⟩]
@[reducible] def R38_3 : List XO := [⟨(some 21), none, .bin false .lss (.t 20) (.t 19), []⟩]
@[reducible] def R38_4 : List XO := [⟨(some 22), none, .iaS 1 (.t 18) (.t 20), []⟩, ⟨(some 23), none, .load 1 false (.t 22), [0]⟩, ⟨(some 8), none, .mv (.t 23), [1, 0, 1]⟩]
@[reducible] def R38_5 : List XO := [⟨(some 24), none, .load 1 false (.t 2), []⟩, ⟨(some 25), none, .mv (.t 8), []⟩, ⟨(some 26), none, .mget (.int .i64 0) (.t 24) (.t 25), [0, 1]⟩, ⟨(some 27), none, .bin false .eql (.t 26) (.c (.int .i64 0)), [2]⟩]
@[reducible] def R38_6 : List XO := [⟨(some 28), none, .load 1 false (.t 2), []⟩, ⟨(some 29), none, .mv (.t 8), []⟩, ⟨none, none, .mput (.t 28) (.t 29) (.c (.int .i64 1)), [0, 1, 0, 1]⟩]
@[reducible] def R38_7 : List XO := [⟨(some 30), none, .load 1 false (.t 3), []⟩, ⟨(some 31), none, .mv (.t 8), []⟩, ⟨(some 32), none, .bsl 9 1 [(.str (ByteArray.mk #[]))] 1 [(0, (.t 31))], [1]⟩, ⟨(some 33), none, .app 9 1 16 (.t 30) (.t 32), [0, 2]⟩, ⟨none, none, .store 1 (.t 3) (.t 33), [3, 3, 0, 1, 2, 3]⟩]
@[reducible] def R38_8 : List XO := [⟨(some 34), none, .bin false .add (.t 20) (.c (.int .i64 1)), []⟩, ⟨(some 20), none, .mv (.t 34), [0]⟩]
@[reducible] def L38_0 : XC := (.seq (.reg false [] R38_3) (.seq (.cond (.t 21) .skip (.exit 0)) (.seq (.blk 1 (.seq (.reg false [] R38_4) (.seq (.reg false [] R38_5) (.cond (.t 27) (.seq (.reg false [] R38_6) (.reg false [] R38_7)) .skip)))) (.reg false [] R38_8))))
@[reducible] def F38 : XF := ⟨35, (.seq (.reg false [] R38_0) (.seq (.seq (.reg false [] R38_1) (.cond (.t 16) .ret .skip)) (.seq (.reg false [] R38_2) (.blk 0 (.loop L38_0))))), []⟩
/-- codesearch/codesearchref15.has -/
@[reducible] def R39_0 : List XO := [⟨(some 4), none, .mv (.c (.bool false)), []⟩]
@[reducible] def R39_1 : List XO := [⟨(some 5), none, .mv (.c (.int .i64 0)), []⟩]
@[reducible] def R39_2 : List XO := [⟨(some 6), none, .mv (.t 5), []⟩, ⟨(some 7), none, .mv (.t 0), []⟩, ⟨(some 8), none, .len false (.t 7), [1]⟩, ⟨(some 9), none, .bin false .lss (.t 6) (.t 8), [0, 2]⟩]
@[reducible] def R39_3 : List XO := [⟨(some 12), none, .mv (.t 0), []⟩, ⟨(some 13), none, .mv (.t 5), []⟩, ⟨(some 14), none, .iaS 1 (.t 12) (.t 13), [0, 1]⟩, ⟨(some 15), none, .load 1 false (.t 14), [2]⟩, ⟨(some 16), none, .mv (.t 1), []⟩, ⟨(some 17), none, .bin false .eql (.t 15) (.t 16), [3, 4]⟩]
@[reducible] def R39_4 : List XO := [⟨(some 4), none, .mv (.c (.bool true)), []⟩]
@[reducible] def R39_5 : List XO := [⟨(some 10), none, .mv (.t 5), []⟩, ⟨(some 11), none, .bin false .add (.t 10) (.c (.int .i64 1)), [0]⟩, ⟨(some 5), none, .mv (.t 11), [1, 0, 1]⟩]
@[reducible] def L39_0 : XC := (.seq (.seq (.reg false [] R39_2) (.cond (.t 9) .skip (.exit 0))) (.seq (.blk 1 (.seq (.reg false [] R39_3) (.cond (.t 17) (.seq (.reg false [] R39_4) .ret) .skip))) (.reg false [] R39_5)))
@[reducible] def R39_6 : List XO := [⟨(some 4), none, .mv (.c (.bool false)), []⟩]
@[reducible] def F39 : XF := ⟨18, (.seq (.reg false [] R39_0) (.seq (.seq (.reg false [] R39_1) (.blk 0 (.loop L39_0))) (.seq (.reg false [] R39_6) .ret))), [(4, none)]⟩
/-- slices.Contains[[]string,string] -/
@[reducible] def R40_0 : List XO := [⟨(some 4), none, .mv (.c (.bool false)), []⟩]
@[reducible] def R40_1 : List XO := [⟨(some 5), none, .mv (.t 0), []⟩, ⟨(some 6), none, .mv (.t 1), []⟩, ⟨(some 7), none, .call 58 [(.t 5), (.t 6)], [0, 1]⟩, ⟨(some 8), none, .bin false .geq (.t 7) (.c (.int .i64 0)), [2]⟩, ⟨(some 4), none, .mv (.t 8), [3, 2, 0, 1, 2, 3]⟩]
@[reducible] def F40 : XF := ⟨9, (.seq (.reg false [] R40_0) (.seq (.reg false [] R40_1) .ret)), [(4, none)]⟩
/-- codesearch/types.unknown -/
@[reducible] def R41_0 : List XO := [⟨(some 2), none, .box 1 (.t 0), []⟩, ⟨(some 3), none, .box 11 (.t 1), []⟩, ⟨(some 4), none, .mv (.c (.bool false)), []⟩]
@[reducible] def R41_1 : List XO := [⟨(some 6), none, .mkfn 59 [(.t 2)], []⟩, ⟨(some 5), none, .mv (.t 6), [0, 0]⟩]
@[reducible] def R41_2 : List XO := [⟨(some 7), none, .fad 1 (.t 3), []⟩, ⟨(some 8), none, .load 1 false (.t 7), [0]⟩]
@[reducible] def R41_3 : List XO := [⟨(some 10), none, .bin false .eql (.t 8) (.c (.int .i64 6)), []⟩, ⟨(some 9), none, .mv (.t 10), [0]⟩]
@[reducible] def R41_4 : List XO := [⟨(some 11), none, .mv (.t 5), []⟩, ⟨(some 12), none, .fad 4 (.t 3), []⟩, ⟨(some 13), none, .load 1 false (.t 12), [1]⟩, ⟨(some 14), none, .callv (.t 11) [(.t 13)], [0, 2]⟩, ⟨(some 4), none, .mv (.t 14), [3, 3, 0, 1, 2, 3]⟩]
@[reducible] def R41_5 : List XO := [⟨(some 16), none, .bin false .eql (.t 8) (.c (.int .i64 5)), []⟩, ⟨(some 15), none, .mv (.t 16), [0]⟩]
@[reducible] def R41_6 : List XO := [⟨(some 17), none, .mv (.t 5), []⟩, ⟨(some 18), none, .fad 4 (.t 3), []⟩, ⟨(some 19), none, .load 1 false (.t 18), [1]⟩, ⟨(some 20), none, .callv (.t 17) [(.t 19)], [0, 2]⟩, ⟨(some 21), none, .mv (.t 20), [3, 3]⟩, ⟨(some 22), (some (21, false)), .fad 5 (.t 3), [4]⟩, ⟨(some 23), (some (21, false)), .load 1 false (.t 22), [5, 4]⟩, ⟨(some 24), (some (21, false)),
    .mv (.t 5), [4]⟩, ⟨(some 25), (some (21, false)), .call 60 [(.t 23), (.t 24)], [6, 7, 4, 4]⟩, ⟨(some 26), none, .pick (.t 21) (.c (.bool true)) (.t 25), [4, 8]⟩, ⟨(some 4), none, .mv (.t 26), [9, 8, 0, 1, 2, 3, 4, 5, 6, 7, 8, 9]⟩]
@[reducible] def R41_7 : List XO := [⟨(some 28), none, .bin false .eql (.t 8) (.c (.int .i64 3)), []⟩, ⟨(some 27), none, .mv (.t 28), [0]⟩]
@[reducible] def R41_8 : List XO := [⟨(some 29), none, .bin false .eql (.t 8) (.c (.int .i64 4)), []⟩, ⟨(some 27), none, .mv (.t 29), [0]⟩]
@[reducible] def R41_9 : List XO := [⟨(some 30), none, .fad 6 (.t 3), []⟩, ⟨(some 31), none, .load 1 false (.t 30), [0]⟩, ⟨(some 32), none, .mv (.t 5), []⟩, ⟨(some 33), none, .call 60 [(.t 31), (.t 32)], [1, 2]⟩, ⟨(some 4), none, .mv (.t 33), [3, 3, 0, 1, 2, 3]⟩]
@[reducible] def R41_10 : List XO := [⟨(some 4), none, .mv (.c (.bool false)), []⟩]
@[reducible] def F41 : XF := ⟨34, (.seq (.reg false [] R41_0) (.seq (.reg false [] R41_1) (.seq (.seq (.reg false [] R41_2) (.blk 0 (.seq (.reg false [] R41_3) (.cond (.t 9) (.seq (.reg false [] R41_4) .ret) (.seq (.reg false [] R41_5) (.cond (.t 15) (.seq (.reg false [] R41_6) .ret) (.seq (.seq (.reg false [] R41_7) (.cond (.t 27) .skip (.reg false [] R41_8))) (.cond (.t 27) (.seq (.reg false []
    R41_9) .ret) .skip)))))))) (.seq (.reg false [] R41_10) .ret)))), [(4, none)]⟩
/-- codesearch/types.looped -/
@[reducible] def R42_0 : List XO := [⟨(some 2), none, .box 1 (.t 0), []⟩, ⟨(some 3), none, .box 11 (.t 1), []⟩, ⟨(some 4), none, .mv (.c (.bool false)), []⟩]
@[reducible] def R42_1 : List XO := [⟨(some 5), none, .load 11 true (.t 3), []⟩, ⟨(some 6), none, .call 57 [(.t 5)], [0]⟩, ⟨(some 7), none, .un .not (.t 6), [1]⟩]
@[reducible] def R42_2 : List XO := [⟨(some 4), none, .mv (.c (.bool false)), []⟩]
@[reducible] def R42_3 : List XO := [⟨(some 8), none, .fad 6 (.t 3), []⟩, ⟨(some 9), none, .load 1 false (.t 8), [0]⟩, ⟨(some 10), none, .fad 2 (.t 3), []⟩, ⟨(some 11), none, .load 1 false (.t 10), [2]⟩, ⟨(some 12), none, .call 40 [(.t 9), (.t 11)], [1, 3]⟩]
@[reducible] def R42_4 : List XO := [⟨(some 4), none, .mv (.c (.bool true)), []⟩]
@[reducible] def R42_5 : List XO := [⟨(some 13), none, .load 1 false (.t 2), []⟩, ⟨(some 14), none, .fad 2 (.t 3), []⟩, ⟨(some 15), none, .load 1 false (.t 14), [1]⟩, ⟨(some 16), none, .call 17 [(.t 13), (.t 15)], [0, 2]⟩, ⟨(some 17), none, .mkfn 61 [(.t 2), (.t 3)], []⟩, ⟨(some 18), none, .call 60 [(.t 16), (.t 17)], [3, 4, 3]⟩, ⟨(some 4), none, .mv (.t 18), [5, 5, 0, 1, 2, 3, 4, 5]⟩]
@[reducible] def F42 : XF := ⟨19, (.seq (.reg false [] R42_0) (.seq (.seq (.reg false [] R42_1) (.cond (.t 7) (.seq (.reg false [] R42_2) .ret) .skip)) (.seq (.seq (.reg false [] R42_3) (.cond (.t 12) (.seq (.reg false [] R42_4) .ret) .skip)) (.seq (.reg false [] R42_5) .ret)))), [(4, none)]⟩
/-- codesearch/types.wrong -/
@[reducible] def R43_0 : List XO := [⟨(some 3), none, .box 11 (.t 1), []⟩, ⟨(some 4), none, .mv (.c (.bool false)), []⟩]
@[reducible] def R43_1 : List XO := [⟨(some 5), none, .fad 1 (.t 3), []⟩, ⟨(some 6), none, .load 1 false (.t 5), [0]⟩]
@[reducible] def R43_2 : List XO := [⟨(some 8), none, .bin false .eql (.t 6) (.c (.int .i64 3)), []⟩, ⟨(some 7), none, .mv (.t 8), [0]⟩]
@[reducible] def R43_3 : List XO := [⟨(some 9), none, .bin false .eql (.t 6) (.c (.int .i64 4)), []⟩, ⟨(some 7), none, .mv (.t 9), [0]⟩]
@[reducible] def R43_4 : List XO := [⟨(some 10), none, .mv (.t 0), []⟩, ⟨(some 11), none, .load 11 true (.t 3), []⟩, ⟨(some 12), none, .call 62 [(.t 10), (.t 11)], [0, 1]⟩, ⟨(some 4), none, .mv (.t 12), [2, 2, 0, 1, 2]⟩]
@[reducible] def R43_5 : List XO := [⟨(some 14), none, .bin false .eql (.t 6) (.c (.int .i64 6)), []⟩, ⟨(some 13), none, .mv (.t 14), [0]⟩]
@[reducible] def R43_6 : List XO := [⟨(some 15), none, .fad 4 (.t 3), []⟩, ⟨(some 16), none, .load 1 false (.t 15), [0]⟩, ⟨(some 17), none, .bin false .eql (.t 16) (.c (.str (ByteArray.mk #[118, 111, 105, 100]))), [1]⟩, ⟨(some 4), none, .mv (.t 17), [2, 0, 1, 2]⟩]
@[reducible] def R43_7 : List XO := [⟨(some 19), none, .bin false .eql (.t 6) (.c (.int .i64 5)), []⟩, ⟨(some 18), none, .mv (.t 19), [0]⟩]
@[reducible] def R43_8 : List XO := [⟨(some 20), none, .fad 5 (.t 3), []⟩, ⟨(some 21), none, .load 1 false (.t 20), [0]⟩, ⟨(some 22), none, .call 40 [(.t 21), (.c (.str (ByteArray.mk #[118, 111, 105, 100])))], [1]⟩, ⟨(some 23), none, .mv (.t 22), [2, 2]⟩, ⟨(some 24), (some (23, false)), .mv (.t 0), [3]⟩, ⟨(some 25), (some (23, false)), .load 11 true (.t 3), [3]⟩, ⟨(some 26), (some (23, false)),
    .call 63 [(.t 24), (.t 25)], [4, 5, 3, 3]⟩, ⟨(some 27), none, .pick (.t 23) (.c (.bool true)) (.t 26), [3, 6]⟩, ⟨(some 4), none, .mv (.t 27), [7, 6, 0, 1, 2, 3, 4, 5, 6, 7]⟩]
@[reducible] def R43_9 : List XO := [⟨(some 4), none, .mv (.c (.bool false)), []⟩]
@[reducible] def F43 : XF := ⟨28, (.seq (.reg false [] R43_0) (.seq (.seq (.reg false [] R43_1) (.blk 0 (.seq (.seq (.reg false [] R43_2) (.cond (.t 7) .skip (.reg false [] R43_3))) (.cond (.t 7) (.seq (.reg false [] R43_4) .ret) (.seq (.reg false [] R43_5) (.cond (.t 13) (.seq (.reg false [] R43_6) .ret) (.seq (.reg false [] R43_7) (.cond (.t 18) (.seq (.reg false [] R43_8) .ret) .skip))))))))
    (.seq (.reg false [] R43_9) .ret))), [(4, none)]⟩
/-- codesearch/codesearchref15.unknown -/
@[reducible] def R44_0 : List XO := [⟨(some 3), none, .box 11 (.t 1), []⟩, ⟨(some 4), none, .mv (.c (.bool false)), []⟩]
@[reducible] def R44_1 : List XO := [⟨(some 7), none, .fad 1 (.t 3), []⟩, ⟨(some 8), none, .load 1 false (.t 7), [0]⟩, ⟨(some 9), none, .bin false .eql (.t 8) (.c (.int .i64 6)), [1]⟩, ⟨(some 10), none, .mv (.t 9), [2]⟩, ⟨(some 11), (some (10, false)), .fad 1 (.t 3), [3]⟩, ⟨(some 12), (some (10, false)), .load 1 false (.t 11), [4, 3]⟩, ⟨(some 13), (some (10, false)), .bin false .eql (.t 12) (.c
    (.int .i64 5)), [5, 3]⟩, ⟨(some 14), none, .pick (.t 10) (.c (.bool true)) (.t 13), [3, 6]⟩, ⟨(some 15), none, .mv (.t 14), [7, 3]⟩, ⟨(some 16), (some (15, true)), .mv (.t 0), [8]⟩, ⟨(some 17), (some (15, true)), .fad 4 (.t 3), [8]⟩, ⟨(some 18), (some (15, true)), .load 1 false (.t 17), [10, 8]⟩, ⟨(some 19), (some (15, true)), .call 15 [(.t 16), (.t 18)], [9, 11, 8, 8]⟩, ⟨(some 20), (some (15,
    true)), .un .not (.t 19), [12, 8]⟩, ⟨(some 21), none, .pick (.t 15) (.t 20) (.c (.bool false)), [8, 13]⟩]
@[reducible] def R44_2 : List XO := [⟨(some 4), none, .mv (.c (.bool true)), []⟩]
@[reducible] def R44_3 : List XO := [⟨(some 5), none, .mv (.c (.int .i64 0)), []⟩]
@[reducible] def R44_4 : List XO := [⟨(some 22), none, .fad 1 (.t 3), []⟩, ⟨(some 23), none, .load 1 false (.t 22), [0]⟩, ⟨(some 24), none, .bin false .eql (.t 23) (.c (.int .i64 5)), [1]⟩, ⟨(some 25), none, .mv (.t 24), [2]⟩, ⟨(some 26), (some (25, true)), .mv (.t 5), [3]⟩, ⟨(some 27), (some (25, true)), .fad 5 (.t 3), [3]⟩, ⟨(some 28), (some (25, true)), .load 1 false (.t 27), [5, 3]⟩, ⟨(some
    29), (some (25, true)), .len false (.t 28), [6, 3]⟩, ⟨(some 30), (some (25, true)), .bin false .lss (.t 26) (.t 29), [4, 7, 3]⟩, ⟨(some 31), none, .pick (.t 25) (.t 30) (.c (.bool false)), [3, 8]⟩]
@[reducible] def R44_5 : List XO := [⟨(some 34), none, .mv (.t 0), []⟩, ⟨(some 35), none, .fad 5 (.t 3), []⟩, ⟨(some 36), none, .load 1 false (.t 35), [1]⟩, ⟨(some 37), none, .mv (.t 5), []⟩, ⟨(some 38), none, .iaS 1 (.t 36) (.t 37), [2, 3]⟩, ⟨(some 39), none, .load 1 false (.t 38), [4]⟩, ⟨(some 40), none, .call 15 [(.t 34), (.t 39)], [0, 5]⟩, ⟨(some 41), none, .un .not (.t 40), [6]⟩]
@[reducible] def R44_6 : List XO := [⟨(some 4), none, .mv (.c (.bool true)), []⟩]
@[reducible] def R44_7 : List XO := [⟨(some 32), none, .mv (.t 5), []⟩, ⟨(some 33), none, .bin false .add (.t 32) (.c (.int .i64 1)), [0]⟩, ⟨(some 5), none, .mv (.t 33), [1, 0, 1]⟩]
@[reducible] def L44_0 : XC := (.seq (.seq (.reg false [] R44_4) (.cond (.t 31) .skip (.exit 0))) (.seq (.blk 1 (.seq (.reg false [] R44_5) (.cond (.t 41) (.seq (.reg false [] R44_6) .ret) .skip))) (.reg false [] R44_7)))
@[reducible] def R44_8 : List XO := [⟨(some 6), none, .mv (.c (.int .i64 0)), []⟩]
@[reducible] def R44_9 : List XO := [⟨(some 42), none, .fad 1 (.t 3), []⟩, ⟨(some 43), none, .load 1 false (.t 42), [0]⟩, ⟨(some 44), none, .bin false .eql (.t 43) (.c (.int .i64 3)), [1]⟩, ⟨(some 45), none, .mv (.t 44), [2]⟩, ⟨(some 46), (some (45, false)), .fad 1 (.t 3), [3]⟩, ⟨(some 47), (some (45, false)), .load 1 false (.t 46), [4, 3]⟩, ⟨(some 48), (some (45, false)), .bin false .eql (.t 47)
    (.c (.int .i64 4)), [5, 3]⟩, ⟨(some 49), none, .pick (.t 45) (.c (.bool true)) (.t 48), [3, 6]⟩, ⟨(some 50), none, .mv (.t 49), [7, 3]⟩, ⟨(some 51), (some (50, true)), .mv (.t 6), [8]⟩, ⟨(some 52), (some (50, true)), .fad 6 (.t 3), [8]⟩, ⟨(some 53), (some (50, true)), .load 1 false (.t 52), [10, 8]⟩, ⟨(some 54), (some (50, true)), .len false (.t 53), [11, 8]⟩, ⟨(some 55), (some (50, true)),
    .bin false .lss (.t 51) (.t 54), [9, 12, 8]⟩, ⟨(some 56), none, .pick (.t 50) (.t 55) (.c (.bool false)), [8, 13]⟩]
@[reducible] def R44_10 : List XO := [⟨(some 59), none, .mv (.t 0), []⟩, ⟨(some 60), none, .fad 6 (.t 3), []⟩, ⟨(some 61), none, .load 1 false (.t 60), [1]⟩, ⟨(some 62), none, .mv (.t 6), []⟩, ⟨(some 63), none, .iaS 1 (.t 61) (.t 62), [2, 3]⟩, ⟨(some 64), none, .load 1 false (.t 63), [4]⟩, ⟨(some 65), none, .call 15 [(.t 59), (.t 64)], [0, 5]⟩, ⟨(some 66), none, .un .not (.t 65), [6]⟩]
@[reducible] def R44_11 : List XO := [⟨(some 4), none, .mv (.c (.bool true)), []⟩]
@[reducible] def R44_12 : List XO := [⟨(some 57), none, .mv (.t 6), []⟩, ⟨(some 58), none, .bin false .add (.t 57) (.c (.int .i64 1)), [0]⟩, ⟨(some 6), none, .mv (.t 58), [1, 0, 1]⟩]
@[reducible] def L44_1 : XC := (.seq (.seq (.reg false [] R44_9) (.cond (.t 56) .skip (.exit 2))) (.seq (.blk 3 (.seq (.reg false [] R44_10) (.cond (.t 66) (.seq (.reg false [] R44_11) .ret) .skip))) (.reg false [] R44_12)))
@[reducible] def R44_13 : List XO := [⟨(some 4), none, .mv (.c (.bool false)), []⟩]
@[reducible] def F44 : XF := ⟨67, (.seq (.reg false [] R44_0) (.seq (.seq (.reg false [] R44_1) (.cond (.t 21) (.seq (.reg false [] R44_2) .ret) .skip)) (.seq (.seq (.reg false [] R44_3) (.blk 0 (.loop L44_0))) (.seq (.seq (.reg false [] R44_8) (.blk 2 (.loop L44_1))) (.seq (.reg false [] R44_13) .ret))))), [(4, none)]⟩
/-- codesearch/codesearchref15.loops -/
@[reducible] def R45_0 : List XO := [⟨(some 3), none, .box 11 (.t 1), []⟩, ⟨(some 4), none, .mv (.c (.bool false)), []⟩]
@[reducible] def R45_1 : List XO := [⟨(some 7), none, .fad 1 (.t 3), []⟩, ⟨(some 8), none, .load 1 false (.t 7), [0]⟩, ⟨(some 9), none, .bin false .neq (.t 8) (.c (.int .i64 3)), [1]⟩, ⟨(some 10), none, .mv (.t 9), [2]⟩, ⟨(some 11), (some (10, true)), .fad 1 (.t 3), [3]⟩, ⟨(some 12), (some (10, true)), .load 1 false (.t 11), [4, 3]⟩, ⟨(some 13), (some (10, true)), .bin false .neq (.t 12) (.c (.int
    .i64 4)), [5, 3]⟩, ⟨(some 14), none, .pick (.t 10) (.t 13) (.c (.bool false)), [3, 6]⟩]
@[reducible] def R45_2 : List XO := [⟨(some 4), none, .mv (.c (.bool false)), []⟩]
@[reducible] def R45_3 : List XO := [⟨(some 15), none, .fad 6 (.t 3), []⟩, ⟨(some 16), none, .load 1 false (.t 15), [0]⟩, ⟨(some 17), none, .fad 2 (.t 3), []⟩, ⟨(some 18), none, .load 1 false (.t 17), [2]⟩, ⟨(some 19), none, .call 39 [(.t 16), (.t 18)], [1, 3]⟩]
@[reducible] def R45_4 : List XO := [⟨(some 4), none, .mv (.c (.bool true)), []⟩]
@[reducible] def R45_5 : List XO := [⟨(some 20), none, .mv (.t 0), []⟩, ⟨(some 21), none, .fad 2 (.t 3), []⟩, ⟨(some 22), none, .load 1 false (.t 21), [1]⟩, ⟨(some 23), none, .call 18 [(.t 20), (.t 22)], [0, 2]⟩, ⟨(some 5), none, .mv (.t 23), [3, 3, 0, 1, 2, 3]⟩]
@[reducible] def R45_6 : List XO := [⟨(some 6), none, .mv (.c (.int .i64 0)), []⟩]
@[reducible] def R45_7 : List XO := [⟨(some 24), none, .mv (.t 6), []⟩, ⟨(some 25), none, .mv (.t 5), []⟩, ⟨(some 26), none, .len false (.t 25), [1]⟩, ⟨(some 27), none, .bin false .lss (.t 24) (.t 26), [0, 2]⟩]
@[reducible] def R45_8 : List XO := [⟨(some 30), none, .mv (.t 0), []⟩, ⟨(some 31), none, .mv (.t 5), []⟩, ⟨(some 32), none, .mv (.t 6), []⟩, ⟨(some 33), none, .iaS 1 (.t 31) (.t 32), [1, 2]⟩, ⟨(some 34), none, .load 1 false (.t 33), [3]⟩, ⟨(some 35), none, .call 18 [(.t 30), (.t 34)], [0, 4]⟩, ⟨(some 36), none, .fad 2 (.t 3), []⟩, ⟨(some 37), none, .load 1 false (.t 36), [6]⟩, ⟨(some 38), none,
    .call 39 [(.t 35), (.t 37)], [5, 7, 5]⟩]
@[reducible] def R45_9 : List XO := [⟨(some 4), none, .mv (.c (.bool true)), []⟩]
@[reducible] def R45_10 : List XO := [⟨(some 28), none, .mv (.t 6), []⟩, ⟨(some 29), none, .bin false .add (.t 28) (.c (.int .i64 1)), [0]⟩, ⟨(some 6), none, .mv (.t 29), [1, 0, 1]⟩]
@[reducible] def L45_0 : XC := (.seq (.seq (.reg false [] R45_7) (.cond (.t 27) .skip (.exit 0))) (.seq (.blk 1 (.seq (.reg true [] R45_8) (.cond (.t 38) (.seq (.reg false [] R45_9) .ret) .skip))) (.reg false [] R45_10)))
@[reducible] def R45_11 : List XO := [⟨(some 4), none, .mv (.c (.bool false)), []⟩]
@[reducible] def F45 : XF := ⟨39, (.seq (.reg false [] R45_0) (.seq (.seq (.reg false [] R45_1) (.cond (.t 14) (.seq (.reg false [] R45_2) .ret) .skip)) (.seq (.seq (.reg false [] R45_3) (.cond (.t 19) (.seq (.reg false [] R45_4) .ret) .skip)) (.seq (.reg false [] R45_5) (.seq (.seq (.reg false [] R45_6) (.blk 0 (.loop L45_0))) (.seq (.reg false [] R45_11) .ret)))))), [(4, none)]⟩
/-- codesearch/codesearchref15.differs -/
@[reducible] def R46_0 : List XO := [⟨(some 3), none, .box 11 (.t 1), []⟩, ⟨(some 4), none, .mv (.c (.bool false)), []⟩]
@[reducible] def R46_1 : List XO := [⟨(some 5), none, .mv (.c (.int .i64 0)), []⟩]
@[reducible] def R46_2 : List XO := [⟨(some 14), none, .fad 1 (.t 3), []⟩, ⟨(some 15), none, .load 1 false (.t 14), [0]⟩, ⟨(some 16), none, .bin false .eql (.t 15) (.c (.int .i64 3)), [1]⟩, ⟨(some 17), none, .mv (.t 16), [2]⟩, ⟨(some 18), (some (17, false)), .fad 1 (.t 3), [3]⟩, ⟨(some 19), (some (17, false)), .load 1 false (.t 18), [4, 3]⟩, ⟨(some 20), (some (17, false)), .bin false .eql (.t 19)
    (.c (.int .i64 4)), [5, 3]⟩, ⟨(some 21), none, .pick (.t 17) (.c (.bool true)) (.t 20), [3, 6]⟩, ⟨(some 22), none, .mv (.t 21), [7, 3]⟩, ⟨(some 23), (some (22, true)), .mv (.t 5), [8]⟩, ⟨(some 24), (some (22, true)), .fad 6 (.t 3), [8]⟩, ⟨(some 25), (some (22, true)), .load 1 false (.t 24), [10, 8]⟩, ⟨(some 26), (some (22, true)), .len false (.t 25), [11, 8]⟩, ⟨(some 27), (some (22, true)),
    .bin false .lss (.t 23) (.t 26), [9, 12, 8]⟩, ⟨(some 28), none, .pick (.t 22) (.t 27) (.c (.bool false)), [8, 13]⟩]
@[reducible] def R46_3 : List XO := [⟨(some 6), none, .mv (.c (.int .i64 4)), []⟩]
@[reducible] def R46_4 : List XO := [⟨(some 31), none, .fad 1 (.t 3), []⟩, ⟨(some 32), none, .load 1 false (.t 31), [0]⟩, ⟨(some 33), none, .bin false .eql (.t 32) (.c (.int .i64 3)), [1]⟩, ⟨(some 34), none, .mv (.t 33), [2]⟩, ⟨(some 35), (some (34, true)), .fad 7 (.t 3), [3]⟩, ⟨(some 36), (some (34, true)), .load 1 false (.t 35), [4, 3]⟩, ⟨(some 37), none, .pick (.t 34) (.t 36) (.c (.bool false)),
    [3, 5]⟩, ⟨(some 38), none, .mv (.t 37), [6, 3]⟩, ⟨(some 39), (some (38, true)), .mv (.t 5), [7]⟩, ⟨(some 40), (some (38, true)), .bin false .eql (.t 39) (.c (.int .i64 0)), [8, 7]⟩, ⟨(some 41), none, .pick (.t 38) (.t 40) (.c (.bool false)), [7, 9]⟩]
@[reducible] def R46_5 : List XO := [⟨(some 6), none, .mv (.c (.int .i64 3)), []⟩]
@[reducible] def R46_6 : List XO := [⟨(some 43), none, .mv (.t 0), []⟩, ⟨(some 44), none, .fad 6 (.t 3), []⟩, ⟨(some 45), none, .load 1 false (.t 44), [1]⟩, ⟨(some 46), none, .mv (.t 5), []⟩, ⟨(some 47), none, .iaS 1 (.t 45) (.t 46), [2, 3]⟩, ⟨(some 48), none, .load 1 false (.t 47), [4]⟩, ⟨(some 49), none, .call 36 [(.t 43), (.t 48)], [0, 5]⟩, ⟨(some 42), none, .mv (.t 49), [6]⟩, ⟨(some 50), none,
    .ext (.t 42) 0, [7]⟩, ⟨(some 51), none, .ext (.t 42) 1, [7]⟩, ⟨(some 7), none, .alloc [(.int .i64 0), (.int .i64 0), (.str (ByteArray.mk #[])), (.int .i64 0), (.str (ByteArray.mk #[])), .nls, .nls, (.bool false), (.int .i64 0), (.int .i64 0), (.int .i64 0)], []⟩, ⟨none, none, .store 11 (.t 7) (.t 50), [10, 8, 6, 0, 1, 2, 3, 4, 5, 6, 7, 8, 10]⟩, ⟨(some 8), none, .mv (.t 51), [9, 11, 0, 1, 2, 3,
    4, 5, 6, 7, 8, 9, 10, 11]⟩]
@[reducible] def R46_7 : List XO := [⟨(some 52), none, .fad 1 (.t 7), []⟩, ⟨(some 53), none, .load 1 false (.t 52), [0]⟩, ⟨(some 54), none, .mv (.t 6), []⟩, ⟨(some 55), none, .bin false .neq (.t 53) (.t 54), [1, 2]⟩]
@[reducible] def R46_8 : List XO := [⟨(some 4), none, .mv (.c (.bool true)), []⟩]
@[reducible] def R46_9 : List XO := [⟨(some 29), none, .mv (.t 5), []⟩, ⟨(some 30), none, .bin false .add (.t 29) (.c (.int .i64 1)), [0]⟩, ⟨(some 5), none, .mv (.t 30), [1, 0, 1]⟩]
@[reducible] def L46_0 : XC := (.seq (.seq (.reg false [] R46_2) (.cond (.t 28) .skip (.exit 0))) (.seq (.blk 1 (.seq (.reg false [] R46_3) (.seq (.seq (.reg false [] R46_4) (.cond (.t 41) (.reg false [] R46_5) .skip)) (.seq (.reg false [] R46_6) (.seq (.reg false [] R46_7) (.cond (.t 55) (.seq (.reg false [] R46_8) .ret) .skip)))))) (.reg false [] R46_9)))
@[reducible] def R46_10 : List XO := [⟨(some 56), none, .fad 1 (.t 3), []⟩, ⟨(some 57), none, .load 1 false (.t 56), [0]⟩, ⟨(some 58), none, .bin false .eql (.t 57) (.c (.int .i64 6)), [1]⟩, ⟨(some 59), none, .mv (.t 58), [2]⟩, ⟨(some 60), (some (59, true)), .fad 4 (.t 3), [3]⟩, ⟨(some 61), (some (59, true)), .load 1 false (.t 60), [4, 3]⟩, ⟨(some 62), (some (59, true)), .bin false .eql (.t 61) (.c
    (.str (ByteArray.mk #[118, 111, 105, 100]))), [5, 3]⟩, ⟨(some 63), none, .pick (.t 59) (.t 62) (.c (.bool false)), [3, 6]⟩, ⟨(some 64), none, .mv (.t 63), [7, 3]⟩, ⟨(some 65), (some (64, false)), .fad 1 (.t 3), [8]⟩, ⟨(some 66), (some (64, false)), .load 1 false (.t 65), [9, 8]⟩, ⟨(some 67), (some (64, false)), .bin false .eql (.t 66) (.c (.int .i64 5)), [10, 8]⟩, ⟨(some 68), (some (64,
    false)), .mv (.t 67), [11, 8, 8]⟩, ⟨(some 69), (some (68, true)), .fad 5 (.t 3), [12]⟩, ⟨(some 70), (some (68, true)), .load 1 false (.t 69), [13, 12]⟩, ⟨(some 71), (some (68, true)), .call 39 [(.t 70), (.c (.str (ByteArray.mk #[118, 111, 105, 100])))], [14, 12, 12]⟩, ⟨(some 72), (some (64, false)), .pick (.t 68) (.t 71) (.c (.bool false)), [12, 15, 8]⟩, ⟨(some 73), none, .pick (.t 64) (.c
    (.bool true)) (.t 72), [8, 16]⟩]
@[reducible] def R46_11 : List XO := [⟨(some 4), none, .mv (.c (.bool true)), []⟩]
@[reducible] def R46_12 : List XO := [⟨(some 75), none, .mv (.t 0), []⟩, ⟨(some 76), none, .load 11 true (.t 3), []⟩, ⟨(some 77), none, .call 55 [(.t 75), (.t 76)], [0, 1]⟩, ⟨(some 74), none, .mv (.t 77), [2]⟩, ⟨(some 78), none, .ext (.t 74) 0, [3]⟩, ⟨(some 79), none, .ext (.t 74) 1, [3]⟩, ⟨(some 9), none, .alloc [(.int .i64 0), (.int .i64 0), (.str (ByteArray.mk #[])), (.int .i64 0), (.str
    (ByteArray.mk #[])), .nls, .nls, (.bool false), (.int .i64 0), (.int .i64 0), (.int .i64 0)], []⟩, ⟨none, none, .store 11 (.t 9) (.t 78), [6, 4, 2, 0, 1, 2, 3, 4, 6]⟩, ⟨(some 10), none, .mv (.t 79), [5, 7, 0, 1, 2, 3, 4, 5, 6, 7]⟩]
@[reducible] def R46_13 : List XO := [⟨(some 11), none, .mv (.c (.int .i64 0)), []⟩]
@[reducible] def R46_14 : List XO := [⟨(some 80), none, .mv (.t 10), []⟩, ⟨(some 81), none, .mv (.t 80), [0]⟩, ⟨(some 82), (some (81, true)), .mv (.t 11), [1]⟩, ⟨(some 83), (some (81, true)), .fad 6 (.t 9), [1]⟩, ⟨(some 84), (some (81, true)), .load 1 false (.t 83), [3, 1]⟩, ⟨(some 85), (some (81, true)), .len false (.t 84), [4, 1]⟩, ⟨(some 86), (some (81, true)), .bin false .lss (.t 82) (.t 85),
    [2, 5, 1]⟩, ⟨(some 87), none, .pick (.t 81) (.t 86) (.c (.bool false)), [1, 6]⟩]
@[reducible] def R46_15 : List XO := [⟨(some 91), none, .mv (.t 0), []⟩, ⟨(some 92), none, .fad 6 (.t 9), []⟩, ⟨(some 93), none, .load 1 false (.t 92), [1]⟩, ⟨(some 94), none, .mv (.t 11), []⟩, ⟨(some 95), none, .iaS 1 (.t 93) (.t 94), [2, 3]⟩, ⟨(some 96), none, .load 1 false (.t 95), [4]⟩, ⟨(some 97), none, .fad 2 (.t 3), []⟩, ⟨(some 98), none, .load 1 false (.t 97), [6]⟩, ⟨(some 99), none, .call
    27 [(.t 98)], [7]⟩, ⟨(some 100), none, .call 30 [(.t 91), (.t 96), (.t 99)], [0, 5, 8, 8]⟩, ⟨(some 90), none, .mv (.t 100), [9]⟩, ⟨(some 101), none, .ext (.t 90) 0, [10]⟩, ⟨(some 102), none, .ext (.t 90) 1, [10]⟩, ⟨(some 12), none, .alloc [(.int .i64 0), (.int .i64 0), (.str (ByteArray.mk #[])), (.int .i64 0), (.str (ByteArray.mk #[])), .nls, .nls, (.bool false), (.int .i64 0), (.int .i64 0),
    (.int .i64 0)], []⟩, ⟨none, none, .store 11 (.t 12) (.t 101), [13, 11, 9, 0, 1, 2, 3, 4, 5, 6, 7, 8, 9, 10, 11, 13]⟩, ⟨(some 13), none, .mv (.t 102), [12, 14, 0, 1, 2, 3, 4, 5, 6, 7, 8, 9, 10, 11, 12, 13, 14]⟩]
@[reducible] def R46_16 : List XO := [⟨(some 103), none, .mv (.t 13), []⟩, ⟨(some 104), none, .mv (.t 103), [0]⟩, ⟨(some 105), (some (104, true)), .fad 1 (.t 12), [1]⟩, ⟨(some 106), (some (104, true)), .load 1 false (.t 105), [2, 1]⟩, ⟨(some 107), (some (104, true)), .bin false .neq (.t 106) (.c (.int .i64 5)), [3, 1]⟩, ⟨(some 108), (some (104, true)), .mv (.t 107), [4, 1, 1]⟩, ⟨(some 109), (some
    (108, false)), .fad 4 (.t 12), [5]⟩, ⟨(some 110), (some (108, false)), .load 1 false (.t 109), [6, 5]⟩, ⟨(some 111), (some (108, false)), .fad 4 (.t 3), [5]⟩, ⟨(some 112), (some (108, false)), .load 1 false (.t 111), [8, 5]⟩, ⟨(some 113), (some (108, false)), .bin false .neq (.t 110) (.t 112), [7, 9, 5]⟩, ⟨(some 114), (some (104, true)), .pick (.t 108) (.c (.bool true)) (.t 113), [5, 10, 1]⟩,
    ⟨(some 115), (some (104, true)), .mv (.t 114), [11, 5, 1]⟩, ⟨(some 116), (some (115, false)), .fad 5 (.t 12), [12]⟩, ⟨(some 117), (some (115, false)), .load 1 false (.t 116), [13, 12]⟩, ⟨(some 118), (some (115, false)), .fad 5 (.t 3), [12]⟩, ⟨(some 119), (some (115, false)), .load 1 false (.t 118), [15, 12]⟩, ⟨(some 120), (some (115, false)), .call 37 [(.t 117), (.t 119)], [14, 16, 12, 12]⟩,
    ⟨(some 121), (some (115, false)), .un .not (.t 120), [17, 12]⟩, ⟨(some 122), (some (104, true)), .pick (.t 115) (.c (.bool true)) (.t 121), [12, 18, 1]⟩, ⟨(some 123), none, .pick (.t 104) (.t 122) (.c (.bool false)), [1, 19]⟩]
@[reducible] def R46_17 : List XO := [⟨(some 4), none, .mv (.c (.bool true)), []⟩]
@[reducible] def R46_18 : List XO := [⟨(some 88), none, .mv (.t 11), []⟩, ⟨(some 89), none, .bin false .add (.t 88) (.c (.int .i64 1)), [0]⟩, ⟨(some 11), none, .mv (.t 89), [1, 0, 1]⟩]
@[reducible] def L46_1 : XC := (.seq (.seq (.reg false [] R46_14) (.cond (.t 87) .skip (.exit 2))) (.seq (.blk 3 (.seq (.reg true [] R46_15) (.seq (.reg false [] R46_16) (.cond (.t 123) (.seq (.reg false [] R46_17) .ret) .skip)))) (.reg false [] R46_18)))
@[reducible] def R46_19 : List XO := [⟨(some 4), none, .mv (.c (.bool false)), []⟩]
@[reducible] def F46 : XF := ⟨124, (.seq (.reg false [] R46_0) (.seq (.seq (.reg false [] R46_1) (.blk 0 (.loop L46_0))) (.seq (.seq (.reg false [] R46_10) (.cond (.t 73) (.seq (.reg false [] R46_11) .ret) .skip)) (.seq (.reg false [] R46_12) (.seq (.seq (.reg false [] R46_13) (.blk 2 (.loop L46_1))) (.seq (.reg false [] R46_19) .ret)))))), [(4, none)]⟩
/-- codesearch/types.own -/
@[reducible] def R47_0 : List XO := [⟨(some 6), none, .alloc [(.int .i64 0), (.int .i64 0), (.str (ByteArray.mk #[])), (.int .i64 0), (.str (ByteArray.mk #[])), .nls, .nls, (.bool false), (.int .i64 0), (.int .i64 0), (.int .i64 0)], []⟩, ⟨(some 7), none, .mv (.c (.bool false)), []⟩]
@[reducible] def R47_1 : List XO := [⟨(some 13), none, .mv (.t 0), []⟩, ⟨(some 14), none, .mv (.t 1), []⟩, ⟨(some 15), none, .call 35 [(.t 13), (.t 14)], [0, 1]⟩, ⟨(some 12), none, .mv (.t 15), [2]⟩, ⟨(some 16), none, .ext (.t 12) 0, [3]⟩, ⟨(some 17), none, .ext (.t 12) 1, [3]⟩, ⟨(some 8), none, .alloc [(.int .i64 0), (.int .i64 0), (.str (ByteArray.mk #[])), (.int .i64 0), (.str (ByteArray.mk
    #[])), .nls, .nls, (.bool false), (.int .i64 0), (.int .i64 0), (.int .i64 0)], []⟩, ⟨none, none, .store 11 (.t 8) (.t 16), [6, 4, 2, 0, 1, 2, 3, 4, 6]⟩, ⟨(some 9), none, .mv (.t 17), [5, 7, 0, 1, 2, 3, 4, 5, 6, 7]⟩]
@[reducible] def R47_2 : List XO := [⟨(some 18), none, .mv (.t 9), []⟩, ⟨(some 19), none, .un .not (.t 18), [0]⟩]
@[reducible] def R47_3 : List XO := [⟨(some 20), none, .build [(.int .i64 0), (.int .i64 0), (.str (ByteArray.mk #[])), (.int .i64 0), (.str (ByteArray.mk #[])), .nls, .nls, (.bool false), (.int .i64 0), (.int .i64 0), (.int .i64 0)] [], []⟩, ⟨none, none, .store 11 (.t 6) (.t 20), [0, 0]⟩, ⟨(some 7), none, .mv (.c (.bool false)), [1, 0, 1]⟩]
@[reducible] def R47_4 : List XO := [⟨(some 21), none, .mv (.t 0), []⟩, ⟨(some 22), none, .len false (.t 21), [0]⟩, ⟨(some 23), none, .mv (.c (.int .i64 0)), []⟩]
@[reducible] def R47_5 : List XO := [⟨(some 24), none, .bin false .lss (.t 23) (.t 22), []⟩]
@[reducible] def R47_6 : List XO := [⟨(some 25), none, .iaS 11 (.t 21) (.t 23), []⟩, ⟨(some 26), none, .load 11 true (.t 25), [0]⟩, ⟨(some 11), none, .alloc [(.int .i64 0), (.int .i64 0), (.str (ByteArray.mk #[])), (.int .i64 0), (.str (ByteArray.mk #[])), .nls, .nls, (.bool false), (.int .i64 0), (.int .i64 0), (.int .i64 0)], []⟩, ⟨none, none, .store 11 (.t 11) (.t 26), [2, 1, 0, 1, 2]⟩]
@[reducible] def R47_7 : List XO := [⟨(some 27), none, .fad 3 (.t 11), []⟩, ⟨(some 28), none, .load 1 false (.t 27), [0]⟩, ⟨(some 29), none, .fad 0 (.t 8), []⟩, ⟨(some 30), none, .load 1 false (.t 29), [2]⟩, ⟨(some 31), none, .bin false .eql (.t 28) (.t 30), [1, 3]⟩, ⟨(some 32), none, .mv (.t 31), [4]⟩, ⟨(some 33), (some (32, true)), .fad 1 (.t 11), [5]⟩, ⟨(some 34), (some (32, true)), .load 1
    false (.t 33), [6, 5]⟩, ⟨(some 35), (some (32, true)), .bin false .eql (.t 34) (.c (.int .i64 5)), [7, 5]⟩, ⟨(some 36), (some (32, true)), .mv (.t 35), [8, 5, 5]⟩, ⟨(some 37), (some (36, false)), .fad 1 (.t 11), [9]⟩, ⟨(some 38), (some (36, false)), .load 1 false (.t 37), [10, 9]⟩, ⟨(some 39), (some (36, false)), .bin false .eql (.t 38) (.c (.int .i64 6)), [11, 9]⟩, ⟨(some 40), (some (32,
    true)), .pick (.t 36) (.c (.bool true)) (.t 39), [9, 12, 5]⟩, ⟨(some 41), none, .pick (.t 32) (.t 40) (.c (.bool false)), [5, 13]⟩, ⟨(some 42), none, .mv (.t 41), [14, 9]⟩, ⟨(some 43), (some (42, true)), .fad 2 (.t 11), [15]⟩, ⟨(some 44), (some (42, true)), .load 1 false (.t 43), [16, 15]⟩, ⟨(some 45), (some (42, true)), .call 52 [(.t 44)], [17, 15, 15]⟩, ⟨(some 46), (some (42, true)), .mv (.t
    2), [15]⟩, ⟨(some 47), (some (42, true)), .bin false .eql (.t 45) (.t 46), [18, 19, 15]⟩, ⟨(some 48), none, .pick (.t 42) (.t 47) (.c (.bool false)), [15, 20]⟩]
@[reducible] def R47_8 : List XO := [⟨(some 49), none, .load 11 true (.t 11), []⟩, ⟨none, none, .store 11 (.t 6) (.t 49), [0, 0]⟩, ⟨(some 7), none, .mv (.c (.bool true)), [1, 0, 1]⟩]
@[reducible] def R47_9 : List XO := [⟨(some 50), none, .bin false .add (.t 23) (.c (.int .i64 1)), []⟩, ⟨(some 23), none, .mv (.t 50), [0]⟩]
@[reducible] def L47_0 : XC := (.seq (.reg false [] R47_5) (.seq (.cond (.t 24) .skip (.exit 0)) (.seq (.blk 1 (.seq (.reg false [] R47_6) (.seq (.reg false [] R47_7) (.cond (.t 48) (.seq (.reg false [] R47_8) .ret) .skip)))) (.reg false [] R47_9))))
@[reducible] def R47_10 : List XO := [⟨(some 51), none, .build [(.int .i64 0), (.int .i64 0), (.str (ByteArray.mk #[])), (.int .i64 0), (.str (ByteArray.mk #[])), .nls, .nls, (.bool false), (.int .i64 0), (.int .i64 0), (.int .i64 0)] [], []⟩, ⟨none, none, .store 11 (.t 6) (.t 51), [0, 0]⟩, ⟨(some 7), none, .mv (.c (.bool false)), [1, 0, 1]⟩]
@[reducible] def F47 : XF := ⟨52, (.seq (.reg false [] R47_0) (.seq (.reg false [] R47_1) (.seq (.seq (.reg false [] R47_2) (.cond (.t 19) (.seq (.reg false [] R47_3) .ret) .skip)) (.seq (.seq (.reg false [] R47_4) (.blk 0 (.loop L47_0))) (.seq (.reg false [] R47_10) .ret))))), [(6, some (11, true)), (7, none)]⟩
/-- codesearch/codesearchref14.lastDot -/
@[reducible] def R48_0 : List XO := [⟨(some 2), none, .mv (.c (.int .i64 0)), []⟩]
@[reducible] def R48_1 : List XO := [⟨(some 3), none, .mv (.c (.int .i64 (-1))), []⟩]
@[reducible] def R48_2 : List XO := [⟨(some 4), none, .mv (.c (.int .i64 0)), []⟩]
@[reducible] def R48_3 : List XO := [⟨(some 5), none, .mv (.t 4), []⟩, ⟨(some 6), none, .mv (.t 0), []⟩, ⟨(some 7), none, .len true (.t 6), [1]⟩, ⟨(some 8), none, .bin false .lss (.t 5) (.t 7), [0, 2]⟩]
@[reducible] def R48_4 : List XO := [⟨(some 11), none, .mv (.t 0), []⟩, ⟨(some 12), none, .mv (.t 4), []⟩, ⟨(some 13), none, .ixS (.t 11) (.t 12), [0, 1]⟩, ⟨(some 14), none, .bin false .eql (.t 13) (.c (.int .u8 46)), [2]⟩]
@[reducible] def R48_5 : List XO := [⟨(some 15), none, .mv (.t 4), []⟩, ⟨(some 3), none, .mv (.t 15), [0, 0]⟩]
@[reducible] def R48_6 : List XO := [⟨(some 9), none, .mv (.t 4), []⟩, ⟨(some 10), none, .bin false .add (.t 9) (.c (.int .i64 1)), [0]⟩, ⟨(some 4), none, .mv (.t 10), [1, 0, 1]⟩]
@[reducible] def L48_0 : XC := (.seq (.seq (.reg false [] R48_3) (.cond (.t 8) .skip (.exit 0))) (.seq (.blk 1 (.seq (.reg false [] R48_4) (.cond (.t 14) (.reg false [] R48_5) .skip))) (.reg false [] R48_6)))
@[reducible] def R48_7 : List XO := [⟨(some 16), none, .mv (.t 3), []⟩, ⟨(some 2), none, .mv (.t 16), [0, 0]⟩]
@[reducible] def F48 : XF := ⟨17, (.seq (.reg false [] R48_0) (.seq (.reg false [] R48_1) (.seq (.seq (.reg false [] R48_2) (.blk 0 (.loop L48_0))) (.seq (.reg false [] R48_7) .ret)))), [(2, none)]⟩
/-- codesearch/codesearchref15.own -/
@[reducible] def R49_0 : List XO := [⟨(some 6), none, .alloc [(.int .i64 0), (.int .i64 0), (.str (ByteArray.mk #[])), (.int .i64 0), (.str (ByteArray.mk #[])), .nls, .nls, (.bool false), (.int .i64 0), (.int .i64 0), (.int .i64 0)], []⟩, ⟨(some 7), none, .mv (.c (.bool false)), []⟩]
@[reducible] def R49_1 : List XO := [⟨(some 13), none, .mv (.t 0), []⟩, ⟨(some 14), none, .mv (.t 1), []⟩, ⟨(some 15), none, .call 36 [(.t 13), (.t 14)], [0, 1]⟩, ⟨(some 12), none, .mv (.t 15), [2]⟩, ⟨(some 16), none, .ext (.t 12) 0, [3]⟩, ⟨(some 17), none, .ext (.t 12) 1, [3]⟩, ⟨(some 8), none, .alloc [(.int .i64 0), (.int .i64 0), (.str (ByteArray.mk #[])), (.int .i64 0), (.str (ByteArray.mk
    #[])), .nls, .nls, (.bool false), (.int .i64 0), (.int .i64 0), (.int .i64 0)], []⟩, ⟨none, none, .store 11 (.t 8) (.t 16), [6, 4, 2, 0, 1, 2, 3, 4, 6]⟩, ⟨(some 9), none, .mv (.t 17), [5, 7, 0, 1, 2, 3, 4, 5, 6, 7]⟩]
@[reducible] def R49_2 : List XO := [⟨(some 10), none, .mv (.c (.int .i64 0)), []⟩]
@[reducible] def R49_3 : List XO := [⟨(some 18), none, .mv (.t 9), []⟩, ⟨(some 19), none, .mv (.t 18), [0]⟩, ⟨(some 20), (some (19, true)), .mv (.t 10), [1]⟩, ⟨(some 21), (some (19, true)), .mv (.t 0), [1]⟩, ⟨(some 22), (some (19, true)), .len false (.t 21), [3, 1]⟩, ⟨(some 23), (some (19, true)), .bin false .lss (.t 20) (.t 22), [2, 4, 1]⟩, ⟨(some 24), none, .pick (.t 19) (.t 23) (.c (.bool
    false)), [1, 5]⟩]
@[reducible] def R49_4 : List XO := [⟨(some 27), none, .mv (.t 0), []⟩, ⟨(some 28), none, .mv (.t 10), []⟩, ⟨(some 29), none, .iaS 11 (.t 27) (.t 28), [0, 1]⟩, ⟨(some 30), none, .load 11 true (.t 29), [2]⟩, ⟨(some 11), none, .alloc [(.int .i64 0), (.int .i64 0), (.str (ByteArray.mk #[])), (.int .i64 0), (.str (ByteArray.mk #[])), .nls, .nls, (.bool false), (.int .i64 0), (.int .i64 0), (.int .i64
    0)], []⟩, ⟨none, none, .store 11 (.t 11) (.t 30), [4, 3, 0, 1, 2, 3, 4]⟩]
@[reducible] def R49_5 : List XO := [⟨(some 31), none, .fad 3 (.t 11), []⟩, ⟨(some 32), none, .load 1 false (.t 31), [0]⟩, ⟨(some 33), none, .fad 0 (.t 8), []⟩, ⟨(some 34), none, .load 1 false (.t 33), [2]⟩, ⟨(some 35), none, .bin false .eql (.t 32) (.t 34), [1, 3]⟩, ⟨(some 36), none, .mv (.t 35), [4]⟩, ⟨(some 37), (some (36, true)), .fad 1 (.t 11), [5]⟩, ⟨(some 38), (some (36, true)), .load 1
    false (.t 37), [6, 5]⟩, ⟨(some 39), (some (36, true)), .bin false .eql (.t 38) (.c (.int .i64 5)), [7, 5]⟩, ⟨(some 40), (some (36, true)), .mv (.t 39), [8, 5, 5]⟩, ⟨(some 41), (some (40, false)), .fad 1 (.t 11), [9]⟩, ⟨(some 42), (some (40, false)), .load 1 false (.t 41), [10, 9]⟩, ⟨(some 43), (some (40, false)), .bin false .eql (.t 42) (.c (.int .i64 6)), [11, 9]⟩, ⟨(some 44), (some (36,
    true)), .pick (.t 40) (.c (.bool true)) (.t 43), [9, 12, 5]⟩, ⟨(some 45), none, .pick (.t 36) (.t 44) (.c (.bool false)), [5, 13]⟩, ⟨(some 46), none, .mv (.t 45), [14, 9]⟩, ⟨(some 47), (some (46, true)), .fad 2 (.t 11), [15]⟩, ⟨(some 48), (some (46, true)), .load 1 false (.t 47), [16, 15]⟩, ⟨(some 49), (some (46, true)), .call 27 [(.t 48)], [17, 15, 15]⟩, ⟨(some 50), (some (46, true)), .mv (.t
    2), [15]⟩, ⟨(some 51), (some (46, true)), .bin false .eql (.t 49) (.t 50), [18, 19, 15]⟩, ⟨(some 52), none, .pick (.t 46) (.t 51) (.c (.bool false)), [15, 20]⟩]
@[reducible] def R49_6 : List XO := [⟨(some 53), none, .load 11 true (.t 11), []⟩, ⟨none, none, .store 11 (.t 6) (.t 53), [0, 0]⟩, ⟨(some 7), none, .mv (.c (.bool true)), [1, 0, 1]⟩]
@[reducible] def R49_7 : List XO := [⟨(some 25), none, .mv (.t 10), []⟩, ⟨(some 26), none, .bin false .add (.t 25) (.c (.int .i64 1)), [0]⟩, ⟨(some 10), none, .mv (.t 26), [1, 0, 1]⟩]
@[reducible] def L49_0 : XC := (.seq (.seq (.reg false [] R49_3) (.cond (.t 24) .skip (.exit 0))) (.seq (.blk 1 (.seq (.reg false [] R49_4) (.seq (.reg false [] R49_5) (.cond (.t 52) (.seq (.reg false [] R49_6) .ret) .skip)))) (.reg false [] R49_7)))
@[reducible] def R49_8 : List XO := [⟨(some 54), none, .build [(.int .i64 0), (.int .i64 0), (.str (ByteArray.mk #[])), (.int .i64 0), (.str (ByteArray.mk #[])), .nls, .nls, (.bool false), (.int .i64 0), (.int .i64 0), (.int .i64 0)] [], []⟩, ⟨none, none, .store 11 (.t 6) (.t 54), [0, 0]⟩, ⟨(some 7), none, .mv (.c (.bool false)), [1, 0, 1]⟩]
@[reducible] def F49 : XF := ⟨55, (.seq (.reg false [] R49_0) (.seq (.reg false [] R49_1) (.seq (.seq (.reg false [] R49_2) (.blk 0 (.loop L49_0))) (.seq (.reg false [] R49_8) .ret)))), [(6, some (11, true)), (7, none)]⟩
/-- codesearch/decl.Get -/
@[reducible] def R50_0 : List XO := [⟨(some 4), none, .alloc [(.int .i64 0), (.int .i64 0), (.str (ByteArray.mk #[])), (.int .i64 0), (.str (ByteArray.mk #[])), .nls, .nls, (.bool false), (.int .i64 0), (.int .i64 0), (.int .i64 0)], []⟩, ⟨(some 5), none, .mv (.c (.bool false)), []⟩]
@[reducible] def R50_1 : List XO := [⟨(some 8), none, .mv (.t 0), []⟩, ⟨(some 9), none, .len false (.t 8), [0]⟩, ⟨(some 10), none, .mv (.c (.int .i64 0)), []⟩]
@[reducible] def R50_2 : List XO := [⟨(some 11), none, .bin false .lss (.t 10) (.t 9), []⟩]
@[reducible] def R50_3 : List XO := [⟨(some 12), none, .iaS 11 (.t 8) (.t 10), []⟩, ⟨(some 13), none, .load 11 true (.t 12), [0]⟩, ⟨(some 7), none, .alloc [(.int .i64 0), (.int .i64 0), (.str (ByteArray.mk #[])), (.int .i64 0), (.str (ByteArray.mk #[])), .nls, .nls, (.bool false), (.int .i64 0), (.int .i64 0), (.int .i64 0)], []⟩, ⟨none, none, .store 11 (.t 7) (.t 13), [2, 1, 0, 1, 2]⟩]
@[reducible] def R50_4 : List XO := [⟨(some 14), none, .fad 0 (.t 7), []⟩, ⟨(some 15), none, .load 1 false (.t 14), [0]⟩, ⟨(some 16), none, .mv (.t 1), []⟩, ⟨(some 17), none, .bin false .eql (.t 15) (.t 16), [1, 2]⟩]
@[reducible] def R50_5 : List XO := [⟨(some 18), none, .load 11 true (.t 7), []⟩, ⟨none, none, .store 11 (.t 4) (.t 18), [0, 0]⟩, ⟨(some 5), none, .mv (.c (.bool true)), [1, 0, 1]⟩]
@[reducible] def R50_6 : List XO := [⟨(some 19), none, .bin false .add (.t 10) (.c (.int .i64 1)), []⟩, ⟨(some 10), none, .mv (.t 19), [0]⟩]
@[reducible] def L50_0 : XC := (.seq (.reg false [] R50_2) (.seq (.cond (.t 11) .skip (.exit 0)) (.seq (.blk 1 (.seq (.reg false [] R50_3) (.seq (.reg false [] R50_4) (.cond (.t 17) (.seq (.reg false [] R50_5) .ret) .skip)))) (.reg false [] R50_6))))
@[reducible] def R50_7 : List XO := [⟨(some 20), none, .build [(.int .i64 0), (.int .i64 0), (.str (ByteArray.mk #[])), (.int .i64 0), (.str (ByteArray.mk #[])), .nls, .nls, (.bool false), (.int .i64 0), (.int .i64 0), (.int .i64 0)] [], []⟩, ⟨none, none, .store 11 (.t 4) (.t 20), [0, 0]⟩, ⟨(some 5), none, .mv (.c (.bool false)), [1, 0, 1]⟩]
@[reducible] def F50 : XF := ⟨21, (.seq (.reg false [] R50_0) (.seq (.seq (.reg false [] R50_1) (.blk 0 (.loop L50_0))) (.seq (.reg false [] R50_7) .ret))), [(4, some (11, true)), (5, none)]⟩
/-- codesearch/types.owner -/
@[reducible] def R51_0 : List XO := [⟨(some 3), none, .box 11 (.t 1), []⟩, ⟨(some 4), none, .alloc [(.int .i64 0), (.int .i64 0), (.str (ByteArray.mk #[])), (.int .i64 0), (.str (ByteArray.mk #[])), .nls, .nls, (.bool false), (.int .i64 0), (.int .i64 0), (.int .i64 0)], []⟩, ⟨(some 5), none, .mv (.c (.bool false)), []⟩]
@[reducible] def R51_1 : List XO := [⟨(some 9), none, .mv (.t 0), []⟩, ⟨(some 10), none, .fad 3 (.t 3), []⟩, ⟨(some 11), none, .load 1 false (.t 10), [1]⟩, ⟨(some 12), none, .call 50 [(.t 9), (.t 11)], [0, 2]⟩, ⟨(some 8), none, .mv (.t 12), [3]⟩, ⟨(some 13), none, .ext (.t 8) 0, [4]⟩, ⟨(some 14), none, .ext (.t 8) 1, [4]⟩, ⟨(some 6), none, .alloc [(.int .i64 0), (.int .i64 0), (.str (ByteArray.mk
    #[])), (.int .i64 0), (.str (ByteArray.mk #[])), .nls, .nls, (.bool false), (.int .i64 0), (.int .i64 0), (.int .i64 0)], []⟩, ⟨none, none, .store 11 (.t 6) (.t 13), [7, 5, 3, 0, 1, 2, 3, 4, 5, 7]⟩, ⟨(some 7), none, .mv (.t 14), [6, 8, 0, 1, 2, 3, 4, 5, 6, 7, 8]⟩]
@[reducible] def R51_2 : List XO := [⟨(some 15), none, .mv (.t 7), []⟩, ⟨(some 16), none, .un .not (.t 15), [0]⟩, ⟨(some 17), none, .mv (.t 16), [1]⟩, ⟨(some 18), (some (17, false)), .fad 1 (.t 3), [2]⟩, ⟨(some 19), (some (17, false)), .load 1 false (.t 18), [3, 2]⟩, ⟨(some 20), (some (17, false)), .bin false .neq (.t 19) (.c (.int .i64 5)), [4, 2]⟩, ⟨(some 21), none, .pick (.t 17) (.c (.bool
    true)) (.t 20), [2, 5]⟩, ⟨(some 22), none, .mv (.t 21), [6, 2]⟩, ⟨(some 23), (some (22, false)), .load 11 true (.t 6), [7]⟩, ⟨(some 24), (some (22, false)), .call 57 [(.t 23)], [8, 7, 7]⟩, ⟨(some 25), (some (22, false)), .un .not (.t 24), [9, 7]⟩, ⟨(some 26), none, .pick (.t 22) (.c (.bool true)) (.t 25), [7, 10]⟩]
@[reducible] def R51_3 : List XO := [⟨(some 27), none, .build [(.int .i64 0), (.int .i64 0), (.str (ByteArray.mk #[])), (.int .i64 0), (.str (ByteArray.mk #[])), .nls, .nls, (.bool false), (.int .i64 0), (.int .i64 0), (.int .i64 0)] [], []⟩, ⟨none, none, .store 11 (.t 4) (.t 27), [0, 0]⟩, ⟨(some 5), none, .mv (.c (.bool false)), [1, 0, 1]⟩]
@[reducible] def R51_4 : List XO := [⟨(some 28), none, .load 11 true (.t 6), []⟩, ⟨none, none, .store 11 (.t 4) (.t 28), [0, 0]⟩, ⟨(some 5), none, .mv (.c (.bool true)), [1, 0, 1]⟩]
@[reducible] def F51 : XF := ⟨29, (.seq (.reg false [] R51_0) (.seq (.reg false [] R51_1) (.seq (.seq (.reg false [] R51_2) (.cond (.t 26) (.seq (.reg false [] R51_3) .ret) .skip)) (.seq (.reg false [] R51_4) .ret)))), [(4, some (11, true)), (5, none)]⟩
/-- codesearch/decl.Simple -/
@[reducible] def R52_0 : List XO := [⟨(some 2), none, .mv (.c (.str (ByteArray.mk #[]))), []⟩]
@[reducible] def R52_1 : List XO := [⟨(some 3), none, .mv (.t 0), []⟩, ⟨(some 4), none, .mv (.t 0), []⟩, ⟨(some 5), none, .call 64 [(.t 4), (.c (.int .u8 46))], [1]⟩, ⟨(some 6), none, .bin false .add (.t 5) (.c (.int .i64 1)), [2]⟩, ⟨(some 7), none, .slS (.t 3) (some (.t 6)) none, [0, 3]⟩, ⟨(some 2), none, .mv (.t 7), [4, 2, 0, 1, 2, 3, 4]⟩]
@[reducible] def F52 : XF := ⟨8, (.seq (.reg false [] R52_0) (.seq (.reg false [] R52_1) .ret)), [(2, none)]⟩
/-- slices.Contains[[]int,int] -/
@[reducible] def R53_0 : List XO := [⟨(some 4), none, .mv (.c (.bool false)), []⟩]
@[reducible] def R53_1 : List XO := [⟨(some 5), none, .mv (.t 0), []⟩, ⟨(some 6), none, .mv (.t 1), []⟩, ⟨(some 7), none, .call 65 [(.t 5), (.t 6)], [0, 1]⟩, ⟨(some 8), none, .bin false .geq (.t 7) (.c (.int .i64 0)), [2]⟩, ⟨(some 4), none, .mv (.t 8), [3, 2, 0, 1, 2, 3]⟩]
@[reducible] def F53 : XF := ⟨9, (.seq (.reg false [] R53_0) (.seq (.reg false [] R53_1) .ret)), [(4, none)]⟩
/-- codesearch/codesearchref14.Get -/
@[reducible] def R54_0 : List XO := [⟨(some 4), none, .alloc [(.int .i64 0), (.int .i64 0), (.str (ByteArray.mk #[])), (.int .i64 0), (.str (ByteArray.mk #[])), .nls, .nls, (.bool false), (.int .i64 0), (.int .i64 0), (.int .i64 0)], []⟩, ⟨(some 5), none, .mv (.c (.bool false)), []⟩]
@[reducible] def R54_1 : List XO := [⟨(some 6), none, .mv (.c (.int .i64 0)), []⟩]
@[reducible] def R54_2 : List XO := [⟨(some 7), none, .mv (.t 6), []⟩, ⟨(some 8), none, .mv (.t 0), []⟩, ⟨(some 9), none, .len false (.t 8), [1]⟩, ⟨(some 10), none, .bin false .lss (.t 7) (.t 9), [0, 2]⟩]
@[reducible] def R54_3 : List XO := [⟨(some 13), none, .mv (.t 0), []⟩, ⟨(some 14), none, .mv (.t 6), []⟩, ⟨(some 15), none, .iaS 11 (.t 13) (.t 14), [0, 1]⟩, ⟨(some 16), none, .fad 0 (.t 15), [2]⟩, ⟨(some 17), none, .load 1 false (.t 16), [3]⟩, ⟨(some 18), none, .mv (.t 1), []⟩, ⟨(some 19), none, .bin false .eql (.t 17) (.t 18), [4, 5]⟩]
@[reducible] def R54_4 : List XO := [⟨(some 20), none, .mv (.t 0), []⟩, ⟨(some 21), none, .mv (.t 6), []⟩, ⟨(some 22), none, .iaS 11 (.t 20) (.t 21), [0, 1]⟩, ⟨(some 23), none, .load 11 true (.t 22), [2]⟩, ⟨none, none, .store 11 (.t 4) (.t 23), [3, 0, 1, 2, 3]⟩, ⟨(some 5), none, .mv (.c (.bool true)), [4, 0, 1, 2, 3, 4]⟩]
@[reducible] def R54_5 : List XO := [⟨(some 11), none, .mv (.t 6), []⟩, ⟨(some 12), none, .bin false .add (.t 11) (.c (.int .i64 1)), [0]⟩, ⟨(some 6), none, .mv (.t 12), [1, 0, 1]⟩]
@[reducible] def L54_0 : XC := (.seq (.seq (.reg false [] R54_2) (.cond (.t 10) .skip (.exit 0))) (.seq (.blk 1 (.seq (.reg false [] R54_3) (.cond (.t 19) (.seq (.reg false [] R54_4) .ret) .skip))) (.reg false [] R54_5)))
@[reducible] def R54_6 : List XO := [⟨(some 24), none, .build [(.int .i64 0), (.int .i64 0), (.str (ByteArray.mk #[])), (.int .i64 0), (.str (ByteArray.mk #[])), .nls, .nls, (.bool false), (.int .i64 0), (.int .i64 0), (.int .i64 0)] [], []⟩, ⟨none, none, .store 11 (.t 4) (.t 24), [0, 0]⟩, ⟨(some 5), none, .mv (.c (.bool false)), [1, 0, 1]⟩]
@[reducible] def F54 : XF := ⟨25, (.seq (.reg false [] R54_0) (.seq (.seq (.reg false [] R54_1) (.blk 0 (.loop L54_0))) (.seq (.reg false [] R54_6) .ret))), [(4, some (11, true)), (5, none)]⟩
/-- codesearch/codesearchref15.owner -/
@[reducible] def R55_0 : List XO := [⟨(some 3), none, .box 11 (.t 1), []⟩, ⟨(some 4), none, .alloc [(.int .i64 0), (.int .i64 0), (.str (ByteArray.mk #[])), (.int .i64 0), (.str (ByteArray.mk #[])), .nls, .nls, (.bool false), (.int .i64 0), (.int .i64 0), (.int .i64 0)], []⟩, ⟨(some 5), none, .mv (.c (.bool false)), []⟩]
@[reducible] def R55_1 : List XO := [⟨(some 9), none, .mv (.t 0), []⟩, ⟨(some 10), none, .fad 3 (.t 3), []⟩, ⟨(some 11), none, .load 1 false (.t 10), [1]⟩, ⟨(some 12), none, .call 54 [(.t 9), (.t 11)], [0, 2]⟩, ⟨(some 8), none, .mv (.t 12), [3]⟩, ⟨(some 13), none, .ext (.t 8) 0, [4]⟩, ⟨(some 14), none, .ext (.t 8) 1, [4]⟩, ⟨(some 6), none, .alloc [(.int .i64 0), (.int .i64 0), (.str (ByteArray.mk
    #[])), (.int .i64 0), (.str (ByteArray.mk #[])), .nls, .nls, (.bool false), (.int .i64 0), (.int .i64 0), (.int .i64 0)], []⟩, ⟨none, none, .store 11 (.t 6) (.t 13), [7, 5, 3, 0, 1, 2, 3, 4, 5, 7]⟩, ⟨(some 7), none, .mv (.t 14), [6, 8, 0, 1, 2, 3, 4, 5, 6, 7, 8]⟩]
@[reducible] def R55_2 : List XO := [⟨(some 15), none, .load 11 true (.t 6), []⟩, ⟨(some 16), none, .mv (.t 7), []⟩, ⟨(some 17), none, .mv (.t 16), [1]⟩, ⟨(some 18), (some (17, true)), .fad 1 (.t 3), [2]⟩, ⟨(some 19), (some (17, true)), .load 1 false (.t 18), [3, 2]⟩, ⟨(some 20), (some (17, true)), .bin false .eql (.t 19) (.c (.int .i64 5)), [4, 2]⟩, ⟨(some 21), none, .pick (.t 17) (.t 20) (.c
    (.bool false)), [2, 5]⟩, ⟨(some 22), none, .mv (.t 21), [6, 2]⟩, ⟨(some 23), (some (22, true)), .fad 1 (.t 6), [7]⟩, ⟨(some 24), (some (22, true)), .load 1 false (.t 23), [8, 7]⟩, ⟨(some 25), (some (22, true)), .bin false .eql (.t 24) (.c (.int .i64 3)), [9, 7]⟩, ⟨(some 26), (some (22, true)), .mv (.t 25), [10, 7, 7]⟩, ⟨(some 27), (some (26, false)), .fad 1 (.t 6), [11]⟩, ⟨(some 28), (some (26,
    false)), .load 1 false (.t 27), [12, 11]⟩, ⟨(some 29), (some (26, false)), .bin false .eql (.t 28) (.c (.int .i64 4)), [13, 11]⟩, ⟨(some 30), (some (22, true)), .pick (.t 26) (.c (.bool true)) (.t 29), [11, 14, 7]⟩, ⟨(some 31), none, .pick (.t 22) (.t 30) (.c (.bool false)), [7, 15]⟩, ⟨none, none, .store 11 (.t 4) (.t 15), [0, 11, 0]⟩, ⟨(some 5), none, .mv (.t 31), [16, 17, 0, 1, 2, 3, 4, 5, 6,
    7, 8, 9, 10, 11, 12, 13, 14, 15, 16, 17]⟩]
@[reducible] def F55 : XF := ⟨32, (.seq (.reg false [] R55_0) (.seq (.reg false [] R55_1) (.seq (.reg true [(13, 17)] R55_2) .ret))), [(4, some (11, true)), (5, none)]⟩
/-- codesearch/decl.Find -/
@[reducible] def R56_0 : List XO := [⟨(some 4), none, .alloc [(.int .i64 0), (.int .i64 0), (.str (ByteArray.mk #[])), (.int .i64 0), (.str (ByteArray.mk #[])), .nls, .nls, (.bool false), (.int .i64 0), (.int .i64 0), (.int .i64 0)], []⟩, ⟨(some 5), none, .mv (.c (.bool false)), []⟩]
@[reducible] def R56_1 : List XO := [⟨(some 8), none, .mv (.t 0), []⟩, ⟨(some 9), none, .len false (.t 8), [0]⟩, ⟨(some 10), none, .mv (.c (.int .i64 0)), []⟩]
@[reducible] def R56_2 : List XO := [⟨(some 11), none, .bin false .lss (.t 10) (.t 9), []⟩]
@[reducible] def R56_3 : List XO := [⟨(some 12), none, .iaS 11 (.t 8) (.t 10), []⟩, ⟨(some 13), none, .load 11 true (.t 12), [0]⟩, ⟨(some 7), none, .alloc [(.int .i64 0), (.int .i64 0), (.str (ByteArray.mk #[])), (.int .i64 0), (.str (ByteArray.mk #[])), .nls, .nls, (.bool false), (.int .i64 0), (.int .i64 0), (.int .i64 0)], []⟩, ⟨none, none, .store 11 (.t 7) (.t 13), [2, 1, 0, 1, 2]⟩]
@[reducible] def R56_4 : List XO := [⟨(some 14), none, .fad 2 (.t 7), []⟩, ⟨(some 15), none, .load 1 false (.t 14), [0]⟩, ⟨(some 16), none, .mv (.t 1), []⟩, ⟨(some 17), none, .bin false .eql (.t 15) (.t 16), [1, 2]⟩]
@[reducible] def R56_5 : List XO := [⟨(some 18), none, .load 11 true (.t 7), []⟩, ⟨none, none, .store 11 (.t 4) (.t 18), [0, 0]⟩, ⟨(some 5), none, .mv (.c (.bool true)), [1, 0, 1]⟩]
@[reducible] def R56_6 : List XO := [⟨(some 19), none, .bin false .add (.t 10) (.c (.int .i64 1)), []⟩, ⟨(some 10), none, .mv (.t 19), [0]⟩]
@[reducible] def L56_0 : XC := (.seq (.reg false [] R56_2) (.seq (.cond (.t 11) .skip (.exit 0)) (.seq (.blk 1 (.seq (.reg false [] R56_3) (.seq (.reg false [] R56_4) (.cond (.t 17) (.seq (.reg false [] R56_5) .ret) .skip)))) (.reg false [] R56_6))))
@[reducible] def R56_7 : List XO := [⟨(some 20), none, .build [(.int .i64 0), (.int .i64 0), (.str (ByteArray.mk #[])), (.int .i64 0), (.str (ByteArray.mk #[])), .nls, .nls, (.bool false), (.int .i64 0), (.int .i64 0), (.int .i64 0)] [], []⟩, ⟨none, none, .store 11 (.t 4) (.t 20), [0, 0]⟩, ⟨(some 5), none, .mv (.c (.bool false)), [1, 0, 1]⟩]
@[reducible] def F56 : XF := ⟨21, (.seq (.reg false [] R56_0) (.seq (.seq (.reg false [] R56_1) (.blk 0 (.loop L56_0))) (.seq (.reg false [] R56_7) .ret))), [(4, some (11, true)), (5, none)]⟩
/-- codesearch/types.object -/
@[reducible] def R57_0 : List XO := [⟨(some 1), none, .box 11 (.t 0), []⟩, ⟨(some 2), none, .mv (.c (.bool false)), []⟩]
@[reducible] def R57_1 : List XO := [⟨(some 3), none, .fad 1 (.t 1), []⟩, ⟨(some 4), none, .load 1 false (.t 3), [0]⟩, ⟨(some 5), none, .bin false .eql (.t 4) (.c (.int .i64 3)), [1]⟩, ⟨(some 6), none, .mv (.t 5), [2]⟩, ⟨(some 7), (some (6, false)), .fad 1 (.t 1), [3]⟩, ⟨(some 8), (some (6, false)), .load 1 false (.t 7), [4, 3]⟩, ⟨(some 9), (some (6, false)), .bin false .eql (.t 8) (.c (.int .i64
    4)), [5, 3]⟩, ⟨(some 10), none, .pick (.t 6) (.c (.bool true)) (.t 9), [3, 6]⟩, ⟨(some 2), none, .mv (.t 10), [7, 3, 0, 1, 2, 3, 4, 5, 6, 7]⟩]
@[reducible] def F57 : XF := ⟨11, (.seq (.reg false [] R57_0) (.seq (.reg false [] R57_1) .ret)), [(2, none)]⟩
/-- slices.Index[[]string,string] -/
@[reducible] def R58_0 : List XO := [⟨(some 4), none, .mv (.c (.int .i64 0)), []⟩]
@[reducible] def R58_1 : List XO := [⟨(some 6), none, .mv (.t 0), []⟩, ⟨(some 7), none, .len false (.t 6), [0]⟩, ⟨(some 8), none, .mv (.c (.int .i64 0)), []⟩]
@[reducible] def R58_2 : List XO := [⟨(some 9), none, .bin false .lss (.t 8) (.t 7), []⟩]
@[reducible] def R58_3 : List XO := [⟨(some 10), none, .mv (.t 8), []⟩, ⟨(some 5), none, .mv (.t 10), [0, 0]⟩]
@[reducible] def R58_4 : List XO := [⟨(some 11), none, .mv (.t 1), []⟩, ⟨(some 12), none, .mv (.t 0), []⟩, ⟨(some 13), none, .mv (.t 5), []⟩, ⟨(some 14), none, .iaS 1 (.t 12) (.t 13), [1, 2]⟩, ⟨(some 15), none, .load 1 false (.t 14), [3]⟩, ⟨(some 16), none, .bin false .eql (.t 11) (.t 15), [0, 4]⟩]
@[reducible] def R58_5 : List XO := [⟨(some 17), none, .mv (.t 5), []⟩, ⟨(some 4), none, .mv (.t 17), [0, 0]⟩]
@[reducible] def R58_6 : List XO := [⟨(some 18), none, .bin false .add (.t 8) (.c (.int .i64 1)), []⟩, ⟨(some 8), none, .mv (.t 18), [0]⟩]
@[reducible] def L58_0 : XC := (.seq (.reg false [] R58_2) (.seq (.cond (.t 9) .skip (.exit 0)) (.seq (.blk 1 (.seq (.reg false [] R58_3) (.seq (.reg false [] R58_4) (.cond (.t 16) (.seq (.reg false [] R58_5) .ret) .skip)))) (.reg false [] R58_6))))
@[reducible] def R58_7 : List XO := [⟨(some 4), none, .mv (.c (.int .i64 (-1))), []⟩]
@[reducible] def F58 : XF := ⟨19, (.seq (.reg false [] R58_0) (.seq (.seq (.reg false [] R58_1) (.blk 0 (.loop L58_0))) (.seq (.reg false [] R58_7) .ret))), [(4, none)]⟩
/-- codesearch/types.unknown$1 -/
@[reducible] def R59_0 : List XO := [⟨(some 3), none, .mv (.c (.bool false)), []⟩]
@[reducible] def R59_1 : List XO := [⟨(some 4), none, .load 1 false (.t 1), []⟩, ⟨(some 5), none, .mv (.t 0), []⟩, ⟨(some 6), none, .call 14 [(.t 4), (.t 5)], [0, 1]⟩, ⟨(some 7), none, .un .not (.t 6), [2]⟩, ⟨(some 3), none, .mv (.t 7), [3, 2, 0, 1, 2, 3]⟩]
@[reducible] def F59 : XF := ⟨8, (.seq (.reg false [] R59_0) (.seq (.reg false [] R59_1) .ret)), [(3, none)]⟩
/-- slices.ContainsFunc[[]string,string] -/
@[reducible] def R60_0 : List XO := [⟨(some 4), none, .mv (.c (.bool false)), []⟩]
@[reducible] def R60_1 : List XO := [⟨(some 5), none, .mv (.t 0), []⟩, ⟨(some 6), none, .mv (.t 1), []⟩, ⟨(some 7), none, .call 66 [(.t 5), (.t 6)], [0, 1]⟩, ⟨(some 8), none, .bin false .geq (.t 7) (.c (.int .i64 0)), [2]⟩, ⟨(some 4), none, .mv (.t 8), [3, 2, 0, 1, 2, 3]⟩]
@[reducible] def F60 : XF := ⟨9, (.seq (.reg false [] R60_0) (.seq (.reg false [] R60_1) .ret)), [(4, none)]⟩
/-- codesearch/types.looped$1 -/
@[reducible] def R61_0 : List XO := [⟨(some 4), none, .mv (.c (.bool false)), []⟩]
@[reducible] def R61_1 : List XO := [⟨(some 5), none, .load 1 false (.t 1), []⟩, ⟨(some 6), none, .mv (.t 0), []⟩, ⟨(some 7), none, .call 17 [(.t 5), (.t 6)], [0, 1]⟩, ⟨(some 8), none, .fad 2 (.t 2), []⟩, ⟨(some 9), none, .load 1 false (.t 8), [3]⟩, ⟨(some 10), none, .call 40 [(.t 7), (.t 9)], [2, 4, 2]⟩, ⟨(some 4), none, .mv (.t 10), [5, 5, 0, 1, 2, 3, 4, 5]⟩]
@[reducible] def F61 : XF := ⟨11, (.seq (.reg false [] R61_0) (.seq (.reg true [] R61_1) .ret)), [(4, none)]⟩
/-- codesearch/types.kinds -/
@[reducible] def R62_0 : List XO := [⟨(some 3), none, .box 11 (.t 1), []⟩, ⟨(some 4), none, .mv (.c (.bool false)), []⟩]
@[reducible] def R62_1 : List XO := [⟨(some 10), none, .fad 6 (.t 3), []⟩, ⟨(some 11), none, .load 1 false (.t 10), [0]⟩, ⟨(some 12), none, .len false (.t 11), [1]⟩, ⟨(some 13), none, .mv (.c (.int .i64 0)), []⟩]
@[reducible] def R62_2 : List XO := [⟨(some 14), none, .bin false .lss (.t 13) (.t 12), []⟩]
@[reducible] def R62_3 : List XO := [⟨(some 15), none, .mv (.t 13), []⟩, ⟨(some 16), none, .iaS 1 (.t 11) (.t 13), []⟩, ⟨(some 17), none, .load 1 false (.t 16), [1]⟩, ⟨(some 5), none, .mv (.t 15), [0, 0, 1, 2]⟩, ⟨(some 6), none, .mv (.t 17), [2, 3, 0, 1, 2, 3]⟩]
@[reducible] def R62_4 : List XO := [⟨(some 19), none, .mv (.t 0), []⟩, ⟨(some 20), none, .mv (.t 6), []⟩, ⟨(some 21), none, .call 35 [(.t 19), (.t 20)], [0, 1]⟩, ⟨(some 18), none, .mv (.t 21), [2]⟩, ⟨(some 22), none, .ext (.t 18) 0, [3]⟩, ⟨(some 23), none, .ext (.t 18) 1, [3]⟩, ⟨(some 7), none, .alloc [(.int .i64 0), (.int .i64 0), (.str (ByteArray.mk #[])), (.int .i64 0), (.str (ByteArray.mk
    #[])), .nls, .nls, (.bool false), (.int .i64 0), (.int .i64 0), (.int .i64 0)], []⟩, ⟨none, none, .store 11 (.t 7) (.t 22), [6, 4, 2, 0, 1, 2, 3, 4, 6]⟩, ⟨(some 8), none, .mv (.t 23), [5, 7, 0, 1, 2, 3, 4, 5, 6, 7]⟩]
@[reducible] def R62_5 : List XO := [⟨(some 9), none, .mv (.c (.int .i64 4)), []⟩]
@[reducible] def R62_6 : List XO := [⟨(some 24), none, .fad 1 (.t 3), []⟩, ⟨(some 25), none, .load 1 false (.t 24), [0]⟩, ⟨(some 26), none, .bin false .eql (.t 25) (.c (.int .i64 3)), [1]⟩, ⟨(some 27), none, .mv (.t 26), [2]⟩, ⟨(some 28), (some (27, true)), .fad 7 (.t 3), [3]⟩, ⟨(some 29), (some (27, true)), .load 1 false (.t 28), [4, 3]⟩, ⟨(some 30), none, .pick (.t 27) (.t 29) (.c (.bool false)),
    [3, 5]⟩, ⟨(some 31), none, .mv (.t 30), [6, 3]⟩, ⟨(some 32), (some (31, true)), .mv (.t 5), [7]⟩, ⟨(some 33), (some (31, true)), .bin false .eql (.t 32) (.c (.int .i64 0)), [8, 7]⟩, ⟨(some 34), none, .pick (.t 31) (.t 33) (.c (.bool false)), [7, 9]⟩]
@[reducible] def R62_7 : List XO := [⟨(some 9), none, .mv (.c (.int .i64 3)), []⟩]
@[reducible] def R62_8 : List XO := [⟨(some 35), none, .mv (.t 8), []⟩, ⟨(some 36), none, .un .not (.t 35), [0]⟩, ⟨(some 37), none, .mv (.t 36), [1]⟩, ⟨(some 38), (some (37, false)), .fad 1 (.t 7), [2]⟩, ⟨(some 39), (some (37, false)), .load 1 false (.t 38), [3, 2]⟩, ⟨(some 40), (some (37, false)), .mv (.t 9), [2]⟩, ⟨(some 41), (some (37, false)), .bin false .neq (.t 39) (.t 40), [4, 5, 2]⟩, ⟨(some
    42), none, .pick (.t 37) (.c (.bool true)) (.t 41), [2, 6]⟩]
@[reducible] def R62_9 : List XO := [⟨(some 4), none, .mv (.c (.bool true)), []⟩]
@[reducible] def R62_10 : List XO := [⟨(some 43), none, .bin false .add (.t 13) (.c (.int .i64 1)), []⟩, ⟨(some 13), none, .mv (.t 43), [0]⟩]
@[reducible] def L62_0 : XC := (.seq (.reg false [] R62_2) (.seq (.cond (.t 14) .skip (.exit 0)) (.seq (.blk 1 (.seq (.reg false [] R62_3) (.seq (.reg false [] R62_4) (.seq (.reg false [] R62_5) (.seq (.seq (.reg false [] R62_6) (.cond (.t 34) (.reg false [] R62_7) .skip)) (.seq (.reg false [] R62_8) (.cond (.t 42) (.seq (.reg false [] R62_9) .ret) .skip))))))) (.reg false [] R62_10))))
@[reducible] def R62_11 : List XO := [⟨(some 4), none, .mv (.c (.bool false)), []⟩]
@[reducible] def F62 : XF := ⟨44, (.seq (.reg false [] R62_0) (.seq (.seq (.reg false [] R62_1) (.blk 0 (.loop L62_0))) (.seq (.reg false [] R62_11) .ret))), [(4, none)]⟩
/-- codesearch/types.clashes -/
@[reducible] def R63_0 : List XO := [⟨(some 2), none, .box 1 (.t 0), []⟩, ⟨(some 3), none, .box 11 (.t 1), []⟩, ⟨(some 4), none, .mv (.c (.bool false)), []⟩]
@[reducible] def R63_1 : List XO := [⟨(some 8), none, .load 1 false (.t 2), []⟩, ⟨(some 9), none, .load 11 true (.t 3), []⟩, ⟨(some 10), none, .call 51 [(.t 8), (.t 9)], [0, 1]⟩, ⟨(some 7), none, .mv (.t 10), [2]⟩, ⟨(some 11), none, .ext (.t 7) 0, [3]⟩, ⟨(some 12), none, .ext (.t 7) 1, [3]⟩, ⟨(some 5), none, .alloc [(.int .i64 0), (.int .i64 0), (.str (ByteArray.mk #[])), (.int .i64 0), (.str
    (ByteArray.mk #[])), .nls, .nls, (.bool false), (.int .i64 0), (.int .i64 0), (.int .i64 0)], []⟩, ⟨none, none, .store 11 (.t 5) (.t 11), [6, 4, 2, 0, 1, 2, 3, 4, 6]⟩, ⟨(some 6), none, .mv (.t 12), [5, 7, 0, 1, 2, 3, 4, 5, 6, 7]⟩]
@[reducible] def R63_2 : List XO := [⟨(some 13), none, .mv (.t 6), []⟩, ⟨(some 14), none, .un .not (.t 13), [0]⟩]
@[reducible] def R63_3 : List XO := [⟨(some 4), none, .mv (.c (.bool false)), []⟩]
@[reducible] def R63_4 : List XO := [⟨(some 15), none, .fad 6 (.t 5), []⟩, ⟨(some 16), none, .load 1 false (.t 15), [0]⟩, ⟨(some 17), none, .mkfn 67 [(.t 2), (.t 3)], []⟩, ⟨(some 18), none, .call 60 [(.t 16), (.t 17)], [1, 2]⟩, ⟨(some 4), none, .mv (.t 18), [3, 3, 0, 1, 2, 3]⟩]
@[reducible] def F63 : XF := ⟨19, (.seq (.reg false [] R63_0) (.seq (.reg false [] R63_1) (.seq (.seq (.reg false [] R63_2) (.cond (.t 14) (.seq (.reg false [] R63_3) .ret) .skip)) (.seq (.reg false [] R63_4) .ret)))), [(4, none)]⟩
/-- strings.LastIndexByte -/
@[reducible] def R64_0 : List XO := [⟨(some 4), none, .mv (.c (.int .i64 0)), []⟩]
@[reducible] def R64_1 : List XO := [⟨(some 5), none, .mv (.t 0), []⟩, ⟨(some 6), none, .mv (.t 1), []⟩, ⟨(some 7), none, .call 69 [(.t 5), (.t 6)], [0, 1]⟩, ⟨(some 4), none, .mv (.t 7), [2, 2, 0, 1, 2]⟩]
@[reducible] def F64 : XF := ⟨8, (.seq (.reg false [] R64_0) (.seq (.reg false [] R64_1) .ret)), [(4, none)]⟩
/-- slices.Index[[]int,int] -/
@[reducible] def R65_0 : List XO := [⟨(some 4), none, .mv (.c (.int .i64 0)), []⟩]
@[reducible] def R65_1 : List XO := [⟨(some 6), none, .mv (.t 0), []⟩, ⟨(some 7), none, .len false (.t 6), [0]⟩, ⟨(some 8), none, .mv (.c (.int .i64 0)), []⟩]
@[reducible] def R65_2 : List XO := [⟨(some 9), none, .bin false .lss (.t 8) (.t 7), []⟩]
@[reducible] def R65_3 : List XO := [⟨(some 10), none, .mv (.t 8), []⟩, ⟨(some 5), none, .mv (.t 10), [0, 0]⟩]
@[reducible] def R65_4 : List XO := [⟨(some 11), none, .mv (.t 1), []⟩, ⟨(some 12), none, .mv (.t 0), []⟩, ⟨(some 13), none, .mv (.t 5), []⟩, ⟨(some 14), none, .iaS 1 (.t 12) (.t 13), [1, 2]⟩, ⟨(some 15), none, .load 1 false (.t 14), [3]⟩, ⟨(some 16), none, .bin false .eql (.t 11) (.t 15), [0, 4]⟩]
@[reducible] def R65_5 : List XO := [⟨(some 17), none, .mv (.t 5), []⟩, ⟨(some 4), none, .mv (.t 17), [0, 0]⟩]
@[reducible] def R65_6 : List XO := [⟨(some 18), none, .bin false .add (.t 8) (.c (.int .i64 1)), []⟩, ⟨(some 8), none, .mv (.t 18), [0]⟩]
@[reducible] def L65_0 : XC := (.seq (.reg false [] R65_2) (.seq (.cond (.t 9) .skip (.exit 0)) (.seq (.blk 1 (.seq (.reg false [] R65_3) (.seq (.reg false [] R65_4) (.cond (.t 16) (.seq (.reg false [] R65_5) .ret) .skip)))) (.reg false [] R65_6))))
@[reducible] def R65_7 : List XO := [⟨(some 4), none, .mv (.c (.int .i64 (-1))), []⟩]
@[reducible] def F65 : XF := ⟨19, (.seq (.reg false [] R65_0) (.seq (.seq (.reg false [] R65_1) (.blk 0 (.loop L65_0))) (.seq (.reg false [] R65_7) .ret))), [(4, none)]⟩
/-- slices.IndexFunc[[]string,string] -/
@[reducible] def R66_0 : List XO := [⟨(some 4), none, .mv (.c (.int .i64 0)), []⟩]
@[reducible] def R66_1 : List XO := [⟨(some 6), none, .mv (.t 0), []⟩, ⟨(some 7), none, .len false (.t 6), [0]⟩, ⟨(some 8), none, .mv (.c (.int .i64 0)), []⟩]
@[reducible] def R66_2 : List XO := [⟨(some 9), none, .bin false .lss (.t 8) (.t 7), []⟩]
@[reducible] def R66_3 : List XO := [⟨(some 10), none, .mv (.t 8), []⟩, ⟨(some 5), none, .mv (.t 10), [0, 0]⟩]
@[reducible] def R66_4 : List XO := [⟨(some 11), none, .mv (.t 1), []⟩, ⟨(some 12), none, .mv (.t 0), []⟩, ⟨(some 13), none, .mv (.t 5), []⟩, ⟨(some 14), none, .iaS 1 (.t 12) (.t 13), [1, 2]⟩, ⟨(some 15), none, .load 1 false (.t 14), [3]⟩, ⟨(some 16), none, .callv (.t 11) [(.t 15)], [0, 4]⟩]
@[reducible] def R66_5 : List XO := [⟨(some 17), none, .mv (.t 5), []⟩, ⟨(some 4), none, .mv (.t 17), [0, 0]⟩]
@[reducible] def R66_6 : List XO := [⟨(some 18), none, .bin false .add (.t 8) (.c (.int .i64 1)), []⟩, ⟨(some 8), none, .mv (.t 18), [0]⟩]
@[reducible] def L66_0 : XC := (.seq (.reg false [] R66_2) (.seq (.cond (.t 9) .skip (.exit 0)) (.seq (.blk 1 (.seq (.reg false [] R66_3) (.seq (.reg false [] R66_4) (.cond (.t 16) (.seq (.reg false [] R66_5) .ret) .skip)))) (.reg false [] R66_6))))
@[reducible] def R66_7 : List XO := [⟨(some 4), none, .mv (.c (.int .i64 (-1))), []⟩]
@[reducible] def F66 : XF := ⟨19, (.seq (.reg false [] R66_0) (.seq (.seq (.reg false [] R66_1) (.blk 0 (.loop L66_0))) (.seq (.reg false [] R66_7) .ret))), [(4, none)]⟩
/-- codesearch/types.clashes$1 -/
@[reducible] def R67_0 : List XO := [⟨(some 4), none, .mv (.c (.bool false)), []⟩]
@[reducible] def R67_1 : List XO := [⟨(some 8), none, .load 1 false (.t 1), []⟩, ⟨(some 9), none, .mv (.t 0), []⟩, ⟨(some 10), none, .fad 2 (.t 2), []⟩, ⟨(some 11), none, .load 1 false (.t 10), [2]⟩, ⟨(some 12), none, .call 52 [(.t 11)], [3]⟩, ⟨(some 13), none, .call 26 [(.t 8), (.t 9), (.t 12)], [0, 1, 4, 4]⟩, ⟨(some 7), none, .mv (.t 13), [5]⟩, ⟨(some 14), none, .ext (.t 7) 0, [6]⟩, ⟨(some 15),
    none, .ext (.t 7) 1, [6]⟩, ⟨(some 5), none, .alloc [(.int .i64 0), (.int .i64 0), (.str (ByteArray.mk #[])), (.int .i64 0), (.str (ByteArray.mk #[])), .nls, .nls, (.bool false), (.int .i64 0), (.int .i64 0), (.int .i64 0)], []⟩, ⟨none, none, .store 11 (.t 5) (.t 14), [9, 7, 5, 0, 1, 2, 3, 4, 5, 6, 7, 9]⟩, ⟨(some 6), none, .mv (.t 15), [8, 10, 0, 1, 2, 3, 4, 5, 6, 7, 8, 9, 10]⟩]
@[reducible] def R67_2 : List XO := [⟨(some 16), none, .mv (.t 6), []⟩, ⟨(some 17), none, .mv (.t 16), [0]⟩, ⟨(some 18), (some (17, true)), .fad 1 (.t 5), [1]⟩, ⟨(some 19), (some (17, true)), .load 1 false (.t 18), [2, 1]⟩, ⟨(some 20), (some (17, true)), .bin false .neq (.t 19) (.c (.int .i64 5)), [3, 1]⟩, ⟨(some 21), (some (17, true)), .mv (.t 20), [4, 1, 1]⟩, ⟨(some 22), (some (21, false)), .fad
    4 (.t 5), [5]⟩, ⟨(some 23), (some (21, false)), .load 1 false (.t 22), [6, 5]⟩, ⟨(some 24), (some (21, false)), .fad 4 (.t 2), [5]⟩, ⟨(some 25), (some (21, false)), .load 1 false (.t 24), [8, 5]⟩, ⟨(some 26), (some (21, false)), .bin false .neq (.t 23) (.t 25), [7, 9, 5]⟩, ⟨(some 27), (some (17, true)), .pick (.t 21) (.c (.bool true)) (.t 26), [5, 10, 1]⟩, ⟨(some 28), (some (17, true)), .mv (.t
    27), [11, 5, 1]⟩, ⟨(some 29), (some (28, false)), .fad 5 (.t 5), [12]⟩, ⟨(some 30), (some (28, false)), .load 1 false (.t 29), [13, 12]⟩, ⟨(some 31), (some (28, false)), .fad 5 (.t 2), [12]⟩, ⟨(some 32), (some (28, false)), .load 1 false (.t 31), [15, 12]⟩, ⟨(some 33), (some (28, false)), .call 68 [(.t 30), (.t 32)], [14, 16, 12, 12]⟩, ⟨(some 34), (some (28, false)), .un .not (.t 33), [17,
    12]⟩, ⟨(some 35), (some (17, true)), .pick (.t 28) (.c (.bool true)) (.t 34), [12, 18, 1]⟩, ⟨(some 36), none, .pick (.t 17) (.t 35) (.c (.bool false)), [1, 19]⟩, ⟨(some 4), none, .mv (.t 36), [20, 17, 0, 1, 2, 3, 4, 5, 6, 7, 8, 9, 10, 11, 12, 13, 14, 15, 16, 17, 18, 19, 20]⟩]
@[reducible] def F67 : XF := ⟨37, (.seq (.reg false [] R67_0) (.seq (.reg true [] R67_1) (.seq (.reg false [] R67_2) .ret))), [(4, none)]⟩
/-- slices.Equal[[]string,string] -/
@[reducible] def R68_0 : List XO := [⟨(some 4), none, .mv (.c (.bool false)), []⟩]
@[reducible] def R68_1 : List XO := [⟨(some 6), none, .mv (.t 0), []⟩, ⟨(some 7), none, .len false (.t 6), [0]⟩, ⟨(some 8), none, .mv (.t 1), []⟩, ⟨(some 9), none, .len false (.t 8), [2]⟩, ⟨(some 10), none, .bin false .neq (.t 7) (.t 9), [1, 3]⟩]
@[reducible] def R68_2 : List XO := [⟨(some 4), none, .mv (.c (.bool false)), []⟩]
@[reducible] def R68_3 : List XO := [⟨(some 11), none, .mv (.t 0), []⟩, ⟨(some 12), none, .len false (.t 11), [0]⟩, ⟨(some 13), none, .mv (.c (.int .i64 0)), []⟩]
@[reducible] def R68_4 : List XO := [⟨(some 14), none, .bin false .lss (.t 13) (.t 12), []⟩]
@[reducible] def R68_5 : List XO := [⟨(some 15), none, .mv (.t 13), []⟩, ⟨(some 5), none, .mv (.t 15), [0, 0]⟩]
@[reducible] def R68_6 : List XO := [⟨(some 16), none, .mv (.t 0), []⟩, ⟨(some 17), none, .mv (.t 5), []⟩, ⟨(some 18), none, .iaS 1 (.t 16) (.t 17), [0, 1]⟩, ⟨(some 19), none, .load 1 false (.t 18), [2]⟩, ⟨(some 20), none, .mv (.t 1), []⟩, ⟨(some 21), none, .mv (.t 5), []⟩, ⟨(some 22), none, .iaS 1 (.t 20) (.t 21), [4, 5]⟩, ⟨(some 23), none, .load 1 false (.t 22), [6]⟩, ⟨(some 24), none, .bin false
    .neq (.t 19) (.t 23), [3, 7]⟩]
@[reducible] def R68_7 : List XO := [⟨(some 4), none, .mv (.c (.bool false)), []⟩]
@[reducible] def R68_8 : List XO := [⟨(some 25), none, .bin false .add (.t 13) (.c (.int .i64 1)), []⟩, ⟨(some 13), none, .mv (.t 25), [0]⟩]
@[reducible] def L68_0 : XC := (.seq (.reg false [] R68_4) (.seq (.cond (.t 14) .skip (.exit 0)) (.seq (.blk 1 (.seq (.reg false [] R68_5) (.seq (.reg true [] R68_6) (.cond (.t 24) (.seq (.reg false [] R68_7) .ret) .skip)))) (.reg false [] R68_8))))
@[reducible] def R68_9 : List XO := [⟨(some 4), none, .mv (.c (.bool true)), []⟩]
@[reducible] def F68 : XF := ⟨26, (.seq (.reg false [] R68_0) (.seq (.seq (.reg false [] R68_1) (.cond (.t 10) (.seq (.reg false [] R68_2) .ret) .skip)) (.seq (.seq (.reg false [] R68_3) (.blk 0 (.loop L68_0))) (.seq (.reg false [] R68_9) .ret)))), [(4, none)]⟩
/-- internal/bytealg.LastIndexByteString -/
@[reducible] def R69_0 : List XO := [⟨(some 4), none, .mv (.c (.int .i64 0)), []⟩]
@[reducible] def R69_1 : List XO := [⟨(some 6), none, .mv (.t 0), []⟩, ⟨(some 7), none, .len true (.t 6), [0]⟩, ⟨(some 8), none, .bin false .sub (.t 7) (.c (.int .i64 1)), [1]⟩, ⟨(some 5), none, .mv (.t 8), [2, 0, 1, 2]⟩]
@[reducible] def R69_2 : List XO := [⟨(some 9), none, .mv (.t 5), []⟩, ⟨(some 10), none, .bin false .geq (.t 9) (.c (.int .i64 0)), [0]⟩]
@[reducible] def R69_3 : List XO := [⟨(some 13), none, .mv (.t 0), []⟩, ⟨(some 14), none, .mv (.t 5), []⟩, ⟨(some 15), none, .ixS (.t 13) (.t 14), [0, 1]⟩, ⟨(some 16), none, .mv (.t 1), []⟩, ⟨(some 17), none, .bin false .eql (.t 15) (.t 16), [2, 3]⟩]
@[reducible] def R69_4 : List XO := [⟨(some 18), none, .mv (.t 5), []⟩, ⟨(some 4), none, .mv (.t 18), [0, 0]⟩]
@[reducible] def R69_5 : List XO := [⟨(some 11), none, .mv (.t 5), []⟩, ⟨(some 12), none, .bin false .sub (.t 11) (.c (.int .i64 1)), [0]⟩, ⟨(some 5), none, .mv (.t 12), [1, 0, 1]⟩]
@[reducible] def L69_0 : XC := (.seq (.seq (.reg false [] R69_2) (.cond (.t 10) .skip (.exit 0))) (.seq (.blk 1 (.seq (.reg false [] R69_3) (.cond (.t 17) (.seq (.reg false [] R69_4) .ret) .skip))) (.reg false [] R69_5)))
@[reducible] def R69_6 : List XO := [⟨(some 4), none, .mv (.c (.int .i64 (-1))), []⟩]
@[reducible] def F69 : XF := ⟨19, (.seq (.reg false [] R69_0) (.seq (.seq (.reg false [] R69_1) (.blk 0 (.loop L69_0))) (.seq (.reg false [] R69_6) .ret))), [(4, none)]⟩
def xp (f : Nat) : Option XF := match f with
  | 3 => some F3
  | 4 => some F4
  | 5 => some F5
  | 6 => some F6
  | 7 => some F7
  | 8 => some F8
  | 9 => some F9
  | 10 => some F10
  | 11 => some F11
  | 12 => some F12
  | 13 => some F13
  | 14 => some F14
  | 15 => some F15
  | 16 => some F16
  | 17 => some F17
  | 18 => some F18
  | 19 => some F19
  | 20 => some F20
  | 21 => some F21
  | 22 => some F22
  | 23 => some F23
  | 24 => some F24
  | 25 => some F25
  | 26 => some F26
  | 27 => some F27
  | 28 => some F28
  | 29 => some F29
  | 30 => some F30
  | 31 => some F31
  | 32 => some F32
  | 33 => some F33
  | 34 => some F34
  | 35 => some F35
  | 36 => some F36
  | 37 => some F37
  | 38 => some F38
  | 39 => some F39
  | 40 => some F40
  | 41 => some F41
  | 42 => some F42
  | 43 => some F43
  | 44 => some F44
  | 45 => some F45
  | 46 => some F46
  | 47 => some F47
  | 48 => some F48
  | 49 => some F49
  | 50 => some F50
  | 51 => some F51
  | 52 => some F52
  | 53 => some F53
  | 54 => some F54
  | 55 => some F55
  | 56 => some F56
  | 57 => some F57
  | 58 => some F58
  | 59 => some F59
  | 60 => some F60
  | 61 => some F61
  | 62 => some F62
  | 63 => some F63
  | 64 => some F64
  | 65 => some F65
  | 66 => some F66
  | 67 => some F67
  | 68 => some F68
  | 69 => some F69
  | _ => none
def md (f : Nat) : Bool := match f with
  | 38 => true
  | _ => false
theorem c3 : cFn Try.prog Try.f3 = some F3 := by kernel_rfl
theorem c4 : cFn Try.prog Try.f4 = some F4 := by kernel_rfl
theorem c5 : cFn Try.prog Try.f5 = some F5 := by kernel_rfl
theorem c6 : cFn Try.prog Try.f6 = some F6 := by kernel_rfl
theorem c7 : cFn Try.prog Try.f7 = some F7 := by kernel_rfl
theorem c8 : cFn Try.prog Try.f8 = some F8 := by kernel_rfl
theorem c9 : cFn Try.prog Try.f9 = some F9 := by kernel_rfl
theorem c10 : cFn Try.prog Try.f10 = some F10 := by kernel_rfl
theorem c11 : cFn Try.prog Try.f11 = some F11 := by kernel_rfl
theorem c12 : cFn Try.prog Try.f12 = some F12 := by kernel_rfl
theorem c13 : cFn Try.prog Try.f13 = some F13 := by kernel_rfl
theorem c14 : cFn Try.prog Try.f14 = some F14 := by kernel_rfl
theorem c15 : cFn Try.prog Try.f15 = some F15 := by kernel_rfl
theorem c16 : cFn Try.prog Try.f16 = some F16 := by kernel_rfl
theorem c17 : cFn Try.prog Try.f17 = some F17 := by kernel_rfl
theorem c18 : cFn Try.prog Try.f18 = some F18 := by kernel_rfl
theorem c19 : cFn Try.prog Try.f19 = some F19 := by kernel_rfl
theorem c20 : cFn Try.prog Try.f20 = some F20 := by kernel_rfl
theorem c21 : cFn Try.prog Try.f21 = some F21 := by kernel_rfl
theorem c22 : cFn Try.prog Try.f22 = some F22 := by kernel_rfl
theorem c23 : cFn Try.prog Try.f23 = some F23 := by kernel_rfl
theorem c24 : cFn Try.prog Try.f24 = some F24 := by kernel_rfl
theorem c25 : cFn Try.prog Try.f25 = some F25 := by kernel_rfl
theorem c26 : cFn Try.prog Try.f26 = some F26 := by kernel_rfl
theorem c27 : cFn Try.prog Try.f27 = some F27 := by kernel_rfl
theorem c28 : cFn Try.prog Try.f28 = some F28 := by kernel_rfl
theorem c29 : cFn Try.prog Try.f29 = some F29 := by kernel_rfl
theorem c30 : cFn Try.prog Try.f30 = some F30 := by kernel_rfl
theorem c31 : cFn Try.prog Try.f31 = some F31 := by kernel_rfl
theorem c32 : cFn Try.prog Try.f32 = some F32 := by kernel_rfl
theorem c33 : cFn Try.prog Try.f33 = some F33 := by kernel_rfl
theorem c34 : cFn Try.prog Try.f34 = some F34 := by kernel_rfl
theorem c35 : cFn Try.prog Try.f35 = some F35 := by kernel_rfl
theorem c36 : cFn Try.prog Try.f36 = some F36 := by kernel_rfl
theorem c37 : cFn Try.prog Try.f37 = some F37 := by kernel_rfl
theorem c38 : cFn Try.prog Try.f38 = some F38 := by kernel_rfl
theorem c39 : cFn Try.prog Try.f39 = some F39 := by kernel_rfl
theorem c40 : cFn Try.prog Try.f40 = some F40 := by kernel_rfl
theorem c41 : cFn Try.prog Try.f41 = some F41 := by kernel_rfl
theorem c42 : cFn Try.prog Try.f42 = some F42 := by kernel_rfl
theorem c43 : cFn Try.prog Try.f43 = some F43 := by kernel_rfl
theorem c44 : cFn Try.prog Try.f44 = some F44 := by kernel_rfl
theorem c45 : cFn Try.prog Try.f45 = some F45 := by kernel_rfl
theorem c46 : cFn Try.prog Try.f46 = some F46 := by kernel_rfl
theorem c47 : cFn Try.prog Try.f47 = some F47 := by kernel_rfl
theorem c48 : cFn Try.prog Try.f48 = some F48 := by kernel_rfl
theorem c49 : cFn Try.prog Try.f49 = some F49 := by kernel_rfl
theorem c50 : cFn Try.prog Try.f50 = some F50 := by kernel_rfl
theorem c51 : cFn Try.prog Try.f51 = some F51 := by kernel_rfl
theorem c52 : cFn Try.prog Try.f52 = some F52 := by kernel_rfl
theorem c53 : cFn Try.prog Try.f53 = some F53 := by kernel_rfl
theorem c54 : cFn Try.prog Try.f54 = some F54 := by kernel_rfl
theorem c55 : cFn Try.prog Try.f55 = some F55 := by kernel_rfl
theorem c56 : cFn Try.prog Try.f56 = some F56 := by kernel_rfl
theorem c57 : cFn Try.prog Try.f57 = some F57 := by kernel_rfl
theorem c58 : cFn Try.prog Try.f58 = some F58 := by kernel_rfl
theorem c59 : cFn Try.prog Try.f59 = some F59 := by kernel_rfl
theorem c60 : cFn Try.prog Try.f60 = some F60 := by kernel_rfl
theorem c61 : cFn Try.prog Try.f61 = some F61 := by kernel_rfl
theorem c62 : cFn Try.prog Try.f62 = some F62 := by kernel_rfl
theorem c63 : cFn Try.prog Try.f63 = some F63 := by kernel_rfl
theorem c64 : cFn Try.prog Try.f64 = some F64 := by kernel_rfl
theorem c65 : cFn Try.prog Try.f65 = some F65 := by kernel_rfl
theorem c66 : cFn Try.prog Try.f66 = some F66 := by kernel_rfl
theorem c67 : cFn Try.prog Try.f67 = some F67 := by kernel_rfl
theorem c68 : cFn Try.prog Try.f68 = some F68 := by kernel_rfl
theorem c69 : cFn Try.prog Try.f69 = some F69 := by kernel_rfl
theorem fnsOk : FnsOk Try.prog xp := by
  intro f F h
  unfold xp at h
  split at h
  · obtain rfl := Option.some.inj h; exact ⟨_, Try.func3, c3⟩
  · obtain rfl := Option.some.inj h; exact ⟨_, Try.func4, c4⟩
  · obtain rfl := Option.some.inj h; exact ⟨_, Try.func5, c5⟩
  · obtain rfl := Option.some.inj h; exact ⟨_, Try.func6, c6⟩
  · obtain rfl := Option.some.inj h; exact ⟨_, Try.func7, c7⟩
  · obtain rfl := Option.some.inj h; exact ⟨_, Try.func8, c8⟩
  · obtain rfl := Option.some.inj h; exact ⟨_, Try.func9, c9⟩
  · obtain rfl := Option.some.inj h; exact ⟨_, Try.func10, c10⟩
  · obtain rfl := Option.some.inj h; exact ⟨_, Try.func11, c11⟩
  · obtain rfl := Option.some.inj h; exact ⟨_, Try.func12, c12⟩
  · obtain rfl := Option.some.inj h; exact ⟨_, Try.func13, c13⟩
  · obtain rfl := Option.some.inj h; exact ⟨_, Try.func14, c14⟩
  · obtain rfl := Option.some.inj h; exact ⟨_, Try.func15, c15⟩
  · obtain rfl := Option.some.inj h; exact ⟨_, Try.func16, c16⟩
  · obtain rfl := Option.some.inj h; exact ⟨_, Try.func17, c17⟩
  · obtain rfl := Option.some.inj h; exact ⟨_, Try.func18, c18⟩
  · obtain rfl := Option.some.inj h; exact ⟨_, Try.func19, c19⟩
  · obtain rfl := Option.some.inj h; exact ⟨_, Try.func20, c20⟩
  · obtain rfl := Option.some.inj h; exact ⟨_, Try.func21, c21⟩
  · obtain rfl := Option.some.inj h; exact ⟨_, Try.func22, c22⟩
  · obtain rfl := Option.some.inj h; exact ⟨_, Try.func23, c23⟩
  · obtain rfl := Option.some.inj h; exact ⟨_, Try.func24, c24⟩
  · obtain rfl := Option.some.inj h; exact ⟨_, Try.func25, c25⟩
  · obtain rfl := Option.some.inj h; exact ⟨_, Try.func26, c26⟩
  · obtain rfl := Option.some.inj h; exact ⟨_, Try.func27, c27⟩
  · obtain rfl := Option.some.inj h; exact ⟨_, Try.func28, c28⟩
  · obtain rfl := Option.some.inj h; exact ⟨_, Try.func29, c29⟩
  · obtain rfl := Option.some.inj h; exact ⟨_, Try.func30, c30⟩
  · obtain rfl := Option.some.inj h; exact ⟨_, Try.func31, c31⟩
  · obtain rfl := Option.some.inj h; exact ⟨_, Try.func32, c32⟩
  · obtain rfl := Option.some.inj h; exact ⟨_, Try.func33, c33⟩
  · obtain rfl := Option.some.inj h; exact ⟨_, Try.func34, c34⟩
  · obtain rfl := Option.some.inj h; exact ⟨_, Try.func35, c35⟩
  · obtain rfl := Option.some.inj h; exact ⟨_, Try.func36, c36⟩
  · obtain rfl := Option.some.inj h; exact ⟨_, Try.func37, c37⟩
  · obtain rfl := Option.some.inj h; exact ⟨_, Try.func38, c38⟩
  · obtain rfl := Option.some.inj h; exact ⟨_, Try.func39, c39⟩
  · obtain rfl := Option.some.inj h; exact ⟨_, Try.func40, c40⟩
  · obtain rfl := Option.some.inj h; exact ⟨_, Try.func41, c41⟩
  · obtain rfl := Option.some.inj h; exact ⟨_, Try.func42, c42⟩
  · obtain rfl := Option.some.inj h; exact ⟨_, Try.func43, c43⟩
  · obtain rfl := Option.some.inj h; exact ⟨_, Try.func44, c44⟩
  · obtain rfl := Option.some.inj h; exact ⟨_, Try.func45, c45⟩
  · obtain rfl := Option.some.inj h; exact ⟨_, Try.func46, c46⟩
  · obtain rfl := Option.some.inj h; exact ⟨_, Try.func47, c47⟩
  · obtain rfl := Option.some.inj h; exact ⟨_, Try.func48, c48⟩
  · obtain rfl := Option.some.inj h; exact ⟨_, Try.func49, c49⟩
  · obtain rfl := Option.some.inj h; exact ⟨_, Try.func50, c50⟩
  · obtain rfl := Option.some.inj h; exact ⟨_, Try.func51, c51⟩
  · obtain rfl := Option.some.inj h; exact ⟨_, Try.func52, c52⟩
  · obtain rfl := Option.some.inj h; exact ⟨_, Try.func53, c53⟩
  · obtain rfl := Option.some.inj h; exact ⟨_, Try.func54, c54⟩
  · obtain rfl := Option.some.inj h; exact ⟨_, Try.func55, c55⟩
  · obtain rfl := Option.some.inj h; exact ⟨_, Try.func56, c56⟩
  · obtain rfl := Option.some.inj h; exact ⟨_, Try.func57, c57⟩
  · obtain rfl := Option.some.inj h; exact ⟨_, Try.func58, c58⟩
  · obtain rfl := Option.some.inj h; exact ⟨_, Try.func59, c59⟩
  · obtain rfl := Option.some.inj h; exact ⟨_, Try.func60, c60⟩
  · obtain rfl := Option.some.inj h; exact ⟨_, Try.func61, c61⟩
  · obtain rfl := Option.some.inj h; exact ⟨_, Try.func62, c62⟩
  · obtain rfl := Option.some.inj h; exact ⟨_, Try.func63, c63⟩
  · obtain rfl := Option.some.inj h; exact ⟨_, Try.func64, c64⟩
  · obtain rfl := Option.some.inj h; exact ⟨_, Try.func65, c65⟩
  · obtain rfl := Option.some.inj h; exact ⟨_, Try.func66, c66⟩
  · obtain rfl := Option.some.inj h; exact ⟨_, Try.func67, c67⟩
  · obtain rfl := Option.some.inj h; exact ⟨_, Try.func68, c68⟩
  · obtain rfl := Option.some.inj h; exact ⟨_, Try.func69, c69⟩
  · cases h
theorem LN : (((((((((8 * List.length R3_0 = 8) ∧ (8 * List.length R3_1 = 16)) ∧ ((8 * List.length R3_2 = 8) ∧ (8 * List.length R3_3 = 24))) ∧ (((8 * List.length R3_4 = 8) ∧ (8 * List.length R3_5 = 280)) ∧ ((8 * List.length R4_0 = 8) ∧ (8 * List.length R4_1 = 16)))) ∧ ((((8 * List.length R4_2 = 8) ∧ (8 * List.length R4_3 = 120)) ∧ ((8 * List.length R5_0 = 8) ∧ (8 * List.length R5_1 = 16))) ∧ (((8 *
    List.length R5_2 = 8) ∧ (8 * List.length R5_3 = 88)) ∧ ((8 * List.length R6_0 = 16) ∧ (8 * List.length R6_1 = 16))))) ∧ (((((8 * List.length R6_2 = 8) ∧ (8 * List.length R6_3 = 24)) ∧ ((8 * List.length R6_4 = 8) ∧ (8 * List.length R6_5 = 256))) ∧ (((8 * List.length R6_6 = 8) ∧ (8 * List.length R6_7 = 24)) ∧ ((8 * List.length R6_8 = 8) ∧ (8 * List.length R6_9 = 32)))) ∧ ((((8 * List.length R6_10
    = 112) ∧ (8 * List.length R6_11 = 8)) ∧ ((8 * List.length R6_12 = 24) ∧ (8 * List.length R6_13 = 192))) ∧ (((8 * List.length R7_0 = 8) ∧ (8 * List.length R7_1 = 16)) ∧ ((8 * List.length R7_2 = 8) ∧ (8 * List.length R7_3 = 24)))))) ∧ ((((((8 * List.length R7_4 = 8) ∧ (8 * List.length R7_5 = 80)) ∧ ((8 * List.length R7_6 = 64) ∧ (8 * List.length R7_7 = 8))) ∧ (((8 * List.length R7_8 = 32) ∧ (8 *
    List.length R7_9 = 16)) ∧ ((8 * List.length R7_10 = 32) ∧ (8 * List.length R7_11 = 8)))) ∧ ((((8 * List.length R7_12 = 32) ∧ (8 * List.length R7_13 = 56)) ∧ ((8 * List.length R7_14 = 96) ∧ (8 * List.length R7_15 = 24))) ∧ (((8 * List.length R7_16 = 24) ∧ (8 * List.length R8_0 = 16)) ∧ ((8 * List.length R8_1 = 16) ∧ (8 * List.length R8_2 = 8))))) ∧ (((((8 * List.length R8_3 = 24) ∧ (8 *
    List.length R8_4 = 8)) ∧ ((8 * List.length R8_5 = 224) ∧ (8 * List.length R8_6 = 8))) ∧ (((8 * List.length R8_7 = 88) ∧ (8 * List.length R8_8 = 88)) ∧ ((8 * List.length R8_9 = 120) ∧ (8 * List.length R9_0 = 16)))) ∧ ((((8 * List.length R9_1 = 16) ∧ (8 * List.length R9_2 = 8)) ∧ ((8 * List.length R9_3 = 24) ∧ (8 * List.length R9_4 = 8))) ∧ (((8 * List.length R9_5 = 96) ∧ (8 * List.length R9_6 =
    96)) ∧ ((8 * List.length R9_7 = 72) ∧ (8 * List.length R9_8 = 8))))))) ∧ (((((((8 * List.length R9_9 = 64) ∧ (8 * List.length R9_10 = 40)) ∧ ((8 * List.length R9_11 = 8) ∧ (8 * List.length R9_12 = 8))) ∧ (((8 * List.length R9_13 = 32) ∧ (8 * List.length R9_14 = 72)) ∧ ((8 * List.length R9_15 = 8) ∧ (8 * List.length R9_16 = 24)))) ∧ ((((8 * List.length R9_17 = 8) ∧ (8 * List.length R10_0 = 8)) ∧
    ((8 * List.length R10_1 = 80) ∧ (8 * List.length R10_2 = 160))) ∧ (((8 * List.length R10_3 = 8) ∧ (8 * List.length R10_4 = 160)) ∧ ((8 * List.length R10_5 = 8) ∧ (8 * List.length R10_6 = 40))))) ∧ (((((8 * List.length R10_7 = 32) ∧ (8 * List.length R10_8 = 48)) ∧ ((8 * List.length R10_9 = 32) ∧ (8 * List.length R10_10 = 376))) ∧ (((8 * List.length R11_0 = 8) ∧ (8 * List.length R11_1 = 24)) ∧
    ((8 * List.length R11_2 = 8) ∧ (8 * List.length R11_3 = 8)))) ∧ ((((8 * List.length R11_4 = 32) ∧ (8 * List.length R11_5 = 56)) ∧ ((8 * List.length R11_6 = 8) ∧ (8 * List.length R11_7 = 24))) ∧ (((8 * List.length R11_8 = 8) ∧ (8 * List.length R12_0 = 8)) ∧ ((8 * List.length R12_1 = 120) ∧ (8 * List.length R13_0 = 8)))))) ∧ ((((((8 * List.length R13_1 = 120) ∧ (8 * List.length R14_0 = 8)) ∧ ((8
    * List.length R14_1 = 72) ∧ (8 * List.length R14_2 = 48))) ∧ (((8 * List.length R15_0 = 8) ∧ (8 * List.length R15_1 = 72)) ∧ ((8 * List.length R15_2 = 48) ∧ (8 * List.length R16_0 = 8)))) ∧ ((((8 * List.length R16_1 = 32) ∧ (8 * List.length R17_0 = 16)) ∧ ((8 * List.length R17_1 = 8) ∧ (8 * List.length R17_2 = 48))) ∧ (((8 * List.length R17_3 = 16) ∧ (8 * List.length R17_4 = 24)) ∧ ((8 *
    List.length R17_5 = 8) ∧ (8 * List.length R17_6 = 32))))) ∧ (((((8 * List.length R17_7 = 48) ∧ (8 * List.length R17_8 = 24)) ∧ ((8 * List.length R17_9 = 16) ∧ (8 * List.length R18_0 = 8))) ∧ (((8 * List.length R18_1 = 72) ∧ (8 * List.length R18_2 = 16)) ∧ ((8 * List.length R18_3 = 8) ∧ (8 * List.length R18_4 = 8)))) ∧ ((((8 * List.length R18_5 = 8) ∧ (8 * List.length R18_6 = 32)) ∧ ((8 *
    List.length R18_7 = 16) ∧ (8 * List.length R18_8 = 88))) ∧ (((8 * List.length R18_9 = 8) ∧ (8 * List.length R18_10 = 64)) ∧ ((8 * List.length R18_11 = 136) ∧ ((8 * List.length R18_12 = 72) ∧ (8 * List.length R18_13 = 24))))))))) ∧ ((((((((8 * List.length R18_14 = 24) ∧ (8 * List.length R18_15 = 16)) ∧ ((8 * List.length R19_0 = 8) ∧ (8 * List.length R19_1 = 88))) ∧ (((8 * List.length R20_0 = 8)
    ∧ (8 * List.length R20_1 = 88)) ∧ ((8 * List.length R21_0 = 8) ∧ (8 * List.length R21_1 = 72)))) ∧ ((((8 * List.length R21_2 = 72) ∧ (8 * List.length R21_3 = 96)) ∧ ((8 * List.length R21_4 = 8) ∧ (8 * List.length R21_5 = 120))) ∧ (((8 * List.length R22_0 = 8) ∧ (8 * List.length R22_1 = 96)) ∧ ((8 * List.length R22_2 = 8) ∧ (8 * List.length R22_3 = 72))))) ∧ (((((8 * List.length R22_4 = 72) ∧ (8
    * List.length R22_5 = 144)) ∧ ((8 * List.length R23_0 = 8) ∧ (8 * List.length R23_1 = 40))) ∧ (((8 * List.length R23_2 = 8) ∧ (8 * List.length R23_3 = 8)) ∧ ((8 * List.length R23_4 = 32) ∧ (8 * List.length R23_5 = 72)))) ∧ ((((8 * List.length R23_6 = 8) ∧ (8 * List.length R23_7 = 24)) ∧ ((8 * List.length R23_8 = 8) ∧ (8 * List.length R24_0 = 8))) ∧ (((8 * List.length R24_1 = 8) ∧ (8 *
    List.length R24_2 = 24)) ∧ ((8 * List.length R24_3 = 8) ∧ (8 * List.length R24_4 = 32)))))) ∧ ((((((8 * List.length R24_5 = 8) ∧ (8 * List.length R24_6 = 32)) ∧ ((8 * List.length R24_7 = 8) ∧ (8 * List.length R24_8 = 32))) ∧ (((8 * List.length R24_9 = 8) ∧ (8 * List.length R24_10 = 32)) ∧ ((8 * List.length R24_11 = 8) ∧ (8 * List.length R24_12 = 16)))) ∧ ((((8 * List.length R24_13 = 80) ∧ (8 *
    List.length R24_14 = 16)) ∧ ((8 * List.length R24_15 = 16) ∧ (8 * List.length R25_0 = 8))) ∧ (((8 * List.length R25_1 = 8) ∧ (8 * List.length R25_2 = 8)) ∧ ((8 * List.length R25_3 = 32) ∧ (8 * List.length R25_4 = 8))))) ∧ (((((8 * List.length R25_5 = 48) ∧ (8 * List.length R25_6 = 8)) ∧ ((8 * List.length R25_7 = 48) ∧ (8 * List.length R25_8 = 8))) ∧ (((8 * List.length R25_9 = 48) ∧ (8 *
    List.length R25_10 = 8)) ∧ ((8 * List.length R25_11 = 16) ∧ (8 * List.length R25_12 = 128)))) ∧ ((((8 * List.length R25_13 = 24) ∧ (8 * List.length R25_14 = 16)) ∧ ((8 * List.length R26_0 = 16) ∧ (8 * List.length R26_1 = 64))) ∧ (((8 * List.length R26_2 = 8) ∧ (8 * List.length R26_3 = 24)) ∧ ((8 * List.length R26_4 = 80) ∧ (8 * List.length R26_5 = 8))))))) ∧ (((((((8 * List.length R26_6 = 24) ∧
    (8 * List.length R26_7 = 16)) ∧ ((8 * List.length R26_8 = 24) ∧ (8 * List.length R27_0 = 8))) ∧ (((8 * List.length R27_1 = 48) ∧ (8 * List.length R28_0 = 8)) ∧ ((8 * List.length R28_1 = 8) ∧ (8 * List.length R28_2 = 32)))) ∧ ((((8 * List.length R28_3 = 56) ∧ (8 * List.length R28_4 = 112)) ∧ ((8 * List.length R28_5 = 8) ∧ (8 * List.length R28_6 = 8))) ∧ (((8 * List.length R28_7 = 32) ∧ (8 *
    List.length R28_8 = 296)) ∧ ((8 * List.length R28_9 = 8) ∧ (8 * List.length R28_10 = 24))))) ∧ (((((8 * List.length R28_11 = 8) ∧ (8 * List.length R28_12 = 24)) ∧ ((8 * List.length R28_13 = 8) ∧ (8 * List.length R29_0 = 8))) ∧ (((8 * List.length R29_1 = 8) ∧ (8 * List.length R29_2 = 32)) ∧ ((8 * List.length R29_3 = 128) ∧ (8 * List.length R29_4 = 8)))) ∧ ((((8 * List.length R29_5 = 24) ∧ (8 *
    List.length R29_6 = 8)) ∧ ((8 * List.length R30_0 = 16) ∧ (8 * List.length R30_1 = 72))) ∧ (((8 * List.length R30_2 = 16) ∧ (8 * List.length R30_3 = 24)) ∧ ((8 * List.length R30_4 = 80) ∧ (8 * List.length R30_5 = 8)))))) ∧ ((((((8 * List.length R30_6 = 24) ∧ (8 * List.length R30_7 = 32)) ∧ ((8 * List.length R30_8 = 8) ∧ (8 * List.length R30_9 = 32))) ∧ (((8 * List.length R30_10 = 104) ∧ (8 *
    List.length R30_11 = 8)) ∧ ((8 * List.length R30_12 = 24) ∧ (8 * List.length R30_13 = 24)))) ∧ ((((8 * List.length R30_14 = 24) ∧ (8 * List.length R31_0 = 24)) ∧ ((8 * List.length R31_1 = 608) ∧ (8 * List.length R32_0 = 8))) ∧ (((8 * List.length R32_1 = 72) ∧ (8 * List.length R32_2 = 16)) ∧ ((8 * List.length R32_3 = 8) ∧ (8 * List.length R32_4 = 72))))) ∧ (((((8 * List.length R32_5 = 16) ∧ (8 *
    List.length R32_6 = 8)) ∧ ((8 * List.length R32_7 = 8) ∧ (8 * List.length R32_8 = 32))) ∧ (((8 * List.length R32_9 = 8) ∧ (8 * List.length R32_10 = 24)) ∧ ((8 * List.length R32_11 = 96) ∧ (8 * List.length R32_12 = 104)))) ∧ ((((8 * List.length R32_13 = 48) ∧ (8 * List.length R32_14 = 16)) ∧ ((8 * List.length R32_15 = 16) ∧ (8 * List.length R33_0 = 8))) ∧ (((8 * List.length R33_1 = 72) ∧ (8 *
    List.length R33_2 = 72)) ∧ ((8 * List.length R33_3 = 8) ∧ ((8 * List.length R33_4 = 8) ∧ (8 * List.length R33_5 = 88)))))))))) ∧ (((((((((8 * List.length R33_6 = 128) ∧ (8 * List.length R33_7 = 8)) ∧ ((8 * List.length R33_8 = 8) ∧ (8 * List.length R33_9 = 32))) ∧ (((8 * List.length R33_10 = 88) ∧ (8 * List.length R33_11 = 24)) ∧ ((8 * List.length R33_12 = 80) ∧ (8 * List.length R33_13 = 48))))
    ∧ ((((8 * List.length R33_14 = 24) ∧ (8 * List.length R33_15 = 16)) ∧ ((8 * List.length R34_0 = 8) ∧ (8 * List.length R34_1 = 72))) ∧ (((8 * List.length R35_0 = 16) ∧ (8 * List.length R35_1 = 72)) ∧ ((8 * List.length R35_2 = 56) ∧ (8 * List.length R35_3 = 24))))) ∧ (((((8 * List.length R35_4 = 24) ∧ (8 * List.length R36_0 = 16)) ∧ ((8 * List.length R36_1 = 8) ∧ (8 * List.length R36_2 = 32))) ∧
    (((8 * List.length R36_3 = 56) ∧ (8 * List.length R36_4 = 160)) ∧ ((8 * List.length R36_5 = 24) ∧ (8 * List.length R36_6 = 24)))) ∧ ((((8 * List.length R37_0 = 8) ∧ (8 * List.length R37_1 = 40)) ∧ ((8 * List.length R37_2 = 8) ∧ (8 * List.length R37_3 = 8))) ∧ (((8 * List.length R37_4 = 32) ∧ (8 * List.length R37_5 = 72)) ∧ ((8 * List.length R37_6 = 8) ∧ (8 * List.length R37_7 = 24)))))) ∧
    ((((((8 * List.length R37_8 = 8) ∧ (8 * List.length R38_0 = 72)) ∧ ((8 * List.length R38_1 = 16) ∧ (8 * List.length R38_2 = 32))) ∧ (((8 * List.length R38_3 = 8) ∧ (8 * List.length R38_4 = 24)) ∧ ((8 * List.length R38_5 = 32) ∧ (8 * List.length R38_6 = 24)))) ∧ ((((8 * List.length R38_7 = 40) ∧ (8 * List.length R38_8 = 16)) ∧ ((8 * List.length R39_0 = 8) ∧ (8 * List.length R39_1 = 8))) ∧ (((8 *
    List.length R39_2 = 32) ∧ (8 * List.length R39_3 = 48)) ∧ ((8 * List.length R39_4 = 8) ∧ (8 * List.length R39_5 = 24))))) ∧ (((((8 * List.length R39_6 = 8) ∧ (8 * List.length R40_0 = 8)) ∧ ((8 * List.length R40_1 = 40) ∧ (8 * List.length R41_0 = 24))) ∧ (((8 * List.length R41_1 = 16) ∧ (8 * List.length R41_2 = 16)) ∧ ((8 * List.length R41_3 = 16) ∧ (8 * List.length R41_4 = 40)))) ∧ ((((8 *
    List.length R41_5 = 16) ∧ (8 * List.length R41_6 = 88)) ∧ ((8 * List.length R41_7 = 16) ∧ (8 * List.length R41_8 = 16))) ∧ (((8 * List.length R41_9 = 40) ∧ (8 * List.length R41_10 = 8)) ∧ ((8 * List.length R42_0 = 24) ∧ (8 * List.length R42_1 = 24))))))) ∧ (((((((8 * List.length R42_2 = 8) ∧ (8 * List.length R42_3 = 40)) ∧ ((8 * List.length R42_4 = 8) ∧ (8 * List.length R42_5 = 56))) ∧ (((8 *
    List.length R43_0 = 16) ∧ (8 * List.length R43_1 = 16)) ∧ ((8 * List.length R43_2 = 16) ∧ (8 * List.length R43_3 = 16)))) ∧ ((((8 * List.length R43_4 = 32) ∧ (8 * List.length R43_5 = 16)) ∧ ((8 * List.length R43_6 = 32) ∧ (8 * List.length R43_7 = 16))) ∧ (((8 * List.length R43_8 = 72) ∧ (8 * List.length R43_9 = 8)) ∧ ((8 * List.length R44_0 = 16) ∧ (8 * List.length R44_1 = 120))))) ∧ (((((8 *
    List.length R44_2 = 8) ∧ (8 * List.length R44_3 = 8)) ∧ ((8 * List.length R44_4 = 80) ∧ (8 * List.length R44_5 = 64))) ∧ (((8 * List.length R44_6 = 8) ∧ (8 * List.length R44_7 = 24)) ∧ ((8 * List.length R44_8 = 8) ∧ (8 * List.length R44_9 = 120)))) ∧ ((((8 * List.length R44_10 = 64) ∧ (8 * List.length R44_11 = 8)) ∧ ((8 * List.length R44_12 = 24) ∧ (8 * List.length R44_13 = 8))) ∧ (((8 *
    List.length R45_0 = 16) ∧ (8 * List.length R45_1 = 64)) ∧ ((8 * List.length R45_2 = 8) ∧ (8 * List.length R45_3 = 40)))))) ∧ ((((((8 * List.length R45_4 = 8) ∧ (8 * List.length R45_5 = 40)) ∧ ((8 * List.length R45_6 = 8) ∧ (8 * List.length R45_7 = 32))) ∧ (((8 * List.length R45_8 = 72) ∧ (8 * List.length R45_9 = 8)) ∧ ((8 * List.length R45_10 = 24) ∧ (8 * List.length R45_11 = 8)))) ∧ ((((8 *
    List.length R46_0 = 16) ∧ (8 * List.length R46_1 = 8)) ∧ ((8 * List.length R46_2 = 120) ∧ (8 * List.length R46_3 = 8))) ∧ (((8 * List.length R46_4 = 88) ∧ (8 * List.length R46_5 = 8)) ∧ ((8 * List.length R46_6 = 104) ∧ (8 * List.length R46_7 = 32))))) ∧ (((((8 * List.length R46_8 = 8) ∧ (8 * List.length R46_9 = 24)) ∧ ((8 * List.length R46_10 = 144) ∧ (8 * List.length R46_11 = 8))) ∧ (((8 *
    List.length R46_12 = 72) ∧ (8 * List.length R46_13 = 8)) ∧ ((8 * List.length R46_14 = 64) ∧ (8 * List.length R46_15 = 128)))) ∧ ((((8 * List.length R46_16 = 168) ∧ (8 * List.length R46_17 = 8)) ∧ ((8 * List.length R46_18 = 24) ∧ (8 * List.length R46_19 = 8))) ∧ (((8 * List.length R47_0 = 16) ∧ (8 * List.length R47_1 = 72)) ∧ ((8 * List.length R47_2 = 16) ∧ ((8 * List.length R47_3 = 24) ∧ (8 *
    List.length R47_4 = 24))))))))) ∧ ((((((((8 * List.length R47_5 = 8) ∧ (8 * List.length R47_6 = 32)) ∧ ((8 * List.length R47_7 = 176) ∧ (8 * List.length R47_8 = 24))) ∧ (((8 * List.length R47_9 = 16) ∧ (8 * List.length R47_10 = 24)) ∧ ((8 * List.length R48_0 = 8) ∧ (8 * List.length R48_1 = 8)))) ∧ ((((8 * List.length R48_2 = 8) ∧ (8 * List.length R48_3 = 32)) ∧ ((8 * List.length R48_4 = 32) ∧
    (8 * List.length R48_5 = 16))) ∧ (((8 * List.length R48_6 = 24) ∧ (8 * List.length R48_7 = 16)) ∧ ((8 * List.length R49_0 = 16) ∧ (8 * List.length R49_1 = 72))))) ∧ (((((8 * List.length R49_2 = 8) ∧ (8 * List.length R49_3 = 56)) ∧ ((8 * List.length R49_4 = 48) ∧ (8 * List.length R49_5 = 176))) ∧ (((8 * List.length R49_6 = 24) ∧ (8 * List.length R49_7 = 24)) ∧ ((8 * List.length R49_8 = 24) ∧ (8
    * List.length R50_0 = 16)))) ∧ ((((8 * List.length R50_1 = 24) ∧ (8 * List.length R50_2 = 8)) ∧ ((8 * List.length R50_3 = 32) ∧ (8 * List.length R50_4 = 32))) ∧ (((8 * List.length R50_5 = 24) ∧ (8 * List.length R50_6 = 16)) ∧ ((8 * List.length R50_7 = 24) ∧ (8 * List.length R51_0 = 24)))))) ∧ ((((((8 * List.length R51_1 = 80) ∧ (8 * List.length R51_2 = 96)) ∧ ((8 * List.length R51_3 = 24) ∧ (8
    * List.length R51_4 = 24))) ∧ (((8 * List.length R52_0 = 8) ∧ (8 * List.length R52_1 = 48)) ∧ ((8 * List.length R53_0 = 8) ∧ (8 * List.length R53_1 = 40)))) ∧ ((((8 * List.length R54_0 = 16) ∧ (8 * List.length R54_1 = 8)) ∧ ((8 * List.length R54_2 = 32) ∧ (8 * List.length R54_3 = 56))) ∧ (((8 * List.length R54_4 = 48) ∧ (8 * List.length R54_5 = 24)) ∧ ((8 * List.length R54_6 = 24) ∧ (8 *
    List.length R55_0 = 24))))) ∧ (((((8 * List.length R55_1 = 80) ∧ (8 * List.length R55_2 = 152)) ∧ ((8 * List.length R56_0 = 16) ∧ (8 * List.length R56_1 = 24))) ∧ (((8 * List.length R56_2 = 8) ∧ (8 * List.length R56_3 = 32)) ∧ ((8 * List.length R56_4 = 32) ∧ (8 * List.length R56_5 = 24)))) ∧ ((((8 * List.length R56_6 = 16) ∧ (8 * List.length R56_7 = 24)) ∧ ((8 * List.length R57_0 = 16) ∧ (8 *
    List.length R57_1 = 72))) ∧ (((8 * List.length R58_0 = 8) ∧ (8 * List.length R58_1 = 24)) ∧ ((8 * List.length R58_2 = 8) ∧ (8 * List.length R58_3 = 16))))))) ∧ (((((((8 * List.length R58_4 = 48) ∧ (8 * List.length R58_5 = 16)) ∧ ((8 * List.length R58_6 = 16) ∧ (8 * List.length R58_7 = 8))) ∧ (((8 * List.length R59_0 = 8) ∧ (8 * List.length R59_1 = 40)) ∧ ((8 * List.length R60_0 = 8) ∧ (8 *
    List.length R60_1 = 40)))) ∧ ((((8 * List.length R61_0 = 8) ∧ (8 * List.length R61_1 = 56)) ∧ ((8 * List.length R62_0 = 16) ∧ (8 * List.length R62_1 = 32))) ∧ (((8 * List.length R62_2 = 8) ∧ (8 * List.length R62_3 = 40)) ∧ ((8 * List.length R62_4 = 72) ∧ (8 * List.length R62_5 = 8))))) ∧ (((((8 * List.length R62_6 = 88) ∧ (8 * List.length R62_7 = 8)) ∧ ((8 * List.length R62_8 = 64) ∧ (8 *
    List.length R62_9 = 8))) ∧ (((8 * List.length R62_10 = 16) ∧ (8 * List.length R62_11 = 8)) ∧ ((8 * List.length R63_0 = 24) ∧ (8 * List.length R63_1 = 72)))) ∧ ((((8 * List.length R63_2 = 16) ∧ (8 * List.length R63_3 = 8)) ∧ ((8 * List.length R63_4 = 40) ∧ (8 * List.length R64_0 = 8))) ∧ (((8 * List.length R64_1 = 32) ∧ (8 * List.length R65_0 = 8)) ∧ ((8 * List.length R65_1 = 24) ∧ (8 *
    List.length R65_2 = 8)))))) ∧ ((((((8 * List.length R65_3 = 16) ∧ (8 * List.length R65_4 = 48)) ∧ ((8 * List.length R65_5 = 16) ∧ (8 * List.length R65_6 = 16))) ∧ (((8 * List.length R65_7 = 8) ∧ (8 * List.length R66_0 = 8)) ∧ ((8 * List.length R66_1 = 24) ∧ (8 * List.length R66_2 = 8)))) ∧ ((((8 * List.length R66_3 = 16) ∧ (8 * List.length R66_4 = 48)) ∧ ((8 * List.length R66_5 = 16) ∧ (8 *
    List.length R66_6 = 16))) ∧ (((8 * List.length R66_7 = 8) ∧ (8 * List.length R67_0 = 8)) ∧ ((8 * List.length R67_1 = 96) ∧ (8 * List.length R67_2 = 176))))) ∧ (((((8 * List.length R68_0 = 8) ∧ (8 * List.length R68_1 = 40)) ∧ ((8 * List.length R68_2 = 8) ∧ (8 * List.length R68_3 = 24))) ∧ (((8 * List.length R68_4 = 8) ∧ (8 * List.length R68_5 = 16)) ∧ ((8 * List.length R68_6 = 72) ∧ (8 *
    List.length R68_7 = 8)))) ∧ ((((8 * List.length R68_8 = 16) ∧ (8 * List.length R68_9 = 8)) ∧ ((8 * List.length R69_0 = 8) ∧ (8 * List.length R69_1 = 32))) ∧ (((8 * List.length R69_2 = 16) ∧ (8 * List.length R69_3 = 40)) ∧ ((8 * List.length R69_4 = 16) ∧ ((8 * List.length R69_5 = 24) ∧ (8 * List.length R69_6 = 8)))))))))) := ⟨⟨⟨⟨⟨⟨⟨⟨⟨rfl, rfl⟩, ⟨rfl, rfl⟩⟩, ⟨⟨rfl, rfl⟩, ⟨rfl, rfl⟩⟩⟩, ⟨⟨⟨rfl,
    rfl⟩, ⟨rfl, rfl⟩⟩, ⟨⟨rfl, rfl⟩, ⟨rfl, rfl⟩⟩⟩⟩, ⟨⟨⟨⟨rfl, rfl⟩, ⟨rfl, rfl⟩⟩, ⟨⟨rfl, rfl⟩, ⟨rfl, rfl⟩⟩⟩, ⟨⟨⟨rfl, rfl⟩, ⟨rfl, rfl⟩⟩, ⟨⟨rfl, rfl⟩, ⟨rfl, rfl⟩⟩⟩⟩⟩, ⟨⟨⟨⟨⟨rfl, rfl⟩, ⟨rfl, rfl⟩⟩, ⟨⟨rfl, rfl⟩, ⟨rfl, rfl⟩⟩⟩, ⟨⟨⟨rfl, rfl⟩, ⟨rfl, rfl⟩⟩, ⟨⟨rfl, rfl⟩, ⟨rfl, rfl⟩⟩⟩⟩, ⟨⟨⟨⟨rfl, rfl⟩, ⟨rfl, rfl⟩⟩, ⟨⟨rfl, rfl⟩, ⟨rfl, rfl⟩⟩⟩, ⟨⟨⟨rfl, rfl⟩, ⟨rfl, rfl⟩⟩, ⟨⟨rfl, rfl⟩, ⟨rfl, rfl⟩⟩⟩⟩⟩⟩, ⟨⟨⟨⟨⟨⟨rfl, rfl⟩,
    ⟨rfl, rfl⟩⟩, ⟨⟨rfl, rfl⟩, ⟨rfl, rfl⟩⟩⟩, ⟨⟨⟨rfl, rfl⟩, ⟨rfl, rfl⟩⟩, ⟨⟨rfl, rfl⟩, ⟨rfl, rfl⟩⟩⟩⟩, ⟨⟨⟨⟨rfl, rfl⟩, ⟨rfl, rfl⟩⟩, ⟨⟨rfl, rfl⟩, ⟨rfl, rfl⟩⟩⟩, ⟨⟨⟨rfl, rfl⟩, ⟨rfl, rfl⟩⟩, ⟨⟨rfl, rfl⟩, ⟨rfl, rfl⟩⟩⟩⟩⟩, ⟨⟨⟨⟨⟨rfl, rfl⟩, ⟨rfl, rfl⟩⟩, ⟨⟨rfl, rfl⟩, ⟨rfl, rfl⟩⟩⟩, ⟨⟨⟨rfl, rfl⟩, ⟨rfl, rfl⟩⟩, ⟨⟨rfl, rfl⟩, ⟨rfl, rfl⟩⟩⟩⟩, ⟨⟨⟨⟨rfl, rfl⟩, ⟨rfl, rfl⟩⟩, ⟨⟨rfl, rfl⟩, ⟨rfl, rfl⟩⟩⟩, ⟨⟨⟨rfl, rfl⟩, ⟨rfl,
    rfl⟩⟩, ⟨⟨rfl, rfl⟩, ⟨rfl, ⟨rfl, rfl⟩⟩⟩⟩⟩⟩⟩⟩, ⟨⟨⟨⟨⟨⟨⟨rfl, rfl⟩, ⟨rfl, rfl⟩⟩, ⟨⟨rfl, rfl⟩, ⟨rfl, rfl⟩⟩⟩, ⟨⟨⟨rfl, rfl⟩, ⟨rfl, rfl⟩⟩, ⟨⟨rfl, rfl⟩, ⟨rfl, rfl⟩⟩⟩⟩, ⟨⟨⟨⟨rfl, rfl⟩, ⟨rfl, rfl⟩⟩, ⟨⟨rfl, rfl⟩, ⟨rfl, rfl⟩⟩⟩, ⟨⟨⟨rfl, rfl⟩, ⟨rfl, rfl⟩⟩, ⟨⟨rfl, rfl⟩, ⟨rfl, rfl⟩⟩⟩⟩⟩, ⟨⟨⟨⟨⟨rfl, rfl⟩, ⟨rfl, rfl⟩⟩, ⟨⟨rfl, rfl⟩, ⟨rfl, rfl⟩⟩⟩, ⟨⟨⟨rfl, rfl⟩, ⟨rfl, rfl⟩⟩, ⟨⟨rfl, rfl⟩, ⟨rfl, rfl⟩⟩⟩⟩, ⟨⟨⟨⟨rfl, rfl⟩,
    ⟨rfl, rfl⟩⟩, ⟨⟨rfl, rfl⟩, ⟨rfl, rfl⟩⟩⟩, ⟨⟨⟨rfl, rfl⟩, ⟨rfl, rfl⟩⟩, ⟨⟨rfl, rfl⟩, ⟨rfl, rfl⟩⟩⟩⟩⟩⟩, ⟨⟨⟨⟨⟨⟨rfl, rfl⟩, ⟨rfl, rfl⟩⟩, ⟨⟨rfl, rfl⟩, ⟨rfl, rfl⟩⟩⟩, ⟨⟨⟨rfl, rfl⟩, ⟨rfl, rfl⟩⟩, ⟨⟨rfl, rfl⟩, ⟨rfl, rfl⟩⟩⟩⟩, ⟨⟨⟨⟨rfl, rfl⟩, ⟨rfl, rfl⟩⟩, ⟨⟨rfl, rfl⟩, ⟨rfl, rfl⟩⟩⟩, ⟨⟨⟨rfl, rfl⟩, ⟨rfl, rfl⟩⟩, ⟨⟨rfl, rfl⟩, ⟨rfl, rfl⟩⟩⟩⟩⟩, ⟨⟨⟨⟨⟨rfl, rfl⟩, ⟨rfl, rfl⟩⟩, ⟨⟨rfl, rfl⟩, ⟨rfl, rfl⟩⟩⟩, ⟨⟨⟨rfl, rfl⟩, ⟨rfl,
    rfl⟩⟩, ⟨⟨rfl, rfl⟩, ⟨rfl, rfl⟩⟩⟩⟩, ⟨⟨⟨⟨rfl, rfl⟩, ⟨rfl, rfl⟩⟩, ⟨⟨rfl, rfl⟩, ⟨rfl, rfl⟩⟩⟩, ⟨⟨⟨rfl, rfl⟩, ⟨rfl, rfl⟩⟩, ⟨⟨rfl, rfl⟩, ⟨rfl, ⟨rfl, rfl⟩⟩⟩⟩⟩⟩⟩⟩⟩, ⟨⟨⟨⟨⟨⟨⟨⟨rfl, rfl⟩, ⟨rfl, rfl⟩⟩, ⟨⟨rfl, rfl⟩, ⟨rfl, rfl⟩⟩⟩, ⟨⟨⟨rfl, rfl⟩, ⟨rfl, rfl⟩⟩, ⟨⟨rfl, rfl⟩, ⟨rfl, rfl⟩⟩⟩⟩, ⟨⟨⟨⟨rfl, rfl⟩, ⟨rfl, rfl⟩⟩, ⟨⟨rfl, rfl⟩, ⟨rfl, rfl⟩⟩⟩, ⟨⟨⟨rfl, rfl⟩, ⟨rfl, rfl⟩⟩, ⟨⟨rfl, rfl⟩, ⟨rfl, rfl⟩⟩⟩⟩⟩, ⟨⟨⟨⟨⟨rfl, rfl⟩,
    ⟨rfl, rfl⟩⟩, ⟨⟨rfl, rfl⟩, ⟨rfl, rfl⟩⟩⟩, ⟨⟨⟨rfl, rfl⟩, ⟨rfl, rfl⟩⟩, ⟨⟨rfl, rfl⟩, ⟨rfl, rfl⟩⟩⟩⟩, ⟨⟨⟨⟨rfl, rfl⟩, ⟨rfl, rfl⟩⟩, ⟨⟨rfl, rfl⟩, ⟨rfl, rfl⟩⟩⟩, ⟨⟨⟨rfl, rfl⟩, ⟨rfl, rfl⟩⟩, ⟨⟨rfl, rfl⟩, ⟨rfl, rfl⟩⟩⟩⟩⟩⟩, ⟨⟨⟨⟨⟨⟨rfl, rfl⟩, ⟨rfl, rfl⟩⟩, ⟨⟨rfl, rfl⟩, ⟨rfl, rfl⟩⟩⟩, ⟨⟨⟨rfl, rfl⟩, ⟨rfl, rfl⟩⟩, ⟨⟨rfl, rfl⟩, ⟨rfl, rfl⟩⟩⟩⟩, ⟨⟨⟨⟨rfl, rfl⟩, ⟨rfl, rfl⟩⟩, ⟨⟨rfl, rfl⟩, ⟨rfl, rfl⟩⟩⟩, ⟨⟨⟨rfl, rfl⟩, ⟨rfl,
    rfl⟩⟩, ⟨⟨rfl, rfl⟩, ⟨rfl, rfl⟩⟩⟩⟩⟩, ⟨⟨⟨⟨⟨rfl, rfl⟩, ⟨rfl, rfl⟩⟩, ⟨⟨rfl, rfl⟩, ⟨rfl, rfl⟩⟩⟩, ⟨⟨⟨rfl, rfl⟩, ⟨rfl, rfl⟩⟩, ⟨⟨rfl, rfl⟩, ⟨rfl, rfl⟩⟩⟩⟩, ⟨⟨⟨⟨rfl, rfl⟩, ⟨rfl, rfl⟩⟩, ⟨⟨rfl, rfl⟩, ⟨rfl, rfl⟩⟩⟩, ⟨⟨⟨rfl, rfl⟩, ⟨rfl, rfl⟩⟩, ⟨⟨rfl, rfl⟩, ⟨rfl, ⟨rfl, rfl⟩⟩⟩⟩⟩⟩⟩⟩, ⟨⟨⟨⟨⟨⟨⟨rfl, rfl⟩, ⟨rfl, rfl⟩⟩, ⟨⟨rfl, rfl⟩, ⟨rfl, rfl⟩⟩⟩, ⟨⟨⟨rfl, rfl⟩, ⟨rfl, rfl⟩⟩, ⟨⟨rfl, rfl⟩, ⟨rfl, rfl⟩⟩⟩⟩, ⟨⟨⟨⟨rfl, rfl⟩,
    ⟨rfl, rfl⟩⟩, ⟨⟨rfl, rfl⟩, ⟨rfl, rfl⟩⟩⟩, ⟨⟨⟨rfl, rfl⟩, ⟨rfl, rfl⟩⟩, ⟨⟨rfl, rfl⟩, ⟨rfl, rfl⟩⟩⟩⟩⟩, ⟨⟨⟨⟨⟨rfl, rfl⟩, ⟨rfl, rfl⟩⟩, ⟨⟨rfl, rfl⟩, ⟨rfl, rfl⟩⟩⟩, ⟨⟨⟨rfl, rfl⟩, ⟨rfl, rfl⟩⟩, ⟨⟨rfl, rfl⟩, ⟨rfl, rfl⟩⟩⟩⟩, ⟨⟨⟨⟨rfl, rfl⟩, ⟨rfl, rfl⟩⟩, ⟨⟨rfl, rfl⟩, ⟨rfl, rfl⟩⟩⟩, ⟨⟨⟨rfl, rfl⟩, ⟨rfl, rfl⟩⟩, ⟨⟨rfl, rfl⟩, ⟨rfl, rfl⟩⟩⟩⟩⟩⟩, ⟨⟨⟨⟨⟨⟨rfl, rfl⟩, ⟨rfl, rfl⟩⟩, ⟨⟨rfl, rfl⟩, ⟨rfl, rfl⟩⟩⟩, ⟨⟨⟨rfl, rfl⟩, ⟨rfl,
    rfl⟩⟩, ⟨⟨rfl, rfl⟩, ⟨rfl, rfl⟩⟩⟩⟩, ⟨⟨⟨⟨rfl, rfl⟩, ⟨rfl, rfl⟩⟩, ⟨⟨rfl, rfl⟩, ⟨rfl, rfl⟩⟩⟩, ⟨⟨⟨rfl, rfl⟩, ⟨rfl, rfl⟩⟩, ⟨⟨rfl, rfl⟩, ⟨rfl, rfl⟩⟩⟩⟩⟩, ⟨⟨⟨⟨⟨rfl, rfl⟩, ⟨rfl, rfl⟩⟩, ⟨⟨rfl, rfl⟩, ⟨rfl, rfl⟩⟩⟩, ⟨⟨⟨rfl, rfl⟩, ⟨rfl, rfl⟩⟩, ⟨⟨rfl, rfl⟩, ⟨rfl, rfl⟩⟩⟩⟩, ⟨⟨⟨⟨rfl, rfl⟩, ⟨rfl, rfl⟩⟩, ⟨⟨rfl, rfl⟩, ⟨rfl, rfl⟩⟩⟩, ⟨⟨⟨rfl, rfl⟩, ⟨rfl, rfl⟩⟩, ⟨⟨rfl, rfl⟩, ⟨rfl, ⟨rfl, rfl⟩⟩⟩⟩⟩⟩⟩⟩⟩⟩
theorem RS : ((((((XF.res F3 = [(6, none)]) ∧ (XF.res F4 = [(6, none)])) ∧ ((XF.res F5 = [(2, none)]) ∧ (XF.res F6 = [(4, none)]))) ∧ (((XF.res F7 = [(6, none)]) ∧ (XF.res F8 = [(6, none)])) ∧ ((XF.res F9 = [(6, none)]) ∧ (XF.res F10 = [(0, none)])))) ∧ ((((XF.res F11 = [(2, none)]) ∧ (XF.res F12 = [(2, none)])) ∧ ((XF.res F13 = [(2, none)]) ∧ (XF.res F14 = [(4, none)]))) ∧ (((XF.res F15 = [(4,
    none)]) ∧ (XF.res F16 = [(4, none)])) ∧ ((XF.res F17 = [(4, none)]) ∧ (XF.res F18 = [(4, none)]))))) ∧ (((((XF.res F19 = [(6, none)]) ∧ (XF.res F20 = [(6, none)])) ∧ ((XF.res F21 = [(6, none)]) ∧ (XF.res F22 = [(6, none)]))) ∧ (((XF.res F23 = [(4, none)]) ∧ (XF.res F24 = [(2, none)])) ∧ ((XF.res F25 = [(2, none)]) ∧ (XF.res F26 = [(6, some (11, true)), (7, none)])))) ∧ ((((XF.res F27 = [(2,
    none)]) ∧ (XF.res F28 = [(6, none)])) ∧ ((XF.res F29 = [(6, none)]) ∧ (XF.res F30 = [(6, some (11, true)), (7, none)]))) ∧ (((XF.res F31 = [(4, none)]) ∧ (XF.res F32 = [(4, none)])) ∧ ((XF.res F33 = [(4, none)]) ∧ ((XF.res F34 = [(10, some (11, true))]) ∧ (XF.res F35 = [(4, some (11, true)), (5, none)]))))))) ∧ ((((((XF.res F36 = [(4, some (11, true)), (5, none)]) ∧ (XF.res F37 = [(4, none)]))
    ∧ ((XF.res F38 = []) ∧ (XF.res F39 = [(4, none)]))) ∧ (((XF.res F40 = [(4, none)]) ∧ (XF.res F41 = [(4, none)])) ∧ ((XF.res F42 = [(4, none)]) ∧ (XF.res F43 = [(4, none)])))) ∧ ((((XF.res F44 = [(4, none)]) ∧ (XF.res F45 = [(4, none)])) ∧ ((XF.res F46 = [(4, none)]) ∧ (XF.res F47 = [(6, some (11, true)), (7, none)]))) ∧ (((XF.res F48 = [(2, none)]) ∧ (XF.res F49 = [(6, some (11, true)), (7,
    none)])) ∧ ((XF.res F50 = [(4, some (11, true)), (5, none)]) ∧ ((XF.res F51 = [(4, some (11, true)), (5, none)]) ∧ (XF.res F52 = [(2, none)])))))) ∧ (((((XF.res F53 = [(4, none)]) ∧ (XF.res F54 = [(4, some (11, true)), (5, none)])) ∧ ((XF.res F55 = [(4, some (11, true)), (5, none)]) ∧ (XF.res F56 = [(4, some (11, true)), (5, none)]))) ∧ (((XF.res F57 = [(2, none)]) ∧ (XF.res F58 = [(4, none)]))
    ∧ ((XF.res F59 = [(3, none)]) ∧ (XF.res F60 = [(4, none)])))) ∧ ((((XF.res F61 = [(4, none)]) ∧ (XF.res F62 = [(4, none)])) ∧ ((XF.res F63 = [(4, none)]) ∧ (XF.res F64 = [(4, none)]))) ∧ (((XF.res F65 = [(4, none)]) ∧ (XF.res F66 = [(4, none)])) ∧ ((XF.res F67 = [(4, none)]) ∧ ((XF.res F68 = [(4, none)]) ∧ (XF.res F69 = [(4, none)]))))))) := ⟨⟨⟨⟨⟨⟨rfl, rfl⟩, ⟨rfl, rfl⟩⟩, ⟨⟨rfl, rfl⟩, ⟨rfl,
    rfl⟩⟩⟩, ⟨⟨⟨rfl, rfl⟩, ⟨rfl, rfl⟩⟩, ⟨⟨rfl, rfl⟩, ⟨rfl, rfl⟩⟩⟩⟩, ⟨⟨⟨⟨rfl, rfl⟩, ⟨rfl, rfl⟩⟩, ⟨⟨rfl, rfl⟩, ⟨rfl, rfl⟩⟩⟩, ⟨⟨⟨rfl, rfl⟩, ⟨rfl, rfl⟩⟩, ⟨⟨rfl, rfl⟩, ⟨rfl, ⟨rfl, rfl⟩⟩⟩⟩⟩⟩, ⟨⟨⟨⟨⟨rfl, rfl⟩, ⟨rfl, rfl⟩⟩, ⟨⟨rfl, rfl⟩, ⟨rfl, rfl⟩⟩⟩, ⟨⟨⟨rfl, rfl⟩, ⟨rfl, rfl⟩⟩, ⟨⟨rfl, rfl⟩, ⟨rfl, ⟨rfl, rfl⟩⟩⟩⟩⟩, ⟨⟨⟨⟨rfl, rfl⟩, ⟨rfl, rfl⟩⟩, ⟨⟨rfl, rfl⟩, ⟨rfl, rfl⟩⟩⟩, ⟨⟨⟨rfl, rfl⟩, ⟨rfl, rfl⟩⟩, ⟨⟨rfl, rfl⟩,
    ⟨rfl, ⟨rfl, rfl⟩⟩⟩⟩⟩⟩⟩
theorem NT : ((((((XF.nt F3 = 46) ∧ (XF.nt F4 = 23)) ∧ ((XF.nt F5 = 15) ∧ (XF.nt F6 = 89))) ∧ (((XF.nt F7 = 65) ∧ (XF.nt F8 = 74)) ∧ ((XF.nt F9 = 72) ∧ (XF.nt F10 = 116)))) ∧ ((((XF.nt F11 = 20) ∧ (XF.nt F12 = 17)) ∧ ((XF.nt F13 = 17) ∧ (XF.nt F14 = 18))) ∧ (((XF.nt F15 = 18) ∧ (XF.nt F16 = 8)) ∧ ((XF.nt F17 = 29) ∧ (XF.nt F18 = 71))))) ∧ (((((XF.nt F19 = 17) ∧ (XF.nt F20 = 17)) ∧ ((XF.nt F21 = 49)
    ∧ (XF.nt F22 = 52))) ∧ (((XF.nt F23 = 26) ∧ (XF.nt F24 = 38)) ∧ ((XF.nt F25 = 48) ∧ (XF.nt F26 = 34)))) ∧ ((((XF.nt F27 = 8) ∧ (XF.nt F28 = 79)) ∧ ((XF.nt F29 = 30) ∧ (XF.nt F30 = 56))) ∧ (((XF.nt F31 = 80) ∧ (XF.nt F32 = 65)) ∧ ((XF.nt F33 = 85) ∧ ((XF.nt F34 = 19) ∧ (XF.nt F35 = 23))))))) ∧ ((((((XF.nt F36 = 39) ∧ (XF.nt F37 = 26)) ∧ ((XF.nt F38 = 35) ∧ (XF.nt F39 = 18))) ∧ (((XF.nt F40 = 9)
    ∧ (XF.nt F41 = 34)) ∧ ((XF.nt F42 = 19) ∧ (XF.nt F43 = 28)))) ∧ ((((XF.nt F44 = 67) ∧ (XF.nt F45 = 39)) ∧ ((XF.nt F46 = 124) ∧ (XF.nt F47 = 52))) ∧ (((XF.nt F48 = 17) ∧ (XF.nt F49 = 55)) ∧ ((XF.nt F50 = 21) ∧ ((XF.nt F51 = 29) ∧ (XF.nt F52 = 8)))))) ∧ (((((XF.nt F53 = 9) ∧ (XF.nt F54 = 25)) ∧ ((XF.nt F55 = 32) ∧ (XF.nt F56 = 21))) ∧ (((XF.nt F57 = 11) ∧ (XF.nt F58 = 19)) ∧ ((XF.nt F59 = 8) ∧
    (XF.nt F60 = 9)))) ∧ ((((XF.nt F61 = 11) ∧ (XF.nt F62 = 44)) ∧ ((XF.nt F63 = 19) ∧ (XF.nt F64 = 8))) ∧ (((XF.nt F65 = 19) ∧ (XF.nt F66 = 19)) ∧ ((XF.nt F67 = 37) ∧ ((XF.nt F68 = 26) ∧ (XF.nt F69 = 19))))))) := ⟨⟨⟨⟨⟨⟨rfl, rfl⟩, ⟨rfl, rfl⟩⟩, ⟨⟨rfl, rfl⟩, ⟨rfl, rfl⟩⟩⟩, ⟨⟨⟨rfl, rfl⟩, ⟨rfl, rfl⟩⟩, ⟨⟨rfl, rfl⟩, ⟨rfl, rfl⟩⟩⟩⟩, ⟨⟨⟨⟨rfl, rfl⟩, ⟨rfl, rfl⟩⟩, ⟨⟨rfl, rfl⟩, ⟨rfl, rfl⟩⟩⟩, ⟨⟨⟨rfl, rfl⟩, ⟨rfl,
    rfl⟩⟩, ⟨⟨rfl, rfl⟩, ⟨rfl, ⟨rfl, rfl⟩⟩⟩⟩⟩⟩, ⟨⟨⟨⟨⟨rfl, rfl⟩, ⟨rfl, rfl⟩⟩, ⟨⟨rfl, rfl⟩, ⟨rfl, rfl⟩⟩⟩, ⟨⟨⟨rfl, rfl⟩, ⟨rfl, rfl⟩⟩, ⟨⟨rfl, rfl⟩, ⟨rfl, ⟨rfl, rfl⟩⟩⟩⟩⟩, ⟨⟨⟨⟨rfl, rfl⟩, ⟨rfl, rfl⟩⟩, ⟨⟨rfl, rfl⟩, ⟨rfl, rfl⟩⟩⟩, ⟨⟨⟨rfl, rfl⟩, ⟨rfl, rfl⟩⟩, ⟨⟨rfl, rfl⟩, ⟨rfl, ⟨rfl, rfl⟩⟩⟩⟩⟩⟩⟩
theorem follows : Try.prog.follows .mixedOrders = true := by kernel_rfl
theorem run_ok (n : Nat) : CallsOk Try.prog (runF xp md n) := runF_ok fnsOk (drawsOk follows md) n
end Go.Proofs.Ytoemdhcnfmkkaaa.AE
