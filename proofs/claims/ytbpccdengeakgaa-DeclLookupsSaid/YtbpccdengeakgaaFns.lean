/-
  The functions of this seat as AE's. Printed by xp.py out of the program's form; checked here by the kernel (fnsOk).
-/
import Derived.Test.YtbpccdengeakgaaFnsa
import Derived.Test.YtbpccdengeakgaaChecked
set_option linter.unusedVariables false
set_option maxRecDepth 100000
namespace Go.Proofs.Ytbpccdengeakgaa.AE
open Go
/-- codesearch/codesearchref12.deep -/
@[reducible] def R59_0 : List XO := [⟨(some 2), none, .box 5 (.t 0), []⟩, ⟨(some 4), none, .mv (.c (.int .i64 0)), []⟩, ⟨(some 5), none, .mv (.c (.bool false)), [1]⟩]
@[reducible] def R59_1 : List XO := [⟨(some 9), none, .mv (.t 1), []⟩, ⟨(some 10), none, .bin false .eql (.t 9) (.c (.int .i64 1)), [0]⟩]
@[reducible] def R59_2 : List XO := [⟨(some 11), none, .fad 2 (.t 2), []⟩, ⟨(some 12), none, .load 1 false (.t 11), [0]⟩, ⟨(some 4), none, .mv (.t 12), [1, 0, 1]⟩, ⟨(some 5), none, .mv (.c (.bool true)), [2, 0, 1, 2]⟩]
@[reducible] def R59_3 : List XO := [⟨(some 6), none, .mv (.c (.int .i64 0)), []⟩]
@[reducible] def R59_4 : List XO := [⟨(some 13), none, .mv (.t 6), []⟩, ⟨(some 14), none, .fad 4 (.t 2), []⟩, ⟨(some 15), none, .load 1 false (.t 14), [1]⟩, ⟨(some 16), none, .len false (.t 15), [2]⟩, ⟨(some 17), none, .bin false .lss (.t 13) (.t 16), [0, 3]⟩]
@[reducible] def R59_5 : List XO := [⟨(some 21), none, .fad 4 (.t 2), []⟩, ⟨(some 22), none, .load 1 false (.t 21), [0]⟩, ⟨(some 23), none, .mv (.t 6), []⟩, ⟨(some 24), none, .iaS 5 (.t 22) (.t 23), [1, 2]⟩, ⟨(some 25), none, .load 5 true (.t 24), [3]⟩, ⟨(some 26), none, .mv (.t 1), []⟩, ⟨(some 27), none, .bin false .sub (.t 26) (.c (.int .i64 1)), [5]⟩, ⟨(some 28), none, .call 59 [(.t 25), (.t
    27)], [4, 6]⟩, ⟨(some 20), none, .mv (.t 28), [7]⟩, ⟨(some 29), none, .ext (.t 20) 0, [8]⟩, ⟨(some 30), none, .ext (.t 20) 1, [8]⟩, ⟨(some 7), none, .mv (.t 29), [9, 7, 0, 1, 2, 3, 4, 5, 6, 7, 8, 9]⟩, ⟨(some 8), none, .mv (.t 30), [10, 11, 0, 1, 2, 3, 4, 5, 6, 7, 8, 9, 10, 11]⟩]
@[reducible] def R59_6 : List XO := [⟨(some 31), none, .mv (.t 8), []⟩]
@[reducible] def R59_7 : List XO := [⟨(some 32), none, .mv (.t 7), []⟩, ⟨(some 4), none, .mv (.t 32), [0, 0]⟩, ⟨(some 5), none, .mv (.c (.bool true)), [1, 0, 1]⟩]
@[reducible] def R59_8 : List XO := [⟨(some 18), none, .mv (.t 6), []⟩, ⟨(some 19), none, .bin false .add (.t 18) (.c (.int .i64 1)), [0]⟩, ⟨(some 6), none, .mv (.t 19), [1, 0, 1]⟩]
@[reducible] def L59_0 : XC := (.seq (.seq (.reg false [] R59_4) (.cond (.t 17) .skip (.exit 0))) (.seq (.blk 1 (.seq (.reg false [] R59_5) (.seq (.reg false [] R59_6) (.cond (.t 31) (.seq (.reg false [] R59_7) .ret) .skip)))) (.reg false [] R59_8)))
@[reducible] def R59_9 : List XO := [⟨(some 4), none, .mv (.c (.int .i64 0)), []⟩, ⟨(some 5), none, .mv (.c (.bool false)), [0, 0]⟩]
@[reducible] def F59 : XF := ⟨33, (.seq (.reg false [] R59_0) (.seq (.seq (.reg false [] R59_1) (.cond (.t 10) (.seq (.reg false [] R59_2) .ret) .skip)) (.seq (.seq (.reg false [] R59_3) (.blk 0 (.loop L59_0))) (.seq (.reg false [] R59_9) .ret)))), [(4, none), (5, none)]⟩
/-- strings.Contains -/
@[reducible] def R60_0 : List XO := [⟨(some 4), none, .mv (.c (.bool false)), []⟩]
@[reducible] def R60_1 : List XO := [⟨(some 5), none, .mv (.t 0), []⟩, ⟨(some 6), none, .mv (.t 1), []⟩, ⟨(some 7), none, .call 70 [(.t 5), (.t 6)], [0, 1]⟩, ⟨(some 8), none, .bin false .geq (.t 7) (.c (.int .i64 0)), [2]⟩, ⟨(some 4), none, .mv (.t 8), [3, 2, 0, 1, 2, 3]⟩]
@[reducible] def F60 : XF := ⟨9, (.seq (.reg false [] R60_0) (.seq (.reg false [] R60_1) .ret)), [(4, none)]⟩
/-- codesearch/codesearchref11.skip -/
@[reducible] def R61_0 : List XO := [⟨(some 4), none, .mv (.c (.int .i64 0)), []⟩]
@[reducible] def R61_1 : List XO := [⟨(some 5), none, .mv (.t 1), []⟩, ⟨(some 6), none, .mv (.t 0), []⟩, ⟨(some 7), none, .len true (.t 6), [1]⟩, ⟨(some 8), none, .bin false .lss (.t 5) (.t 7), [0, 2]⟩]
@[reducible] def R61_2 : List XO := [⟨(some 9), none, .mv (.t 0), []⟩, ⟨(some 10), none, .mv (.t 1), []⟩, ⟨(some 11), none, .ixS (.t 9) (.t 10), [0, 1]⟩, ⟨(some 12), none, .bin false .eql (.t 11) (.c (.int .u8 32)), [2]⟩, ⟨(some 13), none, .mv (.t 12), [3]⟩, ⟨(some 14), (some (13, false)), .mv (.t 0), [4]⟩, ⟨(some 15), (some (13, false)), .mv (.t 1), [4]⟩, ⟨(some 16), (some (13, false)), .ixS (.t
    14) (.t 15), [5, 6, 4]⟩, ⟨(some 17), (some (13, false)), .bin false .eql (.t 16) (.c (.int .u8 9)), [7, 4]⟩, ⟨(some 18), none, .pick (.t 13) (.c (.bool true)) (.t 17), [4, 8]⟩, ⟨(some 19), none, .mv (.t 18), [9, 4]⟩, ⟨(some 20), (some (19, false)), .mv (.t 0), [10]⟩, ⟨(some 21), (some (19, false)), .mv (.t 1), [10]⟩, ⟨(some 22), (some (19, false)), .ixS (.t 20) (.t 21), [11, 12, 10]⟩, ⟨(some
    23), (some (19, false)), .bin false .eql (.t 22) (.c (.int .u8 10)), [13, 10]⟩, ⟨(some 24), none, .pick (.t 19) (.c (.bool true)) (.t 23), [10, 14]⟩]
@[reducible] def R61_3 : List XO := [⟨(some 25), none, .mv (.t 1), []⟩, ⟨(some 26), none, .bin false .add (.t 25) (.c (.int .i64 1)), [0]⟩, ⟨(some 1), none, .mv (.t 26), [1, 0, 1]⟩]
@[reducible] def R61_4 : List XO := [⟨(some 27), none, .mv (.t 0), []⟩, ⟨(some 28), none, .mv (.t 1), []⟩, ⟨(some 29), none, .ixS (.t 27) (.t 28), [0, 1]⟩, ⟨(some 30), none, .bin false .eql (.t 29) (.c (.int .u8 47)), [2]⟩, ⟨(some 31), none, .mv (.t 30), [3]⟩, ⟨(some 32), (some (31, true)), .mv (.t 1), [4]⟩, ⟨(some 33), (some (31, true)), .bin false .add (.t 32) (.c (.int .i64 1)), [5, 4]⟩, ⟨(some
    34), (some (31, true)), .mv (.t 0), [4]⟩, ⟨(some 35), (some (31, true)), .len true (.t 34), [7, 4]⟩, ⟨(some 36), (some (31, true)), .bin false .lss (.t 33) (.t 35), [6, 8, 4]⟩, ⟨(some 37), none, .pick (.t 31) (.t 36) (.c (.bool false)), [4, 9]⟩, ⟨(some 38), none, .mv (.t 37), [10, 4]⟩, ⟨(some 39), (some (38, true)), .mv (.t 0), [11]⟩, ⟨(some 40), (some (38, true)), .mv (.t 1), [11]⟩, ⟨(some
    41), (some (38, true)), .bin false .add (.t 40) (.c (.int .i64 1)), [13, 11]⟩, ⟨(some 42), (some (38, true)), .ixS (.t 39) (.t 41), [12, 14, 11]⟩, ⟨(some 43), (some (38, true)), .bin false .eql (.t 42) (.c (.int .u8 47)), [15, 11]⟩, ⟨(some 44), none, .pick (.t 38) (.t 43) (.c (.bool false)), [11, 16]⟩]
@[reducible] def R61_5 : List XO := [⟨(some 45), none, .mv (.t 1), []⟩, ⟨(some 46), none, .mv (.t 0), []⟩, ⟨(some 47), none, .len true (.t 46), [1]⟩, ⟨(some 48), none, .bin false .lss (.t 45) (.t 47), [0, 2]⟩, ⟨(some 49), none, .mv (.t 48), [3]⟩, ⟨(some 50), (some (49, true)), .mv (.t 0), [4]⟩, ⟨(some 51), (some (49, true)), .mv (.t 1), [4]⟩, ⟨(some 52), (some (49, true)), .ixS (.t 50) (.t 51), [5,
    6, 4]⟩, ⟨(some 53), (some (49, true)), .bin false .neq (.t 52) (.c (.int .u8 10)), [7, 4]⟩, ⟨(some 54), none, .pick (.t 49) (.t 53) (.c (.bool false)), [4, 8]⟩]
@[reducible] def R61_6 : List XO := [⟨(some 55), none, .mv (.t 1), []⟩, ⟨(some 56), none, .bin false .add (.t 55) (.c (.int .i64 1)), [0]⟩, ⟨(some 1), none, .mv (.t 56), [1, 0, 1]⟩]
@[reducible] def L61_0 : XC := (.seq (.seq (.reg false [] R61_5) (.cond (.t 54) .skip (.exit 2))) (.blk 3 (.reg false [] R61_6)))
@[reducible] def R61_7 : List XO := [⟨(some 57), none, .mv (.t 1), []⟩, ⟨(some 4), none, .mv (.t 57), [0, 0]⟩]
@[reducible] def L61_1 : XC := (.seq (.seq (.reg false [] R61_1) (.cond (.t 8) .skip (.exit 0))) (.blk 1 (.seq (.reg false [] R61_2) (.cond (.t 24) (.reg false [] R61_3) (.seq (.reg false [] R61_4) (.cond (.t 44) (.blk 2 (.loop L61_0)) (.seq (.reg false [] R61_7) .ret)))))))
@[reducible] def R61_8 : List XO := [⟨(some 58), none, .mv (.t 1), []⟩, ⟨(some 4), none, .mv (.t 58), [0, 0]⟩]
@[reducible] def F61 : XF := ⟨59, (.seq (.reg false [] R61_0) (.seq (.blk 0 (.loop L61_1)) (.seq (.reg false [] R61_8) .ret))), [(4, none)]⟩
/-- codesearch/codesearchref11.token -/
@[reducible] def R62_0 : List XO := [⟨(some 6), none, .alloc [(.int .i64 0), (.str (ByteArray.mk #[])), (.int .i64 0), (.int .i64 0)], []⟩, ⟨(some 7), none, .mv (.c (.int .i64 0)), []⟩]
@[reducible] def R62_1 : List XO := [⟨(some 10), none, .mv (.t 0), []⟩, ⟨(some 11), none, .mv (.t 1), []⟩, ⟨(some 12), none, .ixS (.t 10) (.t 11), [0, 1]⟩, ⟨(some 8), none, .mv (.t 12), [2, 0, 1, 2]⟩]
@[reducible] def R62_2 : List XO := [⟨(some 13), none, .mv (.t 8), []⟩, ⟨(some 14), none, .call 39 [(.t 13)], [0]⟩]
@[reducible] def R62_3 : List XO := [⟨(some 15), none, .mv (.t 0), []⟩, ⟨(some 16), none, .mv (.t 1), []⟩, ⟨(some 17), none, .mv (.t 0), []⟩, ⟨(some 18), none, .mv (.t 1), []⟩, ⟨(some 19), none, .call 40 [(.t 17), (.t 18)], [2, 3]⟩, ⟨(some 20), none, .slS (.t 15) (some (.t 16)) (some (.t 19)), [0, 1, 4]⟩, ⟨(some 21), none, .mv (.t 1), []⟩, ⟨(some 22), none, .mv (.t 0), []⟩, ⟨(some 23), none, .mv
    (.t 1), []⟩, ⟨(some 24), none, .call 40 [(.t 22), (.t 23)], [7, 8, 4]⟩, ⟨(some 25), none, .build [(.int .i64 0), (.str (ByteArray.mk #[])), (.int .i64 0), (.int .i64 0)] [(0, 1, (.c (.int .i64 1))), (1, 1, (.t 20)), (2, 1, (.t 21)), (3, 1, (.t 24))], [5, 6, 9]⟩, ⟨(some 9), none, .alloc [(.int .i64 0), (.str (ByteArray.mk #[])), (.int .i64 0), (.int .i64 0)], []⟩, ⟨none, none, .store 4 (.t 9)
    (.t 25), [11, 10, 9, 0, 1, 2, 3, 4, 5, 6, 7, 8, 9, 10, 11]⟩]
@[reducible] def R62_4 : List XO := [⟨(some 26), none, .fad 1 (.t 9), []⟩, ⟨(some 27), none, .load 1 false (.t 26), [0]⟩, ⟨(some 28), none, .call 41 [(.t 27)], [1]⟩]
@[reducible] def R62_5 : List XO := [⟨(some 29), none, .fad 0 (.t 9), []⟩, ⟨none, none, .store 1 (.t 29) (.c (.int .i64 2)), [0]⟩]
@[reducible] def R62_6 : List XO := [⟨(some 30), none, .fad 1 (.t 9), []⟩, ⟨(some 31), none, .load 1 false (.t 30), [0]⟩, ⟨(some 32), none, .len true (.t 31), [1]⟩, ⟨(some 33), none, .bin false .gtr (.t 32) (.c (.int .i64 24)), [2]⟩]
@[reducible] def R62_7 : List XO := [⟨(some 34), none, .load 4 true (.t 9), []⟩, ⟨none, none, .store 4 (.t 6) (.t 34), [0, 0]⟩, ⟨(some 7), none, .mv (.c (.int .i64 4)), [1, 0, 1]⟩]
@[reducible] def R62_8 : List XO := [⟨(some 35), none, .load 4 true (.t 9), []⟩, ⟨none, none, .store 4 (.t 6) (.t 35), [0, 0]⟩, ⟨(some 7), none, .mv (.c (.int .i64 0)), [1, 0, 1]⟩]
@[reducible] def R62_9 : List XO := [⟨(some 36), none, .mv (.t 8), []⟩, ⟨(some 37), none, .call 50 [(.t 36)], [0]⟩]
@[reducible] def R62_10 : List XO := [⟨(some 38), none, .mv (.t 0), []⟩, ⟨(some 39), none, .mv (.t 1), []⟩, ⟨(some 40), none, .call 71 [(.t 38), (.t 39)], [0, 1]⟩, ⟨(some 41), none, .ext (.t 40) 0, [2]⟩, ⟨(some 42), none, .ext (.t 40) 1, [2]⟩, ⟨none, none, .store 4 (.t 6) (.t 41), [3, 2, 0, 1, 2, 3, 4]⟩, ⟨(some 7), none, .mv (.t 42), [4, 5, 0, 1, 2, 3, 4, 5]⟩]
@[reducible] def R62_11 : List XO := [⟨(some 43), none, .mv (.t 8), []⟩, ⟨(some 44), none, .bin false .eql (.t 43) (.c (.int .u8 34)), [0]⟩]
@[reducible] def R62_12 : List XO := [⟨(some 45), none, .mv (.t 0), []⟩, ⟨(some 46), none, .mv (.t 1), []⟩, ⟨(some 47), none, .call 72 [(.t 45), (.t 46)], [0, 1]⟩, ⟨(some 48), none, .ext (.t 47) 0, [2]⟩, ⟨(some 49), none, .ext (.t 47) 1, [2]⟩, ⟨none, none, .store 4 (.t 6) (.t 48), [3, 2, 0, 1, 2, 3, 4]⟩, ⟨(some 7), none, .mv (.t 49), [4, 5, 0, 1, 2, 3, 4, 5]⟩]
@[reducible] def R62_13 : List XO := [⟨(some 50), none, .mv (.t 8), []⟩, ⟨(some 51), none, .bin false .eql (.t 50) (.c (.int .u8 36)), [0]⟩, ⟨(some 52), none, .mv (.t 51), [1]⟩, ⟨(some 53), (some (52, true)), .mv (.t 2), [2]⟩, ⟨(some 54), none, .pick (.t 52) (.t 53) (.c (.bool false)), [2, 3]⟩]
@[reducible] def R62_14 : List XO := [⟨(some 55), none, .mv (.t 0), []⟩, ⟨(some 56), none, .mv (.t 1), []⟩, ⟨(some 57), none, .call 73 [(.t 55), (.t 56)], [0, 1]⟩, ⟨(some 58), none, .ext (.t 57) 0, [2]⟩, ⟨(some 59), none, .ext (.t 57) 1, [2]⟩, ⟨none, none, .store 4 (.t 6) (.t 58), [3, 2, 0, 1, 2, 3, 4]⟩, ⟨(some 7), none, .mv (.t 59), [4, 5, 0, 1, 2, 3, 4, 5]⟩]
@[reducible] def R62_15 : List XO := [⟨(some 60), none, .mv (.t 1), []⟩, ⟨(some 61), none, .bin false .add (.t 60) (.c (.int .i64 2)), [0]⟩, ⟨(some 62), none, .mv (.t 0), []⟩, ⟨(some 63), none, .len true (.t 62), [2]⟩, ⟨(some 64), none, .bin false .leq (.t 61) (.t 63), [1, 3]⟩, ⟨(some 65), none, .mv (.t 64), [4]⟩, ⟨(some 66), (some (65, true)), .mv (.t 0), [5]⟩, ⟨(some 67), (some (65, true)), .mv
    (.t 1), [5]⟩, ⟨(some 68), (some (65, true)), .mv (.t 1), [5]⟩, ⟨(some 69), (some (65, true)), .bin false .add (.t 68) (.c (.int .i64 2)), [8, 5]⟩, ⟨(some 70), (some (65, true)), .slS (.t 66) (some (.t 67)) (some (.t 69)), [6, 7, 9, 5]⟩, ⟨(some 71), (some (65, true)), .call 74 [(.t 70)], [10, 5, 5]⟩, ⟨(some 72), none, .pick (.t 65) (.t 71) (.c (.bool false)), [5, 11]⟩]
@[reducible] def R62_16 : List XO := [⟨(some 73), none, .mv (.t 0), []⟩, ⟨(some 74), none, .mv (.t 1), []⟩, ⟨(some 75), none, .mv (.t 1), []⟩, ⟨(some 76), none, .bin false .add (.t 75) (.c (.int .i64 2)), [2]⟩, ⟨(some 77), none, .slS (.t 73) (some (.t 74)) (some (.t 76)), [0, 1, 3]⟩, ⟨(some 78), none, .mv (.t 1), []⟩, ⟨(some 79), none, .mv (.t 1), []⟩, ⟨(some 80), none, .bin false .add (.t 79) (.c
    (.int .i64 2)), [6]⟩, ⟨(some 81), none, .bdf [(.int .i64 0), (.str (ByteArray.mk #[])), (.int .i64 0), (.int .i64 0)] [(0, 1, (.c (.int .i64 5))), (1, 1, (.t 77)), (2, 1, (.t 78)), (3, 1, (.t 80))], [4, 5, 7]⟩, ⟨none, none, .store 4 (.t 6) (.t 81), [8, 0, 1, 2, 3, 4, 5, 6, 7, 8]⟩, ⟨(some 7), none, .mv (.c (.int .i64 0)), [9, 0, 1, 2, 3, 4, 5, 6, 7, 8, 9]⟩]
@[reducible] def R62_17 : List XO := [⟨(some 82), none, .mv (.t 0), []⟩, ⟨(some 83), none, .mv (.t 1), []⟩, ⟨(some 84), none, .mv (.t 1), []⟩, ⟨(some 85), none, .bin false .add (.t 84) (.c (.int .i64 1)), [2]⟩, ⟨(some 86), none, .slS (.t 82) (some (.t 83)) (some (.t 85)), [0, 1, 3]⟩, ⟨(some 87), none, .call 74 [(.t 86)], [4]⟩]
@[reducible] def R62_18 : List XO := [⟨(some 88), none, .mv (.t 0), []⟩, ⟨(some 89), none, .mv (.t 1), []⟩, ⟨(some 90), none, .mv (.t 1), []⟩, ⟨(some 91), none, .bin false .add (.t 90) (.c (.int .i64 1)), [2]⟩, ⟨(some 92), none, .slS (.t 88) (some (.t 89)) (some (.t 91)), [0, 1, 3]⟩, ⟨(some 93), none, .mv (.t 1), []⟩, ⟨(some 94), none, .mv (.t 1), []⟩, ⟨(some 95), none, .bin false .add (.t 94) (.c
    (.int .i64 1)), [6]⟩, ⟨(some 96), none, .bdf [(.int .i64 0), (.str (ByteArray.mk #[])), (.int .i64 0), (.int .i64 0)] [(0, 1, (.c (.int .i64 5))), (1, 1, (.t 92)), (2, 1, (.t 93)), (3, 1, (.t 95))], [4, 5, 7]⟩, ⟨none, none, .store 4 (.t 6) (.t 96), [8, 0, 1, 2, 3, 4, 5, 6, 7, 8]⟩, ⟨(some 7), none, .mv (.c (.int .i64 0)), [9, 0, 1, 2, 3, 4, 5, 6, 7, 8, 9]⟩]
@[reducible] def R62_19 : List XO := [⟨(some 97), none, .bdf [(.int .i64 0), (.str (ByteArray.mk #[])), (.int .i64 0), (.int .i64 0)] [], []⟩, ⟨none, none, .store 4 (.t 6) (.t 97), [0, 0]⟩, ⟨(some 7), none, .mv (.c (.int .i64 11)), [1, 0, 1]⟩]
@[reducible] def F62 : XF := ⟨98, (.seq (.reg false [] R62_0) (.seq (.reg false [] R62_1) (.seq (.seq (.reg false [] R62_2) (.cond (.t 14) (.seq (.reg true [] R62_3) (.seq (.seq (.reg false [] R62_4) (.cond (.t 28) (.reg false [] R62_5) .skip)) (.seq (.seq (.reg false [] R62_6) (.cond (.t 33) (.seq (.reg false [] R62_7) .ret) .skip)) (.seq (.reg false [] R62_8) .ret)))) .skip)) (.seq (.seq (.reg
    false [] R62_9) (.cond (.t 37) (.seq (.reg false [] R62_10) .ret) .skip)) (.seq (.seq (.reg false [] R62_11) (.cond (.t 44) (.seq (.reg false [] R62_12) .ret) .skip)) (.seq (.seq (.reg false [] R62_13) (.cond (.t 54) (.seq (.reg false [] R62_14) .ret) .skip)) (.seq (.seq (.reg false [] R62_15) (.cond (.t 72) (.seq (.reg false [] R62_16) .ret) .skip)) (.seq (.seq (.reg false [] R62_17) (.cond
    (.t 87) (.seq (.reg false [] R62_18) .ret) .skip)) (.seq (.reg false [] R62_19) .ret))))))))), [(6, some (4, true)), (7, none)]⟩
/-- (*codesearch/codesearchref12.parser).kind -/
@[reducible] def R63_0 : List XO := [⟨(some 2), none, .mv (.c (.int .i64 0)), []⟩]
@[reducible] def R63_1 : List XO := [⟨(some 3), none, .mv (.t 0), []⟩, ⟨(some 4), none, .nilc (.t 3), [0]⟩, ⟨(some 5), none, .fad 3 (.t 4), [1]⟩, ⟨(some 6), none, .load 1 false (.t 5), [2]⟩, ⟨(some 7), none, .mv (.t 6), [3]⟩, ⟨(some 8), (some (7, false)), .mv (.t 0), [4]⟩, ⟨(some 9), (some (7, false)), .nilc (.t 8), [5, 4]⟩, ⟨(some 10), (some (7, false)), .fad 1 (.t 9), [6, 4]⟩, ⟨(some 11), (some
    (7, false)), .load 1 false (.t 10), [7, 4]⟩, ⟨(some 12), (some (7, false)), .mv (.t 0), [4]⟩, ⟨(some 13), (some (7, false)), .nilc (.t 12), [9, 4]⟩, ⟨(some 14), (some (7, false)), .fad 0 (.t 13), [10, 4]⟩, ⟨(some 15), (some (7, false)), .load 1 false (.t 14), [11, 4]⟩, ⟨(some 16), (some (7, false)), .len false (.t 15), [12, 4]⟩, ⟨(some 17), (some (7, false)), .bin false .geq (.t 11) (.t 16),
    [8, 13, 4]⟩, ⟨(some 18), none, .pick (.t 7) (.c (.bool true)) (.t 17), [4, 14]⟩]
@[reducible] def R63_2 : List XO := [⟨(some 2), none, .mv (.c (.int .i64 0)), []⟩]
@[reducible] def R63_3 : List XO := [⟨(some 19), none, .mv (.t 0), []⟩, ⟨(some 20), none, .nilc (.t 19), [0]⟩, ⟨(some 21), none, .fad 0 (.t 20), [1]⟩, ⟨(some 22), none, .load 1 false (.t 21), [2]⟩, ⟨(some 23), none, .mv (.t 0), []⟩, ⟨(some 24), none, .nilc (.t 23), [4]⟩, ⟨(some 25), none, .fad 1 (.t 24), [5]⟩, ⟨(some 26), none, .load 1 false (.t 25), [6]⟩, ⟨(some 27), none, .iaS 4 (.t 22) (.t 26),
    [3, 7]⟩, ⟨(some 28), none, .fad 0 (.t 27), [8]⟩, ⟨(some 29), none, .load 1 false (.t 28), [9]⟩, ⟨(some 2), none, .mv (.t 29), [10, 0, 1, 2, 3, 4, 5, 6, 7, 8, 9, 10]⟩]
@[reducible] def F63 : XF := ⟨30, (.seq (.reg false [] R63_0) (.seq (.seq (.reg true [] R63_1) (.cond (.t 18) (.seq (.reg false [] R63_2) .ret) .skip)) (.seq (.reg true [] R63_3) .ret))), [(2, none)]⟩
/-- (*codesearch/codesearchref12.parser).skip -/
@[reducible] def R64_0 : List XO := [⟨(some 6), none, .mv (.c (.bool false)), []⟩]
@[reducible] def R64_1 : List XO := [⟨(some 7), none, .mv (.t 0), []⟩, ⟨(some 8), none, .mv (.t 1), []⟩, ⟨(some 9), none, .mv (.t 2), []⟩, ⟨(some 10), none, .call 52 [(.t 7), (.t 8), (.t 9)], [0, 1, 2]⟩, ⟨(some 11), none, .un .not (.t 10), [3]⟩]
@[reducible] def R64_2 : List XO := [⟨(some 6), none, .mv (.c (.bool false)), []⟩]
@[reducible] def R64_3 : List XO := [⟨(some 12), none, .mv (.t 0), []⟩, ⟨(some 13), none, .mv (.t 0), []⟩, ⟨(some 14), none, .nilc (.t 13), [1]⟩, ⟨(some 15), none, .fad 1 (.t 14), [2]⟩, ⟨(some 16), none, .load 1 false (.t 15), [3]⟩, ⟨(some 17), none, .bin false .add (.t 16) (.c (.int .i64 1)), [4]⟩, ⟨(some 18), none, .nilc (.t 12), [0, 0, 1, 2, 3, 4, 5]⟩, ⟨(some 19), none, .fad 1 (.t 18), [6, 0, 1,
    2, 3, 4, 5]⟩, ⟨none, none, .store 1 (.t 19) (.t 17), [7, 5, 0, 1, 2, 3, 4, 5]⟩]
@[reducible] def R64_4 : List XO := [⟨(some 6), none, .mv (.c (.bool true)), []⟩]
@[reducible] def F64 : XF := ⟨20, (.seq (.reg false [] R64_0) (.seq (.seq (.reg false [] R64_1) (.cond (.t 11) (.seq (.reg false [] R64_2) .ret) .skip)) (.seq (.reg false [] R64_3) (.seq (.reg false [] R64_4) .ret)))), [(6, none)]⟩
/-- (*codesearch/codesearchref12.parser).last -/
@[reducible] def R65_0 : List XO := [⟨(some 2), none, .mv (.c (.int .i64 0)), []⟩]
@[reducible] def R65_1 : List XO := [⟨(some 3), none, .mv (.t 0), []⟩, ⟨(some 4), none, .nilc (.t 3), [0]⟩, ⟨(some 5), none, .fad 1 (.t 4), [1]⟩, ⟨(some 6), none, .load 1 false (.t 5), [2]⟩, ⟨(some 7), none, .bin false .eql (.t 6) (.c (.int .i64 0)), [3]⟩]
@[reducible] def R65_2 : List XO := [⟨(some 2), none, .mv (.c (.int .i64 0)), []⟩]
@[reducible] def R65_3 : List XO := [⟨(some 8), none, .mv (.t 0), []⟩, ⟨(some 9), none, .nilc (.t 8), [0]⟩, ⟨(some 10), none, .fad 0 (.t 9), [1]⟩, ⟨(some 11), none, .load 1 false (.t 10), [2]⟩, ⟨(some 12), none, .mv (.t 0), []⟩, ⟨(some 13), none, .nilc (.t 12), [4]⟩, ⟨(some 14), none, .fad 1 (.t 13), [5]⟩, ⟨(some 15), none, .load 1 false (.t 14), [6]⟩, ⟨(some 16), none, .bin false .sub (.t 15) (.c
    (.int .i64 1)), [7]⟩, ⟨(some 17), none, .iaS 4 (.t 11) (.t 16), [3, 8]⟩, ⟨(some 18), none, .fad 3 (.t 17), [9]⟩, ⟨(some 19), none, .load 1 false (.t 18), [10]⟩, ⟨(some 2), none, .mv (.t 19), [11, 0, 1, 2, 3, 4, 5, 6, 7, 8, 9, 10, 11]⟩]
@[reducible] def F65 : XF := ⟨20, (.seq (.reg false [] R65_0) (.seq (.seq (.reg false [] R65_1) (.cond (.t 7) (.seq (.reg false [] R65_2) .ret) .skip)) (.seq (.reg true [] R65_3) .ret))), [(2, none)]⟩
/-- (*codesearch/codesearchref12.parser).class -/
@[reducible] def R66_0 : List XO := [⟨(some 2), none, .alloc [(.int .i64 0), (.str (ByteArray.mk #[])), (.int .i64 0), (.int .i64 0), .nls], []⟩]
@[reducible] def R66_1 : List XO := [⟨(some 9), none, .mv (.t 0), []⟩, ⟨(some 10), none, .call 53 [(.t 9)], [0]⟩, ⟨(some 3), none, .mv (.t 10), [1, 1, 0, 1]⟩]
@[reducible] def R66_2 : List XO := [⟨(some 11), none, .mv (.t 0), []⟩, ⟨(some 12), none, .call 55 [(.t 11), (.c (.int .i64 2)), (.c (.str (ByteArray.mk #[99, 108, 97, 115, 115])))], [0]⟩]
@[reducible] def R66_3 : List XO := [⟨(some 13), none, .mv (.t 0), []⟩, ⟨(some 14), none, .call 54 [(.t 13), (.c (.int .i64 1))], [0]⟩, ⟨(some 4), none, .mv (.t 14), [1, 1, 0, 1]⟩]
@[reducible] def R66_4 : List XO := [⟨(some 15), none, .mv (.t 0), []⟩, ⟨(some 16), none, .call 65 [(.t 15)], [0]⟩, ⟨(some 5), none, .mv (.t 16), [1, 1, 0, 1]⟩]
@[reducible] def R66_5 : List XO := [⟨(some 6), none, .mv (.c .nls), []⟩, ⟨(some 7), none, .mv (.c .nls), [0]⟩]
@[reducible] def R66_6 : List XO := [⟨(some 17), none, .mv (.t 0), []⟩, ⟨(some 18), none, .call 64 [(.t 17), (.c (.int .i64 2)), (.c (.str (ByteArray.mk #[101, 120, 116, 101, 110, 100, 115])))], [0]⟩]
@[reducible] def R66_7 : List XO := [⟨(some 19), none, .mv (.t 6), []⟩, ⟨(some 20), none, .mv (.t 0), []⟩, ⟨(some 21), none, .call 75 [(.t 20)], [1]⟩, ⟨(some 22), none, .bsl 27 5 [(.int .i64 0), (.str (ByteArray.mk #[])), (.int .i64 0), (.int .i64 0), .nls] 1 [(0, (.t 21))], [2]⟩, ⟨(some 23), none, .app 27 5 64 (.t 19) (.t 22), [0, 3, 2]⟩, ⟨(some 6), none, .mv (.t 23), [4, 4, 0, 1, 2, 3, 4]⟩]
@[reducible] def R66_8 : List XO := [⟨(some 24), none, .mv (.t 0), []⟩, ⟨(some 25), none, .call 65 [(.t 24)], [0]⟩, ⟨(some 8), none, .mv (.t 25), [1, 1, 0, 1]⟩]
@[reducible] def R66_9 : List XO := [⟨(some 26), none, .mv (.t 0), []⟩, ⟨(some 27), none, .call 64 [(.t 26), (.c (.int .i64 2)), (.c (.str (ByteArray.mk #[105, 109, 112, 108, 101, 109, 101, 110, 116, 115])))], [0]⟩]
@[reducible] def R66_10 : List XO := [⟨(some 28), none, .mv (.t 0), []⟩, ⟨(some 29), none, .call 76 [(.t 28)], [0]⟩, ⟨(some 7), none, .mv (.t 29), [1, 1, 0, 1]⟩]
@[reducible] def R66_11 : List XO := [⟨(some 30), none, .mv (.t 0), []⟩, ⟨(some 31), none, .call 55 [(.t 30), (.c (.int .i64 5)), (.c (.str (ByteArray.mk #[123])))], [0]⟩]
@[reducible] def R66_12 : List XO := [⟨(some 32), none, .mv (.t 0), []⟩, ⟨(some 33), none, .mv (.t 4), []⟩, ⟨(some 34), none, .mv (.t 3), []⟩, ⟨(some 35), none, .mv (.t 6), []⟩, ⟨(some 36), none, .mv (.t 5), []⟩, ⟨(some 37), none, .call 78 [(.t 35), (.t 36)], [3, 4]⟩, ⟨(some 38), none, .mv (.t 7), []⟩, ⟨(some 39), none, .mv (.t 8), []⟩, ⟨(some 40), none, .call 78 [(.t 38), (.t 39)], [6, 7, 5]⟩,
    ⟨(some 41), none, .bsl 27 5 [(.int .i64 0), (.str (ByteArray.mk #[])), (.int .i64 0), (.int .i64 0), .nls] 2 [(0, (.t 37)), (1, (.t 40))], [5, 8]⟩, ⟨(some 42), none, .call 77 [(.t 32), (.c (.int .i64 3)), (.t 33), (.t 34), (.t 41), (.c (.bool true))], [0, 1, 2, 9, 8]⟩, ⟨none, none, .store 5 (.t 2) (.t 42), [10, 10, 0, 1, 2, 3, 4, 5, 6, 7, 8, 9, 10]⟩]
@[reducible] def F66 : XF := ⟨43, (.seq (.reg false [] R66_0) (.seq (.reg false [] R66_1) (.seq (.reg false [] R66_2) (.seq (.reg false [] R66_3) (.seq (.reg false [] R66_4) (.seq (.reg false [] R66_5) (.seq (.seq (.reg false [] R66_6) (.cond (.t 18) (.reg false [] R66_7) .skip)) (.seq (.reg false [] R66_8) (.seq (.seq (.reg false [] R66_9) (.cond (.t 27) (.reg false [] R66_10) .skip)) (.seq (.reg
    false [] R66_11) (.seq (.reg false [] R66_12) .ret))))))))))), [(2, some (5, true))]⟩
/-- (*codesearch/codesearchref12.parser).interfaces -/
@[reducible] def R67_0 : List XO := [⟨(some 2), none, .alloc [(.int .i64 0), (.str (ByteArray.mk #[])), (.int .i64 0), (.int .i64 0), .nls], []⟩]
@[reducible] def R67_1 : List XO := [⟨(some 7), none, .mv (.t 0), []⟩, ⟨(some 8), none, .call 53 [(.t 7)], [0]⟩, ⟨(some 3), none, .mv (.t 8), [1, 1, 0, 1]⟩]
@[reducible] def R67_2 : List XO := [⟨(some 9), none, .mv (.t 0), []⟩, ⟨(some 10), none, .call 55 [(.t 9), (.c (.int .i64 2)), (.c (.str (ByteArray.mk #[105, 110, 116, 101, 114, 102, 97, 99, 101])))], [0]⟩]
@[reducible] def R67_3 : List XO := [⟨(some 11), none, .mv (.t 0), []⟩, ⟨(some 12), none, .call 54 [(.t 11), (.c (.int .i64 1))], [0]⟩, ⟨(some 4), none, .mv (.t 12), [1, 1, 0, 1]⟩]
@[reducible] def R67_4 : List XO := [⟨(some 13), none, .mv (.t 0), []⟩, ⟨(some 14), none, .call 65 [(.t 13)], [0]⟩, ⟨(some 5), none, .mv (.t 14), [1, 1, 0, 1]⟩]
@[reducible] def R67_5 : List XO := [⟨(some 6), none, .mv (.c .nls), []⟩]
@[reducible] def R67_6 : List XO := [⟨(some 15), none, .mv (.t 0), []⟩, ⟨(some 16), none, .call 64 [(.t 15), (.c (.int .i64 2)), (.c (.str (ByteArray.mk #[101, 120, 116, 101, 110, 100, 115])))], [0]⟩]
@[reducible] def R67_7 : List XO := [⟨(some 17), none, .mv (.t 0), []⟩, ⟨(some 18), none, .call 76 [(.t 17)], [0]⟩, ⟨(some 6), none, .mv (.t 18), [1, 1, 0, 1]⟩]
@[reducible] def R67_8 : List XO := [⟨(some 19), none, .mv (.t 0), []⟩, ⟨(some 20), none, .call 55 [(.t 19), (.c (.int .i64 5)), (.c (.str (ByteArray.mk #[123])))], [0]⟩]
@[reducible] def R67_9 : List XO := [⟨(some 21), none, .mv (.t 0), []⟩, ⟨(some 22), none, .mv (.t 4), []⟩, ⟨(some 23), none, .mv (.t 3), []⟩, ⟨(some 24), none, .mv (.t 6), []⟩, ⟨(some 25), none, .mv (.t 5), []⟩, ⟨(some 26), none, .call 78 [(.t 24), (.t 25)], [3, 4]⟩, ⟨(some 27), none, .bsl 27 5 [(.int .i64 0), (.str (ByteArray.mk #[])), (.int .i64 0), (.int .i64 0), .nls] 1 [(0, (.t 26))], [5]⟩,
    ⟨(some 28), none, .call 77 [(.t 21), (.c (.int .i64 4)), (.t 22), (.t 23), (.t 27), (.c (.bool false))], [0, 1, 2, 6, 5]⟩, ⟨none, none, .store 5 (.t 2) (.t 28), [7, 7, 0, 1, 2, 3, 4, 5, 6, 7]⟩]
@[reducible] def F67 : XF := ⟨29, (.seq (.reg false [] R67_0) (.seq (.reg false [] R67_1) (.seq (.reg false [] R67_2) (.seq (.reg false [] R67_3) (.seq (.reg false [] R67_4) (.seq (.reg false [] R67_5) (.seq (.seq (.reg false [] R67_6) (.cond (.t 16) (.reg false [] R67_7) .skip)) (.seq (.reg false [] R67_8) (.seq (.reg false [] R67_9) .ret))))))))), [(2, some (5, true))]⟩
/-- (*codesearch/codesearchref12.parser).function -/
@[reducible] def R68_0 : List XO := [⟨(some 4), none, .alloc [(.int .i64 0), (.str (ByteArray.mk #[])), (.int .i64 0), (.int .i64 0), .nls], []⟩]
@[reducible] def R68_1 : List XO := [⟨(some 13), none, .mv (.t 0), []⟩, ⟨(some 14), none, .call 53 [(.t 13)], [0]⟩, ⟨(some 5), none, .mv (.t 14), [1, 1, 0, 1]⟩]
@[reducible] def R68_2 : List XO := [⟨(some 15), none, .mv (.t 0), []⟩, ⟨(some 16), none, .call 55 [(.t 15), (.c (.int .i64 2)), (.c (.str (ByteArray.mk #[102, 117, 110, 99])))], [0]⟩]
@[reducible] def R68_3 : List XO := [⟨(some 17), none, .mv (.t 0), []⟩, ⟨(some 18), none, .call 54 [(.t 17), (.c (.int .i64 1))], [0]⟩, ⟨(some 6), none, .mv (.t 18), [1, 1, 0, 1]⟩]
@[reducible] def R68_4 : List XO := [⟨(some 19), none, .mv (.t 0), []⟩, ⟨(some 20), none, .call 55 [(.t 19), (.c (.int .i64 5)), (.c (.str (ByteArray.mk #[40])))], [0]⟩]
@[reducible] def R68_5 : List XO := [⟨(some 21), none, .mv (.t 0), []⟩, ⟨(some 22), none, .call 65 [(.t 21)], [0]⟩, ⟨(some 7), none, .mv (.t 22), [1, 1, 0, 1]⟩]
@[reducible] def R68_6 : List XO := [⟨(some 8), none, .mv (.c .nls), []⟩, ⟨(some 9), none, .mv (.c .nls), [0]⟩, ⟨(some 10), none, .mv (.c .nls), [1]⟩]
@[reducible] def R68_7 : List XO := [⟨(some 23), none, .mv (.t 0), []⟩, ⟨(some 24), none, .nilc (.t 23), [0]⟩, ⟨(some 25), none, .fad 3 (.t 24), [1]⟩, ⟨(some 26), none, .load 1 false (.t 25), [2]⟩, ⟨(some 27), none, .un .not (.t 26), [3]⟩, ⟨(some 28), none, .mv (.t 27), [4]⟩, ⟨(some 29), (some (28, true)), .mv (.t 0), [5]⟩, ⟨(some 30), (some (28, true)), .call 52 [(.t 29), (.c (.int .i64 5)), (.c
    (.str (ByteArray.mk #[41])))], [6, 5, 5]⟩, ⟨(some 31), (some (28, true)), .un .not (.t 30), [7, 5]⟩, ⟨(some 32), none, .pick (.t 28) (.t 31) (.c (.bool false)), [5, 8]⟩]
@[reducible] def R68_8 : List XO := [⟨(some 33), none, .mv (.t 8), []⟩, ⟨(some 34), none, .len false (.t 33), [0]⟩, ⟨(some 35), none, .bin false .gtr (.t 34) (.c (.int .i64 0)), [1]⟩]
@[reducible] def R68_9 : List XO := [⟨(some 36), none, .mv (.t 0), []⟩, ⟨(some 37), none, .call 55 [(.t 36), (.c (.int .i64 5)), (.c (.str (ByteArray.mk #[44])))], [0]⟩]
@[reducible] def R68_10 : List XO := [⟨(some 38), none, .mv (.t 8), []⟩, ⟨(some 39), none, .mv (.t 0), []⟩, ⟨(some 40), none, .call 79 [(.t 39)], [1]⟩, ⟨(some 41), none, .bsl 27 5 [(.int .i64 0), (.str (ByteArray.mk #[])), (.int .i64 0), (.int .i64 0), .nls] 1 [(0, (.t 40))], [2]⟩, ⟨(some 42), none, .app 27 5 64 (.t 38) (.t 41), [0, 3, 2]⟩, ⟨(some 8), none, .mv (.t 42), [4, 4, 0, 1, 2, 3, 4]⟩]
@[reducible] def L68_0 : XC := (.seq (.seq (.reg false [] R68_7) (.cond (.t 32) .skip (.exit 0))) (.blk 1 (.seq (.seq (.reg false [] R68_8) (.cond (.t 35) (.reg false [] R68_9) .skip)) (.reg false [] R68_10))))
@[reducible] def R68_11 : List XO := [⟨(some 43), none, .mv (.t 0), []⟩, ⟨(some 44), none, .call 55 [(.t 43), (.c (.int .i64 5)), (.c (.str (ByteArray.mk #[41])))], [0]⟩]
@[reducible] def R68_12 : List XO := [⟨(some 45), none, .mv (.t 0), []⟩, ⟨(some 46), none, .call 65 [(.t 45)], [0]⟩, ⟨(some 11), none, .mv (.t 46), [1, 1, 0, 1]⟩]
@[reducible] def R68_13 : List XO := [⟨(some 47), none, .mv (.t 0), []⟩, ⟨(some 48), none, .call 64 [(.t 47), (.c (.int .i64 5)), (.c (.str (ByteArray.mk #[58])))], [0]⟩]
@[reducible] def R68_14 : List XO := [⟨(some 49), none, .mv (.t 9), []⟩, ⟨(some 50), none, .mv (.t 0), []⟩, ⟨(some 51), none, .call 75 [(.t 50)], [1]⟩, ⟨(some 52), none, .bsl 27 5 [(.int .i64 0), (.str (ByteArray.mk #[])), (.int .i64 0), (.int .i64 0), .nls] 1 [(0, (.t 51))], [2]⟩, ⟨(some 53), none, .app 27 5 64 (.t 49) (.t 52), [0, 3, 2]⟩, ⟨(some 9), none, .mv (.t 53), [4, 4, 0, 1, 2, 3, 4]⟩]
@[reducible] def R68_15 : List XO := [⟨(some 54), none, .mv (.t 0), []⟩, ⟨(some 55), none, .call 65 [(.t 54)], [0]⟩, ⟨(some 12), none, .mv (.t 55), [1, 1, 0, 1]⟩]
@[reducible] def R68_16 : List XO := [⟨(some 56), none, .mv (.t 1), []⟩]
@[reducible] def R68_17 : List XO := [⟨(some 57), none, .mv (.t 10), []⟩, ⟨(some 58), none, .mv (.t 0), []⟩, ⟨(some 59), none, .call 80 [(.t 58)], [1]⟩, ⟨(some 60), none, .bsl 27 5 [(.int .i64 0), (.str (ByteArray.mk #[])), (.int .i64 0), (.int .i64 0), .nls] 1 [(0, (.t 59))], [2]⟩, ⟨(some 61), none, .app 27 5 64 (.t 57) (.t 60), [0, 3, 2]⟩, ⟨(some 10), none, .mv (.t 61), [4, 4, 0, 1, 2, 3, 4]⟩]
@[reducible] def R68_18 : List XO := [⟨(some 62), none, .mv (.t 0), []⟩, ⟨(some 63), none, .call 55 [(.t 62), (.c (.int .i64 5)), (.c (.str (ByteArray.mk #[59])))], [0]⟩]
@[reducible] def R68_19 : List XO := [⟨(some 64), none, .mv (.t 0), []⟩, ⟨(some 65), none, .mv (.t 6), []⟩, ⟨(some 66), none, .mv (.t 5), []⟩, ⟨(some 67), none, .mv (.t 8), []⟩, ⟨(some 68), none, .mv (.t 7), []⟩, ⟨(some 69), none, .call 78 [(.t 67), (.t 68)], [3, 4]⟩, ⟨(some 70), none, .mv (.t 9), []⟩, ⟨(some 71), none, .mv (.t 11), []⟩, ⟨(some 72), none, .call 78 [(.t 70), (.t 71)], [6, 7, 5]⟩,
    ⟨(some 73), none, .mv (.t 10), []⟩, ⟨(some 74), none, .mv (.t 12), []⟩, ⟨(some 75), none, .call 78 [(.t 73), (.t 74)], [9, 10, 8]⟩, ⟨(some 76), none, .bsl 27 5 [(.int .i64 0), (.str (ByteArray.mk #[])), (.int .i64 0), (.int .i64 0), .nls] 3 [(0, (.t 69)), (1, (.t 72)), (2, (.t 75))], [5, 8, 11]⟩, ⟨(some 77), none, .call 56 [(.t 64), (.c (.int .i64 5)), (.t 65), (.t 66), (.t 76)], [0, 1, 2, 12,
    11]⟩, ⟨none, none, .store 5 (.t 4) (.t 77), [13, 13, 0, 1, 2, 3, 4, 5, 6, 7, 8, 9, 10, 11, 12, 13]⟩]
@[reducible] def F68 : XF := ⟨78, (.seq (.reg false [] R68_0) (.seq (.reg false [] R68_1) (.seq (.reg false [] R68_2) (.seq (.reg false [] R68_3) (.seq (.reg false [] R68_4) (.seq (.reg false [] R68_5) (.seq (.reg false [] R68_6) (.seq (.blk 0 (.loop L68_0)) (.seq (.reg false [] R68_11) (.seq (.reg false [] R68_12) (.seq (.seq (.reg false [] R68_13) (.cond (.t 48) (.reg false [] R68_14) .skip))
    (.seq (.reg false [] R68_15) (.seq (.seq (.reg false [] R68_16) (.cond (.t 56) (.reg false [] R68_17) (.reg false [] R68_18))) (.seq (.reg false [] R68_19) .ret)))))))))))))), [(4, some (5, true))]⟩
/-- (*codesearch/codesearchref12.parser).variable -/
@[reducible] def R69_0 : List XO := [⟨(some 2), none, .alloc [(.int .i64 0), (.str (ByteArray.mk #[])), (.int .i64 0), (.int .i64 0), .nls], []⟩]
@[reducible] def R69_1 : List XO := [⟨(some 8), none, .mv (.t 0), []⟩, ⟨(some 9), none, .call 53 [(.t 8)], [0]⟩, ⟨(some 3), none, .mv (.t 9), [1, 1, 0, 1]⟩]
@[reducible] def R69_2 : List XO := [⟨(some 10), none, .mv (.t 0), []⟩, ⟨(some 11), none, .call 55 [(.t 10), (.c (.int .i64 2)), (.c (.str (ByteArray.mk #[118, 97, 114])))], [0]⟩]
@[reducible] def R69_3 : List XO := [⟨(some 12), none, .mv (.t 0), []⟩, ⟨(some 13), none, .call 54 [(.t 12), (.c (.int .i64 1))], [0]⟩, ⟨(some 4), none, .mv (.t 13), [1, 1, 0, 1]⟩]
@[reducible] def R69_4 : List XO := [⟨(some 14), none, .mv (.t 0), []⟩, ⟨(some 15), none, .call 55 [(.t 14), (.c (.int .i64 5)), (.c (.str (ByteArray.mk #[58])))], [0]⟩]
@[reducible] def R69_5 : List XO := [⟨(some 16), none, .mv (.t 0), []⟩, ⟨(some 17), none, .call 75 [(.t 16)], [0]⟩, ⟨(some 5), none, .alloc [(.int .i64 0), (.str (ByteArray.mk #[])), (.int .i64 0), (.int .i64 0), .nls], []⟩, ⟨none, none, .store 5 (.t 5) (.t 17), [2, 1, 1, 0, 1, 2]⟩]
@[reducible] def R69_6 : List XO := [⟨(some 18), none, .mv (.t 0), []⟩, ⟨(some 19), none, .call 65 [(.t 18)], [0]⟩, ⟨(some 6), none, .mv (.t 19), [1, 1, 0, 1]⟩]
@[reducible] def R69_7 : List XO := [⟨(some 7), none, .mv (.c .nls), []⟩]
@[reducible] def R69_8 : List XO := [⟨(some 20), none, .mv (.t 0), []⟩, ⟨(some 21), none, .call 64 [(.t 20), (.c (.int .i64 5)), (.c (.str (ByteArray.mk #[61])))], [0]⟩]
@[reducible] def R69_9 : List XO := [⟨(some 22), none, .mv (.t 7), []⟩, ⟨(some 23), none, .mv (.t 0), []⟩, ⟨(some 24), none, .call 81 [(.t 23), (.c (.int .i64 0))], [1]⟩, ⟨(some 25), none, .bsl 27 5 [(.int .i64 0), (.str (ByteArray.mk #[])), (.int .i64 0), (.int .i64 0), .nls] 1 [(0, (.t 24))], [2]⟩, ⟨(some 26), none, .app 27 5 64 (.t 22) (.t 25), [0, 3, 2]⟩, ⟨(some 7), none, .mv (.t 26), [4, 4, 0,
    1, 2, 3, 4]⟩]
@[reducible] def R69_10 : List XO := [⟨(some 27), none, .mv (.t 0), []⟩, ⟨(some 28), none, .call 55 [(.t 27), (.c (.int .i64 5)), (.c (.str (ByteArray.mk #[59])))], [0]⟩]
@[reducible] def R69_11 : List XO := [⟨(some 29), none, .mv (.t 0), []⟩, ⟨(some 30), none, .mv (.t 4), []⟩, ⟨(some 31), none, .mv (.t 3), []⟩, ⟨(some 32), none, .load 5 true (.t 5), []⟩, ⟨(some 33), none, .mv (.t 7), []⟩, ⟨(some 34), none, .mv (.t 6), []⟩, ⟨(some 35), none, .call 78 [(.t 33), (.t 34)], [4, 5]⟩, ⟨(some 36), none, .bsf 27 5 [(.int .i64 0), (.str (ByteArray.mk #[])), (.int .i64 0),
    (.int .i64 0), .nls] 2 [(0, (.t 32)), (1, (.t 35))], [3, 6]⟩, ⟨(some 37), none, .call 56 [(.t 29), (.c (.int .i64 6)), (.t 30), (.t 31), (.t 36)], [0, 1, 2, 7, 6]⟩, ⟨none, none, .store 5 (.t 2) (.t 37), [8, 8, 0, 1, 2, 3, 4, 5, 6, 7, 8]⟩]
@[reducible] def F69 : XF := ⟨38, (.seq (.reg false [] R69_0) (.seq (.reg false [] R69_1) (.seq (.reg false [] R69_2) (.seq (.reg false [] R69_3) (.seq (.reg false [] R69_4) (.seq (.reg false [] R69_5) (.seq (.reg false [] R69_6) (.seq (.reg false [] R69_7) (.seq (.seq (.reg false [] R69_8) (.cond (.t 21) (.reg false [] R69_9) .skip)) (.seq (.reg false [] R69_10) (.seq (.reg true [(3, 6)] R69_11)
    .ret))))))))))), [(2, some (5, true))]⟩
/-- strings.Index -/
@[reducible] def R70_0 : List XO := [⟨(some 4), none, .mv (.c (.int .i64 0)), []⟩]
@[reducible] def R70_1 : List XO := [⟨(some 5), none, .mv (.t 0), []⟩, ⟨(some 6), none, .mv (.t 1), []⟩, ⟨(some 7), none, .call 82 [(.t 5), (.t 6)], [0, 1]⟩, ⟨(some 4), none, .mv (.t 7), [2, 2, 0, 1, 2]⟩]
@[reducible] def F70 : XF := ⟨8, (.seq (.reg false [] R70_0) (.seq (.reg false [] R70_1) .ret)), [(4, none)]⟩
/-- codesearch/codesearchref11.number -/
@[reducible] def R71_0 : List XO := [⟨(some 4), none, .alloc [(.int .i64 0), (.str (ByteArray.mk #[])), (.int .i64 0), (.int .i64 0)], []⟩, ⟨(some 5), none, .mv (.c (.int .i64 0)), []⟩]
@[reducible] def R71_1 : List XO := [⟨(some 8), none, .mv (.t 1), []⟩, ⟨(some 6), none, .mv (.t 8), [0, 0]⟩]
@[reducible] def R71_2 : List XO := [⟨(some 9), none, .mv (.t 6), []⟩, ⟨(some 10), none, .mv (.t 0), []⟩, ⟨(some 11), none, .len true (.t 10), [1]⟩, ⟨(some 12), none, .bin false .lss (.t 9) (.t 11), [0, 2]⟩, ⟨(some 13), none, .mv (.t 12), [3]⟩, ⟨(some 14), (some (13, true)), .mv (.t 0), [4]⟩, ⟨(some 15), (some (13, true)), .mv (.t 6), [4]⟩, ⟨(some 16), (some (13, true)), .ixS (.t 14) (.t 15), [5,
    6, 4]⟩, ⟨(some 17), (some (13, true)), .call 50 [(.t 16)], [7, 4, 4]⟩, ⟨(some 18), none, .pick (.t 13) (.t 17) (.c (.bool false)), [4, 8]⟩]
@[reducible] def R71_3 : List XO := [⟨(some 19), none, .mv (.t 6), []⟩, ⟨(some 20), none, .bin false .add (.t 19) (.c (.int .i64 1)), [0]⟩, ⟨(some 6), none, .mv (.t 20), [1, 0, 1]⟩]
@[reducible] def L71_0 : XC := (.seq (.seq (.reg false [] R71_2) (.cond (.t 18) .skip (.exit 0))) (.blk 1 (.reg false [] R71_3)))
@[reducible] def R71_4 : List XO := [⟨(some 21), none, .mv (.t 0), []⟩, ⟨(some 22), none, .mv (.t 1), []⟩, ⟨(some 23), none, .mv (.t 6), []⟩, ⟨(some 24), none, .slS (.t 21) (some (.t 22)) (some (.t 23)), [0, 1, 2]⟩, ⟨(some 25), none, .mv (.t 1), []⟩, ⟨(some 26), none, .mv (.t 6), []⟩, ⟨(some 27), none, .bdf [(.int .i64 0), (.str (ByteArray.mk #[])), (.int .i64 0), (.int .i64 0)] [(0, 1, (.c (.int
    .i64 3))), (1, 1, (.t 24)), (2, 1, (.t 25)), (3, 1, (.t 26))], [3, 4, 5]⟩, ⟨(some 7), none, .alloc [(.int .i64 0), (.str (ByteArray.mk #[])), (.int .i64 0), (.int .i64 0)], []⟩, ⟨none, none, .store 4 (.t 7) (.t 27), [7, 6, 0, 1, 2, 3, 4, 5, 6, 7]⟩]
@[reducible] def R71_5 : List XO := [⟨(some 28), none, .mv (.t 0), []⟩, ⟨(some 29), none, .mv (.t 1), []⟩, ⟨(some 30), none, .ixS (.t 28) (.t 29), [0, 1]⟩, ⟨(some 31), none, .bin false .eql (.t 30) (.c (.int .u8 48)), [2]⟩, ⟨(some 32), none, .mv (.t 31), [3]⟩, ⟨(some 33), (some (32, true)), .mv (.t 6), [4]⟩, ⟨(some 34), (some (32, true)), .mv (.t 1), [4]⟩, ⟨(some 35), (some (32, true)), .bin false
    .add (.t 34) (.c (.int .i64 1)), [6, 4]⟩, ⟨(some 36), (some (32, true)), .bin false .gtr (.t 33) (.t 35), [5, 7, 4]⟩, ⟨(some 37), none, .pick (.t 32) (.t 36) (.c (.bool false)), [4, 8]⟩]
@[reducible] def R71_6 : List XO := [⟨(some 38), none, .load 4 true (.t 7), []⟩, ⟨none, none, .store 4 (.t 4) (.t 38), [0, 0]⟩, ⟨(some 5), none, .mv (.c (.int .i64 11)), [1, 0, 1]⟩]
@[reducible] def R71_7 : List XO := [⟨(some 39), none, .mv (.t 6), []⟩, ⟨(some 40), none, .mv (.t 1), []⟩, ⟨(some 41), none, .bin false .add (.t 40) (.c (.int .i64 9)), [1]⟩, ⟨(some 42), none, .bin false .gtr (.t 39) (.t 41), [0, 2]⟩]
@[reducible] def R71_8 : List XO := [⟨(some 43), none, .load 4 true (.t 7), []⟩, ⟨none, none, .store 4 (.t 4) (.t 43), [0, 0]⟩, ⟨(some 5), none, .mv (.c (.int .i64 4)), [1, 0, 1]⟩]
@[reducible] def R71_9 : List XO := [⟨(some 44), none, .load 4 true (.t 7), []⟩, ⟨none, none, .store 4 (.t 4) (.t 44), [0, 0]⟩, ⟨(some 5), none, .mv (.c (.int .i64 0)), [1, 0, 1]⟩]
@[reducible] def F71 : XF := ⟨45, (.seq (.reg false [] R71_0) (.seq (.reg false [] R71_1) (.seq (.blk 0 (.loop L71_0)) (.seq (.reg false [] R71_4) (.seq (.seq (.reg false [] R71_5) (.cond (.t 37) (.seq (.reg false [] R71_6) .ret) .skip)) (.seq (.seq (.reg false [] R71_7) (.cond (.t 42) (.seq (.reg false [] R71_8) .ret) .skip)) (.seq (.reg false [] R71_9) .ret))))))), [(4, some (4, true)), (5,
    none)]⟩
/-- codesearch/codesearchref11.literal -/
@[reducible] def R72_0 : List XO := [⟨(some 4), none, .alloc [(.int .i64 0), (.str (ByteArray.mk #[])), (.int .i64 0), (.int .i64 0)], []⟩, ⟨(some 5), none, .mv (.c (.int .i64 0)), []⟩]
@[reducible] def R72_1 : List XO := [⟨(some 9), none, .bsl 5 1 [(.int .u8 0)] 0 [], []⟩, ⟨(some 6), none, .mv (.t 9), [0, 0]⟩]
@[reducible] def R72_2 : List XO := [⟨(some 10), none, .mv (.t 1), []⟩, ⟨(some 11), none, .bin false .add (.t 10) (.c (.int .i64 1)), [0]⟩, ⟨(some 7), none, .mv (.t 11), [1, 0, 1]⟩]
@[reducible] def R72_3 : List XO := [⟨(some 12), none, .mv (.t 7), []⟩, ⟨(some 13), none, .mv (.t 0), []⟩, ⟨(some 14), none, .len true (.t 13), [1]⟩, ⟨(some 15), none, .bin false .lss (.t 12) (.t 14), [0, 2]⟩, ⟨(some 16), none, .mv (.t 15), [3]⟩, ⟨(some 17), (some (16, true)), .mv (.t 0), [4]⟩, ⟨(some 18), (some (16, true)), .mv (.t 7), [4]⟩, ⟨(some 19), (some (16, true)), .ixS (.t 17) (.t 18), [5,
    6, 4]⟩, ⟨(some 20), (some (16, true)), .bin false .neq (.t 19) (.c (.int .u8 34)), [7, 4]⟩, ⟨(some 21), none, .pick (.t 16) (.t 20) (.c (.bool false)), [4, 8]⟩]
@[reducible] def R72_4 : List XO := [⟨(some 22), none, .mv (.t 0), []⟩, ⟨(some 23), none, .mv (.t 7), []⟩, ⟨(some 24), none, .ixS (.t 22) (.t 23), [0, 1]⟩, ⟨(some 8), none, .mv (.t 24), [2, 0, 1, 2]⟩]
@[reducible] def R72_5 : List XO := [⟨(some 25), none, .mv (.t 8), []⟩, ⟨(some 26), none, .bin false .lss (.t 25) (.c (.int .u8 32)), [0]⟩, ⟨(some 27), none, .mv (.t 26), [1]⟩, ⟨(some 28), (some (27, false)), .mv (.t 8), [2]⟩, ⟨(some 29), (some (27, false)), .bin false .gtr (.t 28) (.c (.int .u8 126)), [3, 2]⟩, ⟨(some 30), none, .pick (.t 27) (.c (.bool true)) (.t 29), [2, 4]⟩]
@[reducible] def R72_6 : List XO := [⟨(some 31), none, .bdf [(.int .i64 0), (.str (ByteArray.mk #[])), (.int .i64 0), (.int .i64 0)] [], []⟩, ⟨none, none, .store 4 (.t 4) (.t 31), [0, 0]⟩, ⟨(some 5), none, .mv (.c (.int .i64 11)), [1, 0, 1]⟩]
@[reducible] def R72_7 : List XO := [⟨(some 32), none, .mv (.t 8), []⟩, ⟨(some 33), none, .bin false .eql (.t 32) (.c (.int .u8 92)), [0]⟩]
@[reducible] def R72_8 : List XO := [⟨(some 34), none, .mv (.t 7), []⟩, ⟨(some 35), none, .bin false .add (.t 34) (.c (.int .i64 1)), [0]⟩, ⟨(some 7), none, .mv (.t 35), [1, 0, 1]⟩]
@[reducible] def R72_9 : List XO := [⟨(some 36), none, .mv (.t 7), []⟩, ⟨(some 37), none, .mv (.t 0), []⟩, ⟨(some 38), none, .len true (.t 37), [1]⟩, ⟨(some 39), none, .bin false .geq (.t 36) (.t 38), [0, 2]⟩, ⟨(some 40), none, .mv (.t 39), [3]⟩, ⟨(some 41), (some (40, false)), .mv (.t 0), [4]⟩, ⟨(some 42), (some (40, false)), .mv (.t 7), [4]⟩, ⟨(some 43), (some (40, false)), .ixS (.t 41) (.t 42),
    [5, 6, 4]⟩, ⟨(some 44), (some (40, false)), .bin false .neq (.t 43) (.c (.int .u8 34)), [7, 4]⟩, ⟨(some 45), (some (40, false)), .mv (.t 44), [8, 4, 4]⟩, ⟨(some 46), (some (45, true)), .mv (.t 0), [9]⟩, ⟨(some 47), (some (45, true)), .mv (.t 7), [9]⟩, ⟨(some 48), (some (45, true)), .ixS (.t 46) (.t 47), [10, 11, 9]⟩, ⟨(some 49), (some (45, true)), .bin false .neq (.t 48) (.c (.int .u8 92)),
    [12, 9]⟩, ⟨(some 50), (some (40, false)), .pick (.t 45) (.t 49) (.c (.bool false)), [9, 13, 4]⟩, ⟨(some 51), (some (40, false)), .mv (.t 50), [14, 9, 4]⟩, ⟨(some 52), (some (51, true)), .mv (.t 0), [15]⟩, ⟨(some 53), (some (51, true)), .mv (.t 7), [15]⟩, ⟨(some 54), (some (51, true)), .ixS (.t 52) (.t 53), [16, 17, 15]⟩, ⟨(some 55), (some (51, true)), .bin false .neq (.t 54) (.c (.int .u8
    110)), [18, 15]⟩, ⟨(some 56), (some (40, false)), .pick (.t 51) (.t 55) (.c (.bool false)), [15, 19, 4]⟩, ⟨(some 57), none, .pick (.t 40) (.c (.bool true)) (.t 56), [4, 20]⟩]
@[reducible] def R72_10 : List XO := [⟨(some 58), none, .bdf [(.int .i64 0), (.str (ByteArray.mk #[])), (.int .i64 0), (.int .i64 0)] [], []⟩, ⟨none, none, .store 4 (.t 4) (.t 58), [0, 0]⟩, ⟨(some 5), none, .mv (.c (.int .i64 11)), [1, 0, 1]⟩]
@[reducible] def R72_11 : List XO := [⟨(some 59), none, .mv (.t 0), []⟩, ⟨(some 60), none, .mv (.t 7), []⟩, ⟨(some 61), none, .ixS (.t 59) (.t 60), [0, 1]⟩, ⟨(some 8), none, .mv (.t 61), [2, 0, 1, 2]⟩]
@[reducible] def R72_12 : List XO := [⟨(some 62), none, .mv (.t 8), []⟩, ⟨(some 63), none, .bin false .eql (.t 62) (.c (.int .u8 110)), [0]⟩]
@[reducible] def R72_13 : List XO := [⟨(some 8), none, .mv (.c (.int .u8 10)), []⟩]
@[reducible] def R72_14 : List XO := [⟨(some 64), none, .mv (.t 6), []⟩, ⟨(some 65), none, .mv (.t 8), []⟩, ⟨(some 66), none, .bsl 5 1 [(.int .u8 0)] 1 [(0, (.t 65))], [1]⟩, ⟨(some 67), none, .app 5 1 1 (.t 64) (.t 66), [0, 2]⟩, ⟨(some 6), none, .mv (.t 67), [3, 3, 0, 1, 2, 3]⟩]
@[reducible] def R72_15 : List XO := [⟨(some 68), none, .mv (.t 7), []⟩, ⟨(some 69), none, .bin false .add (.t 68) (.c (.int .i64 1)), [0]⟩, ⟨(some 7), none, .mv (.t 69), [1, 0, 1]⟩]
@[reducible] def L72_0 : XC := (.seq (.seq (.reg false [] R72_3) (.cond (.t 21) .skip (.exit 0))) (.blk 1 (.seq (.reg false [] R72_4) (.seq (.seq (.reg false [] R72_5) (.cond (.t 30) (.seq (.reg false [] R72_6) .ret) .skip)) (.seq (.seq (.reg false [] R72_7) (.cond (.t 33) (.seq (.reg false [] R72_8) (.seq (.seq (.reg false [] R72_9) (.cond (.t 57) (.seq (.reg false [] R72_10) .ret) .skip)) (.seq
    (.reg false [] R72_11) (.seq (.reg false [] R72_12) (.cond (.t 63) (.reg false [] R72_13) .skip))))) .skip)) (.seq (.reg false [] R72_14) (.reg false [] R72_15)))))))
@[reducible] def R72_16 : List XO := [⟨(some 70), none, .mv (.t 7), []⟩, ⟨(some 71), none, .mv (.t 0), []⟩, ⟨(some 72), none, .len true (.t 71), [1]⟩, ⟨(some 73), none, .bin false .geq (.t 70) (.t 72), [0, 2]⟩]
@[reducible] def R72_17 : List XO := [⟨(some 74), none, .bdf [(.int .i64 0), (.str (ByteArray.mk #[])), (.int .i64 0), (.int .i64 0)] [], []⟩, ⟨none, none, .store 4 (.t 4) (.t 74), [0, 0]⟩, ⟨(some 5), none, .mv (.c (.int .i64 11)), [1, 0, 1]⟩]
@[reducible] def R72_18 : List XO := [⟨(some 75), none, .mv (.t 6), []⟩, ⟨(some 76), none, .len false (.t 75), [0]⟩, ⟨(some 77), none, .bin false .gtr (.t 76) (.c (.int .i64 60)), [1]⟩]
@[reducible] def R72_19 : List XO := [⟨(some 78), none, .bdf [(.int .i64 0), (.str (ByteArray.mk #[])), (.int .i64 0), (.int .i64 0)] [], []⟩, ⟨none, none, .store 4 (.t 4) (.t 78), [0, 0]⟩, ⟨(some 5), none, .mv (.c (.int .i64 4)), [1, 0, 1]⟩]
@[reducible] def R72_20 : List XO := [⟨(some 79), none, .mv (.t 6), []⟩, ⟨(some 80), none, .bts (.t 79), [0]⟩, ⟨(some 81), none, .mv (.t 1), []⟩, ⟨(some 82), none, .mv (.t 7), []⟩, ⟨(some 83), none, .bin false .add (.t 82) (.c (.int .i64 1)), [3]⟩, ⟨(some 84), none, .bdf [(.int .i64 0), (.str (ByteArray.mk #[])), (.int .i64 0), (.int .i64 0)] [(0, 1, (.c (.int .i64 4))), (1, 1, (.t 80)), (2, 1, (.t
    81)), (3, 1, (.t 83))], [1, 2, 4]⟩, ⟨none, none, .store 4 (.t 4) (.t 84), [5, 0, 1, 2, 3, 4, 5]⟩, ⟨(some 5), none, .mv (.c (.int .i64 0)), [6, 0, 1, 2, 3, 4, 5, 6]⟩]
@[reducible] def F72 : XF := ⟨85, (.seq (.reg false [] R72_0) (.seq (.reg false [] R72_1) (.seq (.reg false [] R72_2) (.seq (.blk 0 (.loop L72_0)) (.seq (.seq (.reg false [] R72_16) (.cond (.t 73) (.seq (.reg false [] R72_17) .ret) .skip)) (.seq (.seq (.reg false [] R72_18) (.cond (.t 77) (.seq (.reg false [] R72_19) .ret) .skip)) (.seq (.reg false [] R72_20) .ret))))))), [(4, some (4, true)), (5,
    none)]⟩
/-- codesearch/codesearchref11.meta -/
@[reducible] def R73_0 : List XO := [⟨(some 4), none, .alloc [(.int .i64 0), (.str (ByteArray.mk #[])), (.int .i64 0), (.int .i64 0)], []⟩, ⟨(some 5), none, .mv (.c (.int .i64 0)), []⟩]
@[reducible] def R73_1 : List XO := [⟨(some 8), none, .mv (.t 1), []⟩, ⟨(some 9), none, .bdf [(.int .i64 0), (.str (ByteArray.mk #[])), (.int .i64 0), (.int .i64 0)] [(0, 1, (.c (.int .i64 6))), (2, 1, (.t 8))], [0]⟩, ⟨(some 6), none, .alloc [(.int .i64 0), (.str (ByteArray.mk #[])), (.int .i64 0), (.int .i64 0)], []⟩, ⟨none, none, .store 4 (.t 6) (.t 9), [2, 1, 0, 1, 2]⟩]
@[reducible] def R73_2 : List XO := [⟨(some 10), none, .mv (.t 1), []⟩, ⟨(some 11), none, .bin false .add (.t 10) (.c (.int .i64 1)), [0]⟩, ⟨(some 7), none, .mv (.t 11), [1, 0, 1]⟩]
@[reducible] def R73_3 : List XO := [⟨(some 12), none, .mv (.t 7), []⟩, ⟨(some 13), none, .mv (.t 0), []⟩, ⟨(some 14), none, .len true (.t 13), [1]⟩, ⟨(some 15), none, .bin false .lss (.t 12) (.t 14), [0, 2]⟩, ⟨(some 16), none, .mv (.t 15), [3]⟩, ⟨(some 17), (some (16, true)), .mv (.t 0), [4]⟩, ⟨(some 18), (some (16, true)), .mv (.t 7), [4]⟩, ⟨(some 19), (some (16, true)), .ixS (.t 17) (.t 18), [5,
    6, 4]⟩, ⟨(some 20), (some (16, true)), .bin false .eql (.t 19) (.c (.int .u8 36)), [7, 4]⟩, ⟨(some 21), none, .pick (.t 16) (.t 20) (.c (.bool false)), [4, 8]⟩]
@[reducible] def R73_4 : List XO := [⟨(some 22), none, .fad 0 (.t 6), []⟩, ⟨none, none, .store 1 (.t 22) (.c (.int .i64 7)), [0]⟩]
@[reducible] def R73_5 : List XO := [⟨(some 23), none, .mv (.t 7), []⟩, ⟨(some 24), none, .bin false .add (.t 23) (.c (.int .i64 1)), [0]⟩, ⟨(some 7), none, .mv (.t 24), [1, 0, 1]⟩]
@[reducible] def R73_6 : List XO := [⟨(some 25), none, .mv (.t 0), []⟩, ⟨(some 26), none, .mv (.t 7), []⟩, ⟨(some 27), none, .call 40 [(.t 25), (.t 26)], [0, 1]⟩, ⟨(some 28), none, .fad 3 (.t 6), [0, 1, 2]⟩, ⟨none, none, .store 1 (.t 28) (.t 27), [3, 2, 2, 0, 1, 2]⟩]
@[reducible] def R73_7 : List XO := [⟨(some 29), none, .mv (.t 0), []⟩, ⟨(some 30), none, .mv (.t 7), []⟩, ⟨(some 31), none, .fad 3 (.t 6), []⟩, ⟨(some 32), none, .load 1 false (.t 31), [2]⟩, ⟨(some 33), none, .slS (.t 29) (some (.t 30)) (some (.t 32)), [0, 1, 3]⟩, ⟨(some 34), none, .fad 1 (.t 6), [0, 1, 2, 3, 4]⟩, ⟨none, none, .store 1 (.t 34) (.t 33), [5, 4, 0, 1, 2, 3, 4]⟩]
@[reducible] def R73_8 : List XO := [⟨(some 35), none, .fad 1 (.t 6), []⟩, ⟨(some 36), none, .load 1 false (.t 35), [0]⟩, ⟨(some 37), none, .bin false .eql (.t 36) (.c (.str (ByteArray.mk #[]))), [1]⟩, ⟨(some 38), none, .mv (.t 37), [2]⟩, ⟨(some 39), (some (38, false)), .fad 1 (.t 6), [3]⟩, ⟨(some 40), (some (38, false)), .load 1 false (.t 39), [4, 3]⟩, ⟨(some 41), (some (38, false)), .ixS (.t 40)
    (.c (.int .i64 0)), [5, 3]⟩, ⟨(some 42), (some (38, false)), .call 39 [(.t 41)], [6, 3, 3]⟩, ⟨(some 43), (some (38, false)), .un .not (.t 42), [7, 3]⟩, ⟨(some 44), none, .pick (.t 38) (.c (.bool true)) (.t 43), [3, 8]⟩, ⟨(some 45), none, .mv (.t 44), [9, 7]⟩, ⟨(some 46), (some (45, false)), .fad 1 (.t 6), [10]⟩, ⟨(some 47), (some (45, false)), .load 1 false (.t 46), [11, 10]⟩, ⟨(some 48), (some
    (45, false)), .call 41 [(.t 47)], [12, 10, 10]⟩, ⟨(some 49), none, .pick (.t 45) (.c (.bool true)) (.t 48), [10, 13]⟩]
@[reducible] def R73_9 : List XO := [⟨(some 50), none, .load 4 true (.t 6), []⟩, ⟨none, none, .store 4 (.t 4) (.t 50), [0, 0]⟩, ⟨(some 5), none, .mv (.c (.int .i64 11)), [1, 0, 1]⟩]
@[reducible] def R73_10 : List XO := [⟨(some 51), none, .fad 1 (.t 6), []⟩, ⟨(some 52), none, .load 1 false (.t 51), [0]⟩, ⟨(some 53), none, .len true (.t 52), [1]⟩, ⟨(some 54), none, .bin false .gtr (.t 53) (.c (.int .i64 24)), [2]⟩]
@[reducible] def R73_11 : List XO := [⟨(some 55), none, .load 4 true (.t 6), []⟩, ⟨none, none, .store 4 (.t 4) (.t 55), [0, 0]⟩, ⟨(some 5), none, .mv (.c (.int .i64 4)), [1, 0, 1]⟩]
@[reducible] def R73_12 : List XO := [⟨(some 56), none, .load 4 true (.t 6), []⟩, ⟨none, none, .store 4 (.t 4) (.t 56), [0, 0]⟩, ⟨(some 5), none, .mv (.c (.int .i64 0)), [1, 0, 1]⟩]
@[reducible] def F73 : XF := ⟨57, (.seq (.reg false [] R73_0) (.seq (.reg false [] R73_1) (.seq (.reg false [] R73_2) (.seq (.seq (.reg false [] R73_3) (.cond (.t 21) (.seq (.reg false [] R73_4) (.reg false [] R73_5)) .skip)) (.seq (.reg false [] R73_6) (.seq (.reg false [] R73_7) (.seq (.seq (.reg false [] R73_8) (.cond (.t 49) (.seq (.reg false [] R73_9) .ret) .skip)) (.seq (.seq (.reg false []
    R73_10) (.cond (.t 54) (.seq (.reg false [] R73_11) .ret) .skip)) (.seq (.reg false [] R73_12) .ret))))))))), [(4, some (4, true)), (5, none)]⟩
/-- codesearch/codesearchref11.Mark -/
@[reducible] def R74_0 : List XO := [⟨(some 2), none, .mv (.c (.bool false)), []⟩]
@[reducible] def R74_1 : List XO := [⟨(some 5), none, .bsl 9 1 [(.str (ByteArray.mk #[]))] 21 [(0, (.c (.str (ByteArray.mk #[123])))), (1, (.c (.str (ByteArray.mk #[125])))), (2, (.c (.str (ByteArray.mk #[40])))), (3, (.c (.str (ByteArray.mk #[41])))), (4, (.c (.str (ByteArray.mk #[59])))), (5, (.c (.str (ByteArray.mk #[44])))), (6, (.c (.str (ByteArray.mk #[58])))), (7, (.c (.str (ByteArray.mk
    #[46])))), (8, (.c (.str (ByteArray.mk #[61])))), (9, (.c (.str (ByteArray.mk #[61, 61])))), (10, (.c (.str (ByteArray.mk #[33, 61])))), (11, (.c (.str (ByteArray.mk #[60])))), (12, (.c (.str (ByteArray.mk #[62])))), (13, (.c (.str (ByteArray.mk #[43])))), (14, (.c (.str (ByteArray.mk #[45])))), (15, (.c (.str (ByteArray.mk #[42])))), (16, (.c (.str (ByteArray.mk #[47])))), (17, (.c (.str
    (ByteArray.mk #[37])))), (18, (.c (.str (ByteArray.mk #[33])))), (19, (.c (.str (ByteArray.mk #[38, 38])))), (20, (.c (.str (ByteArray.mk #[124, 124]))))], []⟩, ⟨(some 3), none, .mv (.t 5), [0, 0]⟩]
@[reducible] def R74_2 : List XO := [⟨(some 4), none, .mv (.c (.int .i64 0)), []⟩]
@[reducible] def R74_3 : List XO := [⟨(some 6), none, .mv (.t 4), []⟩, ⟨(some 7), none, .mv (.t 3), []⟩, ⟨(some 8), none, .len false (.t 7), [1]⟩, ⟨(some 9), none, .bin false .lss (.t 6) (.t 8), [0, 2]⟩]
@[reducible] def R74_4 : List XO := [⟨(some 12), none, .mv (.t 3), []⟩, ⟨(some 13), none, .mv (.t 4), []⟩, ⟨(some 14), none, .iaS 1 (.t 12) (.t 13), [0, 1]⟩, ⟨(some 15), none, .load 1 false (.t 14), [2]⟩, ⟨(some 16), none, .mv (.t 0), []⟩, ⟨(some 17), none, .bin false .eql (.t 15) (.t 16), [3, 4]⟩]
@[reducible] def R74_5 : List XO := [⟨(some 2), none, .mv (.c (.bool true)), []⟩]
@[reducible] def R74_6 : List XO := [⟨(some 10), none, .mv (.t 4), []⟩, ⟨(some 11), none, .bin false .add (.t 10) (.c (.int .i64 1)), [0]⟩, ⟨(some 4), none, .mv (.t 11), [1, 0, 1]⟩]
@[reducible] def L74_0 : XC := (.seq (.seq (.reg false [] R74_3) (.cond (.t 9) .skip (.exit 0))) (.seq (.blk 1 (.seq (.reg false [] R74_4) (.cond (.t 17) (.seq (.reg false [] R74_5) .ret) .skip))) (.reg false [] R74_6)))
@[reducible] def R74_7 : List XO := [⟨(some 2), none, .mv (.c (.bool false)), []⟩]
@[reducible] def F74 : XF := ⟨18, (.seq (.reg false [] R74_0) (.seq (.reg false [] R74_1) (.seq (.seq (.reg false [] R74_2) (.blk 0 (.loop L74_0))) (.seq (.reg false [] R74_7) .ret)))), [(2, none)]⟩
/-- (*codesearch/codesearchref12.parser).typ -/
@[reducible] def R75_0 : List XO := [⟨(some 2), none, .alloc [(.int .i64 0), (.str (ByteArray.mk #[])), (.int .i64 0), (.int .i64 0), .nls], []⟩]
@[reducible] def R75_1 : List XO := [⟨(some 5), none, .mv (.t 0), []⟩, ⟨(some 6), none, .call 63 [(.t 5)], [0]⟩, ⟨(some 7), none, .bin false .eql (.t 6) (.c (.int .i64 6)), [1]⟩]
@[reducible] def R75_2 : List XO := [⟨(some 8), none, .mv (.t 0), []⟩, ⟨(some 9), none, .call 83 [(.t 8), (.c (.bool false))], [0]⟩, ⟨none, none, .store 5 (.t 2) (.t 9), [1, 1, 0, 1]⟩]
@[reducible] def R75_3 : List XO := [⟨(some 10), none, .mv (.t 0), []⟩, ⟨(some 11), none, .call 53 [(.t 10)], [0]⟩, ⟨(some 3), none, .mv (.t 11), [1, 1, 0, 1]⟩]
@[reducible] def R75_4 : List XO := [⟨(some 12), none, .mv (.t 0), []⟩, ⟨(some 13), none, .call 84 [(.t 12)], [0]⟩, ⟨(some 4), none, .mv (.t 13), [1, 1, 0, 1]⟩]
@[reducible] def R75_5 : List XO := [⟨(some 14), none, .mv (.t 0), []⟩, ⟨(some 15), none, .mv (.t 4), []⟩, ⟨(some 16), none, .mv (.t 3), []⟩, ⟨(some 17), none, .call 56 [(.t 14), (.c (.int .i64 8)), (.t 15), (.t 16), (.c .nls)], [0, 1, 2]⟩, ⟨none, none, .store 5 (.t 2) (.t 17), [3, 3, 0, 1, 2, 3]⟩]
@[reducible] def F75 : XF := ⟨18, (.seq (.reg false [] R75_0) (.seq (.seq (.reg false [] R75_1) (.cond (.t 7) (.seq (.reg false [] R75_2) .ret) .skip)) (.seq (.reg false [] R75_3) (.seq (.reg false [] R75_4) (.seq (.reg false [] R75_5) .ret))))), [(2, some (5, true))]⟩
/-- (*codesearch/codesearchref12.parser).types -/
@[reducible] def R76_0 : List XO := [⟨(some 2), none, .mv (.c .nls), []⟩]
@[reducible] def R76_1 : List XO := [⟨(some 3), none, .mv (.c .nls), []⟩]
@[reducible] def R76_2 : List XO := [⟨(some 4), none, .mv (.t 0), []⟩, ⟨(some 5), none, .call 63 [(.t 4)], [0]⟩, ⟨(some 6), none, .bin false .eql (.t 5) (.c (.int .i64 7)), [1]⟩]
@[reducible] def R76_3 : List XO := [⟨(some 7), none, .mv (.t 3), []⟩, ⟨(some 8), none, .mv (.t 0), []⟩, ⟨(some 9), none, .call 83 [(.t 8), (.c (.bool false))], [1]⟩, ⟨(some 10), none, .bsl 27 5 [(.int .i64 0), (.str (ByteArray.mk #[])), (.int .i64 0), (.int .i64 0), .nls] 1 [(0, (.t 9))], [2]⟩, ⟨(some 11), none, .app 27 5 64 (.t 7) (.t 10), [0, 3, 2]⟩, ⟨(some 3), none, .mv (.t 11), [4, 4, 0, 1, 2,
    3, 4]⟩]
@[reducible] def R76_4 : List XO := [⟨(some 12), none, .mv (.t 3), []⟩, ⟨(some 13), none, .mv (.t 0), []⟩, ⟨(some 14), none, .call 75 [(.t 13)], [1]⟩, ⟨(some 15), none, .bsl 27 5 [(.int .i64 0), (.str (ByteArray.mk #[])), (.int .i64 0), (.int .i64 0), .nls] 1 [(0, (.t 14))], [2]⟩, ⟨(some 16), none, .app 27 5 64 (.t 12) (.t 15), [0, 3, 2]⟩, ⟨(some 3), none, .mv (.t 16), [4, 4, 0, 1, 2, 3, 4]⟩]
@[reducible] def R76_5 : List XO := [⟨(some 17), none, .mv (.t 0), []⟩, ⟨(some 18), none, .call 64 [(.t 17), (.c (.int .i64 5)), (.c (.str (ByteArray.mk #[44])))], [0]⟩, ⟨(some 19), none, .un .not (.t 18), [1]⟩]
@[reducible] def R76_6 : List XO := [⟨(some 20), none, .mv (.t 3), []⟩, ⟨(some 2), none, .mv (.t 20), [0, 0]⟩]
@[reducible] def L76_0 : XC := (.blk 1 (.seq (.seq (.reg false [] R76_2) (.cond (.t 6) (.reg false [] R76_3) (.reg false [] R76_4))) (.seq (.reg false [] R76_5) (.cond (.t 19) (.seq (.reg false [] R76_6) .ret) .skip))))
@[reducible] def F76 : XF := ⟨21, (.seq (.reg false [] R76_0) (.seq (.reg false [] R76_1) (.blk 0 (.loop L76_0)))), [(2, none)]⟩
/-- (*codesearch/codesearchref12.parser).body -/
@[reducible] def R77_0 : List XO := [⟨(some 12), none, .alloc [(.int .i64 0), (.str (ByteArray.mk #[])), (.int .i64 0), (.int .i64 0), .nls], []⟩]
@[reducible] def R77_1 : List XO := [⟨(some 17), none, .mv (.t 0), []⟩, ⟨(some 18), none, .call 65 [(.t 17)], [0]⟩, ⟨(some 13), none, .mv (.t 18), [1, 1, 0, 1]⟩]
@[reducible] def R77_2 : List XO := [⟨(some 14), none, .mv (.c .nls), []⟩]
@[reducible] def R77_3 : List XO := [⟨(some 19), none, .mv (.t 0), []⟩, ⟨(some 20), none, .nilc (.t 19), [0]⟩, ⟨(some 21), none, .fad 3 (.t 20), [1]⟩, ⟨(some 22), none, .load 1 false (.t 21), [2]⟩, ⟨(some 23), none, .un .not (.t 22), [3]⟩, ⟨(some 24), none, .mv (.t 23), [4]⟩, ⟨(some 25), (some (24, true)), .mv (.t 0), [5]⟩, ⟨(some 26), (some (24, true)), .call 52 [(.t 25), (.c (.int .i64 5)), (.c
    (.str (ByteArray.mk #[125])))], [6, 5, 5]⟩, ⟨(some 27), (some (24, true)), .un .not (.t 26), [7, 5]⟩, ⟨(some 28), none, .pick (.t 24) (.t 27) (.c (.bool false)), [5, 8]⟩]
@[reducible] def R77_4 : List XO := [⟨(some 29), none, .mv (.t 0), []⟩, ⟨(some 30), none, .call 63 [(.t 29)], [0]⟩, ⟨(some 31), none, .bin false .eql (.t 30) (.c (.int .i64 6)), [1]⟩, ⟨(some 32), none, .mv (.t 31), [2, 1]⟩, ⟨(some 33), (some (32, false)), .mv (.t 0), [3]⟩, ⟨(some 34), (some (32, false)), .call 63 [(.t 33)], [4, 3, 3]⟩, ⟨(some 35), (some (32, false)), .bin false .eql (.t 34) (.c
    (.int .i64 7)), [5, 3]⟩, ⟨(some 36), none, .pick (.t 32) (.c (.bool true)) (.t 35), [3, 6]⟩]
@[reducible] def R77_5 : List XO := [⟨(some 37), none, .mv (.t 14), []⟩, ⟨(some 38), none, .mv (.t 0), []⟩, ⟨(some 39), none, .call 83 [(.t 38), (.c (.bool true))], [1]⟩, ⟨(some 40), none, .bsl 27 5 [(.int .i64 0), (.str (ByteArray.mk #[])), (.int .i64 0), (.int .i64 0), .nls] 1 [(0, (.t 39))], [2]⟩, ⟨(some 41), none, .app 27 5 64 (.t 37) (.t 40), [0, 3, 2]⟩, ⟨(some 14), none, .mv (.t 41), [4, 4,
    0, 1, 2, 3, 4]⟩]
@[reducible] def R77_6 : List XO := [⟨(some 42), none, .mv (.t 0), []⟩, ⟨(some 43), none, .call 52 [(.t 42), (.c (.int .i64 2)), (.c (.str (ByteArray.mk #[102, 117, 110, 99])))], [0]⟩]
@[reducible] def R77_7 : List XO := [⟨(some 44), none, .mv (.t 14), []⟩, ⟨(some 45), none, .mv (.t 0), []⟩, ⟨(some 46), none, .mv (.t 5), []⟩, ⟨(some 47), none, .call 68 [(.t 45), (.t 46)], [1, 2]⟩, ⟨(some 48), none, .bsl 27 5 [(.int .i64 0), (.str (ByteArray.mk #[])), (.int .i64 0), (.int .i64 0), .nls] 1 [(0, (.t 47))], [3]⟩, ⟨(some 49), none, .app 27 5 64 (.t 44) (.t 48), [0, 4, 3]⟩, ⟨(some 14),
    none, .mv (.t 49), [5, 5, 0, 1, 2, 3, 4, 5]⟩]
@[reducible] def R77_8 : List XO := [⟨(some 50), none, .mv (.t 5), []⟩]
@[reducible] def R77_9 : List XO := [⟨(some 51), none, .mv (.t 14), []⟩, ⟨(some 52), none, .mv (.t 0), []⟩, ⟨(some 53), none, .call 69 [(.t 52)], [1]⟩, ⟨(some 54), none, .bsl 27 5 [(.int .i64 0), (.str (ByteArray.mk #[])), (.int .i64 0), (.int .i64 0), .nls] 1 [(0, (.t 53))], [2]⟩, ⟨(some 55), none, .app 27 5 64 (.t 51) (.t 54), [0, 3, 2]⟩, ⟨(some 14), none, .mv (.t 55), [4, 4, 0, 1, 2, 3, 4]⟩]
@[reducible] def R77_10 : List XO := [⟨(some 56), none, .mv (.t 0), []⟩, ⟨(some 57), none, .call 58 [(.t 56)], [0]⟩]
@[reducible] def L77_0 : XC := (.seq (.seq (.reg false [] R77_3) (.cond (.t 28) .skip (.exit 0))) (.blk 1 (.seq (.reg false [] R77_4) (.cond (.t 36) (.reg false [] R77_5) (.seq (.reg false [] R77_6) (.cond (.t 43) (.reg false [] R77_7) (.seq (.reg false [] R77_8) (.cond (.t 50) (.reg false [] R77_9) (.reg false [] R77_10)))))))))
@[reducible] def R77_11 : List XO := [⟨(some 58), none, .mv (.t 0), []⟩, ⟨(some 59), none, .call 55 [(.t 58), (.c (.int .i64 5)), (.c (.str (ByteArray.mk #[125])))], [0]⟩]
@[reducible] def R77_12 : List XO := [⟨(some 15), none, .mv (.c .nls), []⟩]
@[reducible] def R77_13 : List XO := [⟨(some 16), none, .mv (.c (.int .i64 0)), []⟩]
@[reducible] def R77_14 : List XO := [⟨(some 60), none, .mv (.t 16), []⟩, ⟨(some 61), none, .mv (.t 4), []⟩, ⟨(some 62), none, .len false (.t 61), [1]⟩, ⟨(some 63), none, .bin false .lss (.t 60) (.t 62), [0, 2]⟩]
@[reducible] def R77_15 : List XO := [⟨(some 66), none, .mv (.t 15), []⟩, ⟨(some 67), none, .mv (.t 4), []⟩, ⟨(some 68), none, .mv (.t 16), []⟩, ⟨(some 69), none, .iaS 5 (.t 67) (.t 68), [1, 2]⟩, ⟨(some 70), none, .load 5 true (.t 69), [3]⟩, ⟨(some 71), none, .bsl 27 5 [(.int .i64 0), (.str (ByteArray.mk #[])), (.int .i64 0), (.int .i64 0), .nls] 1 [(0, (.t 70))], [4]⟩, ⟨(some 72), none, .app 27 5
    64 (.t 66) (.t 71), [0, 5]⟩, ⟨(some 15), none, .mv (.t 72), [6, 6, 0, 1, 2, 3, 4, 5, 6]⟩]
@[reducible] def R77_16 : List XO := [⟨(some 64), none, .mv (.t 16), []⟩, ⟨(some 65), none, .bin false .add (.t 64) (.c (.int .i64 1)), [0]⟩, ⟨(some 16), none, .mv (.t 65), [1, 0, 1]⟩]
@[reducible] def L77_1 : XC := (.seq (.seq (.reg false [] R77_14) (.cond (.t 63) .skip (.exit 2))) (.seq (.blk 3 (.reg false [] R77_15)) (.reg false [] R77_16)))
@[reducible] def R77_17 : List XO := [⟨(some 73), none, .mv (.t 15), []⟩, ⟨(some 74), none, .mv (.t 14), []⟩, ⟨(some 75), none, .mv (.t 13), []⟩, ⟨(some 76), none, .call 78 [(.t 74), (.t 75)], [1, 2]⟩, ⟨(some 77), none, .bsl 27 5 [(.int .i64 0), (.str (ByteArray.mk #[])), (.int .i64 0), (.int .i64 0), .nls] 1 [(0, (.t 76))], [3]⟩, ⟨(some 78), none, .app 27 5 64 (.t 73) (.t 77), [0, 4, 3]⟩, ⟨(some
    15), none, .mv (.t 78), [5, 5, 0, 1, 2, 3, 4, 5]⟩]
@[reducible] def R77_18 : List XO := [⟨(some 79), none, .mv (.t 0), []⟩, ⟨(some 80), none, .mv (.t 1), []⟩, ⟨(some 81), none, .mv (.t 2), []⟩, ⟨(some 82), none, .mv (.t 3), []⟩, ⟨(some 83), none, .mv (.t 15), []⟩, ⟨(some 84), none, .call 56 [(.t 79), (.t 80), (.t 81), (.t 82), (.t 83)], [0, 1, 2, 3, 4]⟩, ⟨none, none, .store 5 (.t 12) (.t 84), [5, 5, 0, 1, 2, 3, 4, 5]⟩]
@[reducible] def F77 : XF := ⟨85, (.seq (.reg false [] R77_0) (.seq (.reg false [] R77_1) (.seq (.reg false [] R77_2) (.seq (.blk 0 (.loop L77_0)) (.seq (.reg false [] R77_11) (.seq (.reg false [] R77_12) (.seq (.seq (.reg false [] R77_13) (.blk 2 (.loop L77_1))) (.seq (.reg false [] R77_17) (.seq (.reg false [] R77_18) .ret))))))))), [(12, some (5, true))]⟩
/-- codesearch/codesearchref12.list -/
@[reducible] def R78_0 : List XO := [⟨(some 4), none, .alloc [(.int .i64 0), (.str (ByteArray.mk #[])), (.int .i64 0), (.int .i64 0), .nls], []⟩]
@[reducible] def R78_1 : List XO := [⟨(some 6), none, .mv (.t 1), []⟩, ⟨(some 7), none, .mv (.t 1), []⟩, ⟨(some 8), none, .mv (.t 0), []⟩, ⟨(some 9), none, .bdf [(.int .i64 0), (.str (ByteArray.mk #[])), (.int .i64 0), (.int .i64 0), .nls] [(0, 1, (.c (.int .i64 24))), (2, 1, (.t 6)), (3, 1, (.t 7)), (4, 1, (.t 8))], [0, 1, 2]⟩, ⟨(some 5), none, .alloc [(.int .i64 0), (.str (ByteArray.mk #[])),
    (.int .i64 0), (.int .i64 0), .nls], []⟩, ⟨none, none, .store 5 (.t 5) (.t 9), [4, 3, 0, 1, 2, 3, 4]⟩]
@[reducible] def R78_2 : List XO := [⟨(some 10), none, .mv (.t 0), []⟩, ⟨(some 11), none, .len false (.t 10), [0]⟩, ⟨(some 12), none, .bin false .gtr (.t 11) (.c (.int .i64 0)), [1]⟩]
@[reducible] def R78_3 : List XO := [⟨(some 13), none, .mv (.t 0), []⟩, ⟨(some 14), none, .iaS 5 (.t 13) (.c (.int .i64 0)), [0]⟩, ⟨(some 15), none, .fad 2 (.t 14), [1]⟩, ⟨(some 16), none, .load 1 false (.t 15), [2]⟩, ⟨(some 17), none, .fad 2 (.t 5), [0, 1, 2, 3]⟩, ⟨none, none, .store 1 (.t 17) (.t 16), [4, 3, 0, 1, 2, 3]⟩]
@[reducible] def R78_4 : List XO := [⟨(some 18), none, .mv (.t 0), []⟩, ⟨(some 19), none, .mv (.t 0), []⟩, ⟨(some 20), none, .len false (.t 19), [1]⟩, ⟨(some 21), none, .bin false .sub (.t 20) (.c (.int .i64 1)), [2]⟩, ⟨(some 22), none, .iaS 5 (.t 18) (.t 21), [0, 3]⟩, ⟨(some 23), none, .fad 3 (.t 22), [4]⟩, ⟨(some 24), none, .load 1 false (.t 23), [5]⟩, ⟨(some 25), none, .fad 3 (.t 5), [0, 1, 2,
    3, 4, 5, 6]⟩, ⟨none, none, .store 1 (.t 25) (.t 24), [7, 6, 0, 1, 2, 3, 4, 5, 6]⟩]
@[reducible] def R78_5 : List XO := [⟨(some 26), none, .load 5 true (.t 5), []⟩, ⟨none, none, .store 5 (.t 4) (.t 26), [0, 0]⟩]
@[reducible] def F78 : XF := ⟨27, (.seq (.reg false [] R78_0) (.seq (.reg false [] R78_1) (.seq (.seq (.reg false [] R78_2) (.cond (.t 12) (.seq (.reg false [] R78_3) (.reg false [] R78_4)) .skip)) (.seq (.reg false [] R78_5) .ret)))), [(4, some (5, true))]⟩
/-- (*codesearch/codesearchref12.parser).param -/
@[reducible] def R79_0 : List XO := [⟨(some 2), none, .alloc [(.int .i64 0), (.str (ByteArray.mk #[])), (.int .i64 0), (.int .i64 0), .nls], []⟩]
@[reducible] def R79_1 : List XO := [⟨(some 6), none, .mv (.t 0), []⟩, ⟨(some 7), none, .call 63 [(.t 6)], [0]⟩, ⟨(some 8), none, .bin false .eql (.t 7) (.c (.int .i64 7)), [1]⟩]
@[reducible] def R79_2 : List XO := [⟨(some 9), none, .mv (.t 0), []⟩, ⟨(some 10), none, .call 83 [(.t 9), (.c (.bool false))], [0]⟩, ⟨none, none, .store 5 (.t 2) (.t 10), [1, 1, 0, 1]⟩]
@[reducible] def R79_3 : List XO := [⟨(some 11), none, .mv (.t 0), []⟩, ⟨(some 12), none, .call 53 [(.t 11)], [0]⟩, ⟨(some 3), none, .mv (.t 12), [1, 1, 0, 1]⟩]
@[reducible] def R79_4 : List XO := [⟨(some 13), none, .mv (.t 0), []⟩, ⟨(some 14), none, .call 54 [(.t 13), (.c (.int .i64 1))], [0]⟩, ⟨(some 4), none, .mv (.t 14), [1, 1, 0, 1]⟩]
@[reducible] def R79_5 : List XO := [⟨(some 15), none, .mv (.t 0), []⟩, ⟨(some 16), none, .call 55 [(.t 15), (.c (.int .i64 5)), (.c (.str (ByteArray.mk #[58])))], [0]⟩]
@[reducible] def R79_6 : List XO := [⟨(some 17), none, .mv (.t 0), []⟩, ⟨(some 18), none, .call 75 [(.t 17)], [0]⟩, ⟨(some 5), none, .alloc [(.int .i64 0), (.str (ByteArray.mk #[])), (.int .i64 0), (.int .i64 0), .nls], []⟩, ⟨none, none, .store 5 (.t 5) (.t 18), [2, 1, 1, 0, 1, 2]⟩]
@[reducible] def R79_7 : List XO := [⟨(some 19), none, .mv (.t 0), []⟩, ⟨(some 20), none, .mv (.t 4), []⟩, ⟨(some 21), none, .mv (.t 3), []⟩, ⟨(some 22), none, .load 5 true (.t 5), []⟩, ⟨(some 23), none, .bsl 27 5 [(.int .i64 0), (.str (ByteArray.mk #[])), (.int .i64 0), (.int .i64 0), .nls] 1 [(0, (.t 22))], [3]⟩, ⟨(some 24), none, .call 56 [(.t 19), (.c (.int .i64 7)), (.t 20), (.t 21), (.t 23)],
    [0, 1, 2, 4]⟩, ⟨none, none, .store 5 (.t 2) (.t 24), [5, 5, 0, 1, 2, 3, 4, 5]⟩]
@[reducible] def F79 : XF := ⟨25, (.seq (.reg false [] R79_0) (.seq (.seq (.reg false [] R79_1) (.cond (.t 8) (.seq (.reg false [] R79_2) .ret) .skip)) (.seq (.reg false [] R79_3) (.seq (.reg false [] R79_4) (.seq (.reg false [] R79_5) (.seq (.reg false [] R79_6) (.seq (.reg false [] R79_7) .ret))))))), [(2, some (5, true))]⟩
/-- (*codesearch/codesearchref12.parser).block -/
@[reducible] def R80_0 : List XO := [⟨(some 2), none, .alloc [(.int .i64 0), (.str (ByteArray.mk #[])), (.int .i64 0), (.int .i64 0), .nls], []⟩]
@[reducible] def R80_1 : List XO := [⟨(some 5), none, .mv (.t 0), []⟩, ⟨(some 6), none, .call 53 [(.t 5)], [0]⟩, ⟨(some 3), none, .mv (.t 6), [1, 1, 0, 1]⟩]
@[reducible] def R80_2 : List XO := [⟨(some 7), none, .mv (.t 0), []⟩, ⟨(some 8), none, .call 55 [(.t 7), (.c (.int .i64 5)), (.c (.str (ByteArray.mk #[123])))], [0]⟩]
@[reducible] def R80_3 : List XO := [⟨(some 4), none, .mv (.c .nls), []⟩]
@[reducible] def R80_4 : List XO := [⟨(some 9), none, .mv (.t 0), []⟩, ⟨(some 10), none, .nilc (.t 9), [0]⟩, ⟨(some 11), none, .fad 3 (.t 10), [1]⟩, ⟨(some 12), none, .load 1 false (.t 11), [2]⟩, ⟨(some 13), none, .un .not (.t 12), [3]⟩, ⟨(some 14), none, .mv (.t 13), [4]⟩, ⟨(some 15), (some (14, true)), .mv (.t 0), [5]⟩, ⟨(some 16), (some (14, true)), .call 52 [(.t 15), (.c (.int .i64 5)), (.c
    (.str (ByteArray.mk #[125])))], [6, 5, 5]⟩, ⟨(some 17), (some (14, true)), .un .not (.t 16), [7, 5]⟩, ⟨(some 18), none, .pick (.t 14) (.t 17) (.c (.bool false)), [5, 8]⟩]
@[reducible] def R80_5 : List XO := [⟨(some 19), none, .mv (.t 4), []⟩, ⟨(some 20), none, .mv (.t 0), []⟩, ⟨(some 21), none, .call 85 [(.t 20)], [1]⟩, ⟨(some 22), none, .bsl 27 5 [(.int .i64 0), (.str (ByteArray.mk #[])), (.int .i64 0), (.int .i64 0), .nls] 1 [(0, (.t 21))], [2]⟩, ⟨(some 23), none, .app 27 5 64 (.t 19) (.t 22), [0, 3, 2]⟩, ⟨(some 4), none, .mv (.t 23), [4, 4, 0, 1, 2, 3, 4]⟩]
@[reducible] def L80_0 : XC := (.seq (.seq (.reg false [] R80_4) (.cond (.t 18) .skip (.exit 0))) (.blk 1 (.reg false [] R80_5)))
@[reducible] def R80_6 : List XO := [⟨(some 24), none, .mv (.t 0), []⟩, ⟨(some 25), none, .call 55 [(.t 24), (.c (.int .i64 5)), (.c (.str (ByteArray.mk #[125])))], [0]⟩]
@[reducible] def R80_7 : List XO := [⟨(some 26), none, .mv (.t 0), []⟩, ⟨(some 27), none, .mv (.t 3), []⟩, ⟨(some 28), none, .mv (.t 4), []⟩, ⟨(some 29), none, .call 56 [(.t 26), (.c (.int .i64 9)), (.c (.str (ByteArray.mk #[]))), (.t 27), (.t 28)], [0, 1, 2]⟩, ⟨none, none, .store 5 (.t 2) (.t 29), [3, 3, 0, 1, 2, 3]⟩]
@[reducible] def F80 : XF := ⟨30, (.seq (.reg false [] R80_0) (.seq (.reg false [] R80_1) (.seq (.reg false [] R80_2) (.seq (.reg false [] R80_3) (.seq (.blk 0 (.loop L80_0)) (.seq (.reg false [] R80_6) (.seq (.reg false [] R80_7) .ret))))))), [(2, some (5, true))]⟩
/-- (*codesearch/codesearchref12.parser).expr -/
@[reducible] def R81_0 : List XO := [⟨(some 4), none, .alloc [(.int .i64 0), (.str (ByteArray.mk #[])), (.int .i64 0), (.int .i64 0), .nls], []⟩]
@[reducible] def R81_1 : List XO := [⟨(some 10), none, .mv (.t 1), []⟩, ⟨(some 11), none, .bin false .eql (.t 10) (.c (.int .i64 6)), [0]⟩]
@[reducible] def R81_2 : List XO := [⟨(some 12), none, .mv (.t 0), []⟩, ⟨(some 13), none, .call 86 [(.t 12)], [0]⟩, ⟨none, none, .store 5 (.t 4) (.t 13), [1, 1, 0, 1]⟩]
@[reducible] def R81_3 : List XO := [⟨(some 14), none, .mv (.t 0), []⟩, ⟨(some 15), none, .mv (.t 1), []⟩, ⟨(some 16), none, .bin false .add (.t 15) (.c (.int .i64 1)), [1]⟩, ⟨(some 17), none, .call 81 [(.t 14), (.t 16)], [0, 2]⟩, ⟨(some 5), none, .alloc [(.int .i64 0), (.str (ByteArray.mk #[])), (.int .i64 0), (.int .i64 0), .nls], []⟩, ⟨none, none, .store 5 (.t 5) (.t 17), [4, 3, 3, 0, 1, 2, 3,
    4]⟩]
@[reducible] def R81_4 : List XO := [⟨(some 18), none, .mv (.t 1), []⟩, ⟨(some 19), none, .call 87 [(.t 18)], [0]⟩, ⟨(some 6), none, .mv (.t 19), [1, 1, 0, 1]⟩]
@[reducible] def R81_5 : List XO := [⟨(some 20), none, .mv (.t 0), []⟩, ⟨(some 21), none, .nilc (.t 20), [0]⟩, ⟨(some 22), none, .fad 3 (.t 21), [1]⟩, ⟨(some 23), none, .load 1 false (.t 22), [2]⟩, ⟨(some 24), none, .un .not (.t 23), [3]⟩]
@[reducible] def R81_6 : List XO := [⟨(some 7), none, .mv (.c (.str (ByteArray.mk #[]))), []⟩]
@[reducible] def R81_7 : List XO := [⟨(some 8), none, .mv (.c (.int .i64 0)), []⟩]
@[reducible] def R81_8 : List XO := [⟨(some 25), none, .mv (.t 8), []⟩, ⟨(some 26), none, .mv (.t 6), []⟩, ⟨(some 27), none, .len false (.t 26), [1]⟩, ⟨(some 28), none, .bin false .lss (.t 25) (.t 27), [0, 2]⟩]
@[reducible] def R81_9 : List XO := [⟨(some 31), none, .mv (.t 0), []⟩, ⟨(some 32), none, .mv (.t 6), []⟩, ⟨(some 33), none, .mv (.t 8), []⟩, ⟨(some 34), none, .iaS 1 (.t 32) (.t 33), [1, 2]⟩, ⟨(some 35), none, .load 1 false (.t 34), [3]⟩, ⟨(some 36), none, .call 52 [(.t 31), (.c (.int .i64 5)), (.t 35)], [0, 4]⟩]
@[reducible] def R81_10 : List XO := [⟨(some 37), none, .mv (.t 6), []⟩, ⟨(some 38), none, .mv (.t 8), []⟩, ⟨(some 39), none, .iaS 1 (.t 37) (.t 38), [0, 1]⟩, ⟨(some 40), none, .load 1 false (.t 39), [2]⟩, ⟨(some 7), none, .mv (.t 40), [3, 0, 1, 2, 3]⟩]
@[reducible] def R81_11 : List XO := [⟨(some 29), none, .mv (.t 8), []⟩, ⟨(some 30), none, .bin false .add (.t 29) (.c (.int .i64 1)), [0]⟩, ⟨(some 8), none, .mv (.t 30), [1, 0, 1]⟩]
@[reducible] def L81_0 : XC := (.seq (.seq (.reg false [] R81_8) (.cond (.t 28) .skip (.exit 2))) (.seq (.blk 3 (.seq (.reg false [] R81_9) (.cond (.t 36) (.reg false [] R81_10) .skip))) (.reg false [] R81_11)))
@[reducible] def R81_12 : List XO := [⟨(some 41), none, .mv (.t 7), []⟩, ⟨(some 42), none, .bin false .eql (.t 41) (.c (.str (ByteArray.mk #[]))), [0]⟩]
@[reducible] def R81_13 : List XO := [⟨(some 43), none, .load 5 true (.t 5), []⟩, ⟨none, none, .store 5 (.t 4) (.t 43), [0, 0]⟩]
@[reducible] def R81_14 : List XO := [⟨(some 44), none, .mv (.t 0), []⟩, ⟨(some 45), none, .mv (.t 0), []⟩, ⟨(some 46), none, .nilc (.t 45), [1]⟩, ⟨(some 47), none, .fad 1 (.t 46), [2]⟩, ⟨(some 48), none, .load 1 false (.t 47), [3]⟩, ⟨(some 49), none, .bin false .add (.t 48) (.c (.int .i64 1)), [4]⟩, ⟨(some 50), none, .nilc (.t 44), [0, 0, 1, 2, 3, 4, 5]⟩, ⟨(some 51), none, .fad 1 (.t 50), [6, 0,
    1, 2, 3, 4, 5]⟩, ⟨none, none, .store 1 (.t 51) (.t 49), [7, 5, 0, 1, 2, 3, 4, 5]⟩]
@[reducible] def R81_15 : List XO := [⟨(some 52), none, .mv (.t 0), []⟩, ⟨(some 53), none, .mv (.t 1), []⟩, ⟨(some 54), none, .bin false .add (.t 53) (.c (.int .i64 1)), [1]⟩, ⟨(some 55), none, .call 81 [(.t 52), (.t 54)], [0, 2]⟩, ⟨(some 9), none, .alloc [(.int .i64 0), (.str (ByteArray.mk #[])), (.int .i64 0), (.int .i64 0), .nls], []⟩, ⟨none, none, .store 5 (.t 9) (.t 55), [4, 3, 3, 0, 1, 2, 3,
    4]⟩]
@[reducible] def R81_16 : List XO := [⟨(some 56), none, .mv (.t 0), []⟩, ⟨(some 57), none, .mv (.t 7), []⟩, ⟨(some 58), none, .fad 2 (.t 5), []⟩, ⟨(some 59), none, .load 1 false (.t 58), [2]⟩, ⟨(some 60), none, .load 5 true (.t 5), []⟩, ⟨(some 61), none, .load 5 true (.t 9), []⟩, ⟨(some 62), none, .bsl 27 5 [(.int .i64 0), (.str (ByteArray.mk #[])), (.int .i64 0), (.int .i64 0), .nls] 2 [(0, (.t
    60)), (1, (.t 61))], [4, 5]⟩, ⟨(some 63), none, .call 56 [(.t 56), (.c (.int .i64 23)), (.t 57), (.t 59), (.t 62)], [0, 1, 3, 6]⟩, ⟨none, none, .store 5 (.t 5) (.t 63), [7, 7, 0, 1, 2, 3, 4, 5, 6, 7]⟩]
@[reducible] def L81_1 : XC := (.seq (.seq (.reg false [] R81_5) (.cond (.t 24) .skip (.exit 0))) (.blk 1 (.seq (.reg false [] R81_6) (.seq (.seq (.reg false [] R81_7) (.blk 2 (.loop L81_0))) (.seq (.seq (.reg false [] R81_12) (.cond (.t 42) (.seq (.reg false [] R81_13) .ret) .skip)) (.seq (.reg false [] R81_14) (.seq (.reg false [] R81_15) (.reg false [] R81_16))))))))
@[reducible] def R81_17 : List XO := [⟨(some 64), none, .load 5 true (.t 5), []⟩, ⟨none, none, .store 5 (.t 4) (.t 64), [0, 0]⟩]
@[reducible] def F81 : XF := ⟨65, (.seq (.reg false [] R81_0) (.seq (.seq (.reg false [] R81_1) (.cond (.t 11) (.seq (.reg false [] R81_2) .ret) .skip)) (.seq (.reg false [] R81_3) (.seq (.reg false [] R81_4) (.seq (.blk 0 (.loop L81_1)) (.seq (.reg false [] R81_17) .ret)))))), [(4, some (5, true))]⟩
/-- internal/stringslite.Index -/
@[reducible] def R82_0 : List XO := [⟨(some 4), none, .mv (.c (.int .i64 0)), []⟩]
@[reducible] def R82_1 : List XO := [⟨(some 14), none, .mv (.t 1), []⟩, ⟨(some 15), none, .len true (.t 14), [0]⟩, ⟨(some 5), none, .mv (.t 15), [1, 0, 1]⟩]
@[reducible] def R82_2 : List XO := [⟨(some 17), none, .mv (.t 5), []⟩, ⟨(some 18), none, .bin false .eql (.t 17) (.c (.int .i64 0)), [0]⟩, ⟨(some 19), none, .mv (.t 18), [1]⟩, ⟨(some 20), (some (19, false)), .mv (.t 1), [2]⟩, ⟨(some 21), (some (19, false)), .mv (.t 0), [2]⟩, ⟨(some 22), (some (19, false)), .bin false .eql (.t 20) (.t 21), [3, 4, 2]⟩, ⟨(some 23), none, .pick (.t 19) (.c (.bool
    true)) (.t 22), [2, 5]⟩, ⟨(some 16), none, .mv (.t 23), [6, 2]⟩]
@[reducible] def R82_3 : List XO := [⟨(some 4), none, .mv (.c (.int .i64 0)), []⟩]
@[reducible] def R82_4 : List XO := [⟨(some 25), none, .mv (.t 5), []⟩, ⟨(some 26), none, .bin false .eql (.t 25) (.c (.int .i64 1)), [0]⟩, ⟨(some 24), none, .mv (.t 26), [1]⟩]
@[reducible] def R82_5 : List XO := [⟨(some 27), none, .mv (.t 0), []⟩, ⟨(some 28), none, .mv (.t 1), []⟩, ⟨(some 29), none, .ixS (.t 28) (.c (.int .i64 0)), [1]⟩, ⟨(some 30), none, .call 88 [(.t 27), (.t 29)], [0, 2]⟩, ⟨(some 4), none, .mv (.t 30), [3, 3, 0, 1, 2, 3]⟩]
@[reducible] def R82_6 : List XO := [⟨(some 32), none, .mv (.t 5), []⟩, ⟨(some 33), none, .mv (.t 0), []⟩, ⟨(some 34), none, .len true (.t 33), [1]⟩, ⟨(some 35), none, .bin false .geq (.t 32) (.t 34), [0, 2]⟩, ⟨(some 31), none, .mv (.t 35), [3]⟩]
@[reducible] def R82_7 : List XO := [⟨(some 4), none, .mv (.c (.int .i64 (-1))), []⟩]
@[reducible] def R82_8 : List XO := [⟨(some 37), none, .mv (.t 5), []⟩, ⟨(some 38), none, .bad, []⟩, ⟨(some 39), none, .bin false .leq (.t 37) (.t 38), [0, 1]⟩, ⟨(some 40), none, .mv (.t 39), [2]⟩, ⟨(some 41), (some (40, true)), .mv (.t 0), [3]⟩, ⟨(some 42), (some (40, true)), .len true (.t 41), [4, 3]⟩, ⟨(some 43), (some (40, true)), .bin false .leq (.t 42) (.c (.int .i64 64)), [5, 3]⟩, ⟨(some
    44), none, .pick (.t 40) (.t 43) (.c (.bool false)), [3, 6]⟩, ⟨(some 36), none, .mv (.t 44), [7, 3]⟩]
@[reducible] def R82_9 : List XO := [⟨(some 45), none, .mv (.t 0), []⟩, ⟨(some 46), none, .mv (.t 1), []⟩, ⟨(some 47), none, .call 89 [(.t 45), (.t 46)], [0, 1]⟩, ⟨(some 4), none, .mv (.t 47), [2, 2, 0, 1, 2]⟩]
@[reducible] def R82_10 : List XO := [⟨(some 48), none, .mv (.t 1), []⟩, ⟨(some 49), none, .ixS (.t 48) (.c (.int .i64 0)), [0]⟩, ⟨(some 6), none, .mv (.t 49), [1, 0, 1]⟩]
@[reducible] def R82_11 : List XO := [⟨(some 50), none, .mv (.t 1), []⟩, ⟨(some 51), none, .ixS (.t 50) (.c (.int .i64 1)), [0]⟩, ⟨(some 7), none, .mv (.t 51), [1, 0, 1]⟩]
@[reducible] def R82_12 : List XO := [⟨(some 8), none, .mv (.c (.int .i64 0)), []⟩]
@[reducible] def R82_13 : List XO := [⟨(some 52), none, .mv (.t 0), []⟩, ⟨(some 53), none, .len true (.t 52), [0]⟩, ⟨(some 54), none, .mv (.t 5), []⟩, ⟨(some 55), none, .bin false .sub (.t 53) (.t 54), [1, 2]⟩, ⟨(some 56), none, .bin false .add (.t 55) (.c (.int .i64 1)), [3]⟩, ⟨(some 9), none, .mv (.t 56), [4, 0, 1, 2, 3, 4]⟩]
@[reducible] def R82_14 : List XO := [⟨(some 10), none, .mv (.c (.int .i64 0)), []⟩]
@[reducible] def R82_15 : List XO := [⟨(some 57), none, .mv (.t 8), []⟩, ⟨(some 58), none, .mv (.t 9), []⟩, ⟨(some 59), none, .bin false .lss (.t 57) (.t 58), [0, 1]⟩]
@[reducible] def R82_16 : List XO := [⟨(some 60), none, .mv (.t 0), []⟩, ⟨(some 61), none, .mv (.t 8), []⟩, ⟨(some 62), none, .ixS (.t 60) (.t 61), [0, 1]⟩, ⟨(some 63), none, .mv (.t 6), []⟩, ⟨(some 64), none, .bin false .neq (.t 62) (.t 63), [2, 3]⟩]
@[reducible] def R82_17 : List XO := [⟨(some 65), none, .mv (.t 0), []⟩, ⟨(some 66), none, .mv (.t 8), []⟩, ⟨(some 67), none, .bin false .add (.t 66) (.c (.int .i64 1)), [1]⟩, ⟨(some 68), none, .mv (.t 9), []⟩, ⟨(some 69), none, .slS (.t 65) (some (.t 67)) (some (.t 68)), [0, 2, 3]⟩, ⟨(some 70), none, .mv (.t 6), []⟩, ⟨(some 71), none, .call 88 [(.t 69), (.t 70)], [4, 5]⟩, ⟨(some 11), none, .mv (.t
    71), [6, 6, 0, 1, 2, 3, 4, 5, 6]⟩]
@[reducible] def R82_18 : List XO := [⟨(some 72), none, .mv (.t 11), []⟩, ⟨(some 73), none, .bin false .lss (.t 72) (.c (.int .i64 0)), [0]⟩]
@[reducible] def R82_19 : List XO := [⟨(some 4), none, .mv (.c (.int .i64 (-1))), []⟩]
@[reducible] def R82_20 : List XO := [⟨(some 74), none, .mv (.t 8), []⟩, ⟨(some 75), none, .mv (.t 11), []⟩, ⟨(some 76), none, .bin false .add (.t 75) (.c (.int .i64 1)), [1]⟩, ⟨(some 77), none, .bin false .add (.t 74) (.t 76), [0, 2]⟩, ⟨(some 8), none, .mv (.t 77), [3, 0, 1, 2, 3]⟩]
@[reducible] def R82_21 : List XO := [⟨(some 78), none, .mv (.t 0), []⟩, ⟨(some 79), none, .mv (.t 8), []⟩, ⟨(some 80), none, .bin false .add (.t 79) (.c (.int .i64 1)), [1]⟩, ⟨(some 81), none, .ixS (.t 78) (.t 80), [0, 2]⟩, ⟨(some 82), none, .mv (.t 7), []⟩, ⟨(some 83), none, .bin false .eql (.t 81) (.t 82), [3, 4]⟩, ⟨(some 84), none, .mv (.t 83), [5]⟩, ⟨(some 85), (some (84, true)), .mv (.t 0),
    [6]⟩, ⟨(some 86), (some (84, true)), .mv (.t 8), [6]⟩, ⟨(some 87), (some (84, true)), .mv (.t 8), [6]⟩, ⟨(some 88), (some (84, true)), .mv (.t 5), [6]⟩, ⟨(some 89), (some (84, true)), .bin false .add (.t 87) (.t 88), [9, 10, 6]⟩, ⟨(some 90), (some (84, true)), .slS (.t 85) (some (.t 86)) (some (.t 89)), [7, 8, 11, 6]⟩, ⟨(some 91), (some (84, true)), .mv (.t 1), [6]⟩, ⟨(some 92), (some (84,
    true)), .bin false .eql (.t 90) (.t 91), [12, 13, 6]⟩, ⟨(some 93), none, .pick (.t 84) (.t 92) (.c (.bool false)), [6, 14]⟩]
@[reducible] def R82_22 : List XO := [⟨(some 94), none, .mv (.t 8), []⟩, ⟨(some 4), none, .mv (.t 94), [0, 0]⟩]
@[reducible] def R82_23 : List XO := [⟨(some 95), none, .mv (.t 8), []⟩, ⟨(some 96), none, .bin false .add (.t 95) (.c (.int .i64 1)), [0]⟩, ⟨(some 8), none, .mv (.t 96), [1, 0, 1]⟩]
@[reducible] def R82_24 : List XO := [⟨(some 97), none, .mv (.t 10), []⟩, ⟨(some 98), none, .bin false .add (.t 97) (.c (.int .i64 1)), [0]⟩, ⟨(some 10), none, .mv (.t 98), [1, 0, 1]⟩]
@[reducible] def R82_25 : List XO := [⟨(some 99), none, .mv (.t 5), []⟩, ⟨(some 100), none, .bad, []⟩, ⟨(some 101), none, .bin false .leq (.t 99) (.t 100), [0, 1]⟩, ⟨(some 102), none, .mv (.t 101), [2]⟩, ⟨(some 103), (some (102, true)), .mv (.t 10), [3]⟩, ⟨(some 104), (some (102, true)), .mv (.t 8), [3]⟩, ⟨(some 105), (some (102, true)), .call 90 [(.t 104)], [5, 3, 3]⟩, ⟨(some 106), (some (102,
    true)), .bin false .gtr (.t 103) (.t 105), [4, 6, 3]⟩, ⟨(some 107), none, .pick (.t 102) (.t 106) (.c (.bool false)), [3, 7]⟩]
@[reducible] def R82_26 : List XO := [⟨(some 108), none, .mv (.t 0), []⟩, ⟨(some 109), none, .mv (.t 8), []⟩, ⟨(some 110), none, .slS (.t 108) (some (.t 109)) none, [0, 1]⟩, ⟨(some 111), none, .mv (.t 1), []⟩, ⟨(some 112), none, .call 89 [(.t 110), (.t 111)], [2, 3]⟩, ⟨(some 12), none, .mv (.t 112), [4, 4, 0, 1, 2, 3, 4]⟩]
@[reducible] def R82_27 : List XO := [⟨(some 113), none, .mv (.t 12), []⟩, ⟨(some 114), none, .bin false .geq (.t 113) (.c (.int .i64 0)), [0]⟩]
@[reducible] def R82_28 : List XO := [⟨(some 115), none, .mv (.t 12), []⟩, ⟨(some 116), none, .mv (.t 8), []⟩, ⟨(some 117), none, .bin false .add (.t 115) (.t 116), [0, 1]⟩, ⟨(some 4), none, .mv (.t 117), [2, 0, 1, 2]⟩]
@[reducible] def R82_29 : List XO := [⟨(some 4), none, .mv (.c (.int .i64 (-1))), []⟩]
@[reducible] def R82_30 : List XO := [⟨(some 118), none, .mv (.t 5), []⟩, ⟨(some 119), none, .bad, []⟩, ⟨(some 120), none, .bin false .gtr (.t 118) (.t 119), [0, 1]⟩, ⟨(some 121), none, .mv (.t 120), [2]⟩, ⟨(some 122), (some (121, true)), .mv (.t 10), [3]⟩, ⟨(some 123), (some (121, true)), .mv (.t 8), [3]⟩, ⟨(some 124), (some (121, true)), .bin false .shr (.t 123) (.c (.int .u64 4)), [5, 3]⟩,
    ⟨(some 125), (some (121, true)), .bin false .add (.c (.int .i64 4)) (.t 124), [6, 3]⟩, ⟨(some 126), (some (121, true)), .bin false .geq (.t 122) (.t 125), [4, 7, 3]⟩, ⟨(some 127), none, .pick (.t 121) (.t 126) (.c (.bool false)), [3, 8]⟩, ⟨(some 128), none, .mv (.t 127), [9, 3]⟩, ⟨(some 129), (some (128, true)), .mv (.t 8), [10]⟩, ⟨(some 130), (some (128, true)), .mv (.t 9), [10]⟩, ⟨(some 131),
    (some (128, true)), .bin false .lss (.t 129) (.t 130), [11, 12, 10]⟩, ⟨(some 132), none, .pick (.t 128) (.t 131) (.c (.bool false)), [10, 13]⟩]
@[reducible] def R82_31 : List XO := [⟨(some 133), none, .mv (.t 0), []⟩, ⟨(some 134), none, .mv (.t 8), []⟩, ⟨(some 135), none, .slS (.t 133) (some (.t 134)) none, [0, 1]⟩, ⟨(some 136), none, .mv (.t 1), []⟩, ⟨(some 137), none, .call 91 [(.t 135), (.t 136)], [2, 3]⟩, ⟨(some 13), none, .mv (.t 137), [4, 4, 0, 1, 2, 3, 4]⟩]
@[reducible] def R82_32 : List XO := [⟨(some 138), none, .mv (.t 13), []⟩, ⟨(some 139), none, .bin false .lss (.t 138) (.c (.int .i64 0)), [0]⟩]
@[reducible] def R82_33 : List XO := [⟨(some 4), none, .mv (.c (.int .i64 (-1))), []⟩]
@[reducible] def R82_34 : List XO := [⟨(some 140), none, .mv (.t 8), []⟩, ⟨(some 141), none, .mv (.t 13), []⟩, ⟨(some 142), none, .bin false .add (.t 140) (.t 141), [0, 1]⟩, ⟨(some 4), none, .mv (.t 142), [2, 0, 1, 2]⟩]
@[reducible] def L82_0 : XC := (.seq (.seq (.reg false [] R82_15) (.cond (.t 59) .skip (.exit 1))) (.blk 2 (.seq (.seq (.reg false [] R82_16) (.cond (.t 64) (.seq (.reg false [] R82_17) (.seq (.seq (.reg false [] R82_18) (.cond (.t 73) (.seq (.reg false [] R82_19) .ret) .skip)) (.reg false [] R82_20))) .skip)) (.seq (.seq (.reg false [] R82_21) (.cond (.t 93) (.seq (.reg false [] R82_22) .ret)
    .skip)) (.seq (.reg false [] R82_23) (.seq (.reg false [] R82_24) (.seq (.reg false [] R82_25) (.cond (.t 107) (.seq (.reg false [] R82_26) (.seq (.seq (.reg false [] R82_27) (.cond (.t 114) (.seq (.reg false [] R82_28) .ret) .skip)) (.seq (.reg false [] R82_29) .ret))) (.seq (.reg false [] R82_30) (.cond (.t 132) (.seq (.reg false [] R82_31) (.seq (.seq (.reg false [] R82_32) (.cond (.t 139)
    (.seq (.reg false [] R82_33) .ret) .skip)) (.seq (.reg false [] R82_34) .ret))) .skip))))))))))
@[reducible] def R82_35 : List XO := [⟨(some 4), none, .mv (.c (.int .i64 (-1))), []⟩]
@[reducible] def F82 : XF := ⟨143, (.seq (.reg false [] R82_0) (.seq (.reg false [] R82_1) (.seq (.blk 0 (.seq (.reg false [] R82_2) (.cond (.t 16) (.seq (.reg false [] R82_3) .ret) (.seq (.reg false [] R82_4) (.cond (.t 24) (.seq (.reg false [] R82_5) .ret) (.seq (.reg false [] R82_6) (.cond (.t 31) (.seq (.reg false [] R82_7) .ret) (.seq (.reg false [] R82_8) (.cond (.t 36) (.seq (.reg false []
    R82_9) .ret) .skip))))))))) (.seq (.reg false [] R82_10) (.seq (.reg false [] R82_11) (.seq (.reg false [] R82_12) (.seq (.reg false [] R82_13) (.seq (.reg false [] R82_14) (.seq (.blk 1 (.loop L82_0)) (.seq (.reg false [] R82_35) .ret)))))))))), [(4, none)]⟩
/-- (*codesearch/codesearchref12.parser).meta -/
@[reducible] def R83_0 : List XO := [⟨(some 4), none, .alloc [(.int .i64 0), (.str (ByteArray.mk #[])), (.int .i64 0), (.int .i64 0), .nls], []⟩]
@[reducible] def R83_1 : List XO := [⟨(some 8), none, .mv (.t 0), []⟩, ⟨(some 9), none, .call 53 [(.t 8)], [0]⟩, ⟨(some 5), none, .mv (.t 9), [1, 1, 0, 1]⟩, ⟨(some 6), none, .mv (.c (.int .i64 25)), [2, 0, 1, 2]⟩]
@[reducible] def R83_2 : List XO := [⟨(some 10), none, .mv (.t 0), []⟩, ⟨(some 11), none, .call 63 [(.t 10)], [0]⟩, ⟨(some 12), none, .bin false .eql (.t 11) (.c (.int .i64 7)), [1]⟩]
@[reducible] def R83_3 : List XO := [⟨(some 6), none, .mv (.c (.int .i64 26)), []⟩]
@[reducible] def R83_4 : List XO := [⟨(some 13), none, .mv (.t 0), []⟩, ⟨(some 14), none, .mv (.t 0), []⟩, ⟨(some 15), none, .call 63 [(.t 14)], [1]⟩, ⟨(some 16), none, .call 54 [(.t 13), (.t 15)], [0, 2, 2]⟩, ⟨(some 7), none, .mv (.t 16), [3, 3, 0, 1, 2, 3]⟩]
@[reducible] def R83_5 : List XO := [⟨(some 17), none, .mv (.t 1), []⟩]
@[reducible] def R83_6 : List XO := [⟨(some 18), none, .mv (.t 0), []⟩, ⟨(some 19), none, .call 55 [(.t 18), (.c (.int .i64 5)), (.c (.str (ByteArray.mk #[59])))], [0]⟩]
@[reducible] def R83_7 : List XO := [⟨(some 20), none, .mv (.t 0), []⟩, ⟨(some 21), none, .mv (.t 6), []⟩, ⟨(some 22), none, .mv (.t 7), []⟩, ⟨(some 23), none, .mv (.t 5), []⟩, ⟨(some 24), none, .call 56 [(.t 20), (.t 21), (.t 22), (.t 23), (.c .nls)], [0, 1, 2, 3]⟩, ⟨none, none, .store 5 (.t 4) (.t 24), [4, 4, 0, 1, 2, 3, 4]⟩]
@[reducible] def F83 : XF := ⟨25, (.seq (.reg false [] R83_0) (.seq (.reg false [] R83_1) (.seq (.seq (.reg false [] R83_2) (.cond (.t 12) (.reg false [] R83_3) .skip)) (.seq (.reg false [] R83_4) (.seq (.seq (.reg false [] R83_5) (.cond (.t 17) (.reg false [] R83_6) .skip)) (.seq (.reg false [] R83_7) .ret)))))), [(4, some (5, true))]⟩
/-- (*codesearch/codesearchref12.parser).name -/
@[reducible] def R84_0 : List XO := [⟨(some 2), none, .mv (.c (.str (ByteArray.mk #[]))), []⟩]
@[reducible] def R84_1 : List XO := [⟨(some 4), none, .mv (.t 0), []⟩, ⟨(some 5), none, .call 54 [(.t 4), (.c (.int .i64 1))], [0]⟩, ⟨(some 3), none, .mv (.t 5), [1, 1, 0, 1]⟩]
@[reducible] def R84_2 : List XO := [⟨(some 6), none, .mv (.t 0), []⟩, ⟨(some 7), none, .call 64 [(.t 6), (.c (.int .i64 5)), (.c (.str (ByteArray.mk #[46])))], [0]⟩]
@[reducible] def R84_3 : List XO := [⟨(some 8), none, .mv (.t 3), []⟩, ⟨(some 9), none, .bin false .add (.t 8) (.c (.str (ByteArray.mk #[46]))), [0]⟩, ⟨(some 10), none, .mv (.t 0), []⟩, ⟨(some 11), none, .call 54 [(.t 10), (.c (.int .i64 1))], [2]⟩, ⟨(some 12), none, .bin false .add (.t 9) (.t 11), [1, 3]⟩, ⟨(some 3), none, .mv (.t 12), [4, 3, 0, 1, 2, 3, 4]⟩]
@[reducible] def R84_4 : List XO := [⟨(some 13), none, .mv (.t 3), []⟩, ⟨(some 2), none, .mv (.t 13), [0, 0]⟩]
@[reducible] def F84 : XF := ⟨14, (.seq (.reg false [] R84_0) (.seq (.reg false [] R84_1) (.seq (.seq (.reg false [] R84_2) (.cond (.t 7) (.reg false [] R84_3) .skip)) (.seq (.reg false [] R84_4) .ret)))), [(2, none)]⟩
/-- (*codesearch/codesearchref12.parser).stmt -/
@[reducible] def R85_0 : List XO := [⟨(some 2), none, .alloc [(.int .i64 0), (.str (ByteArray.mk #[])), (.int .i64 0), (.int .i64 0), .nls], []⟩]
@[reducible] def R85_1 : List XO := [⟨(some 13), none, .mv (.t 0), []⟩, ⟨(some 14), none, .call 53 [(.t 13)], [0]⟩, ⟨(some 3), none, .mv (.t 14), [1, 1, 0, 1]⟩]
@[reducible] def R85_2 : List XO := [⟨(some 15), none, .mv (.t 0), []⟩, ⟨(some 16), none, .call 63 [(.t 15)], [0]⟩, ⟨(some 17), none, .bin false .eql (.t 16) (.c (.int .i64 7)), [1]⟩, ⟨(some 18), none, .mv (.t 17), [2, 1]⟩, ⟨(some 19), (some (18, false)), .mv (.t 0), [3]⟩, ⟨(some 20), (some (18, false)), .call 63 [(.t 19)], [4, 3, 3]⟩, ⟨(some 21), (some (18, false)), .bin false .eql (.t 20) (.c
    (.int .i64 6)), [5, 3]⟩, ⟨(some 22), (some (18, false)), .mv (.t 21), [6, 5, 3]⟩, ⟨(some 23), (some (22, true)), .mv (.t 0), [7]⟩, ⟨(some 24), (some (22, true)), .nilc (.t 23), [8, 7]⟩, ⟨(some 25), (some (22, true)), .fad 1 (.t 24), [9, 7]⟩, ⟨(some 26), (some (22, true)), .load 1 false (.t 25), [10, 7]⟩, ⟨(some 27), (some (22, true)), .bin false .add (.t 26) (.c (.int .i64 1)), [11, 7]⟩, ⟨(some
    28), (some (22, true)), .mv (.t 0), [7]⟩, ⟨(some 29), (some (22, true)), .nilc (.t 28), [13, 7]⟩, ⟨(some 30), (some (22, true)), .fad 0 (.t 29), [14, 7]⟩, ⟨(some 31), (some (22, true)), .load 1 false (.t 30), [15, 7]⟩, ⟨(some 32), (some (22, true)), .len false (.t 31), [16, 7]⟩, ⟨(some 33), (some (22, true)), .bin false .lss (.t 27) (.t 32), [12, 17, 7]⟩, ⟨(some 34), (some (18, false)), .pick
    (.t 22) (.t 33) (.c (.bool false)), [7, 18, 3]⟩, ⟨(some 35), (some (18, false)), .mv (.t 34), [19, 7, 3]⟩, ⟨(some 36), (some (35, true)), .mv (.t 0), [20]⟩, ⟨(some 37), (some (35, true)), .nilc (.t 36), [21, 20]⟩, ⟨(some 38), (some (35, true)), .fad 0 (.t 37), [22, 20]⟩, ⟨(some 39), (some (35, true)), .load 1 false (.t 38), [23, 20]⟩, ⟨(some 40), (some (35, true)), .mv (.t 0), [20]⟩, ⟨(some
    41), (some (35, true)), .nilc (.t 40), [25, 20]⟩, ⟨(some 42), (some (35, true)), .fad 1 (.t 41), [26, 20]⟩, ⟨(some 43), (some (35, true)), .load 1 false (.t 42), [27, 20]⟩, ⟨(some 44), (some (35, true)), .bin false .add (.t 43) (.c (.int .i64 1)), [28, 20]⟩, ⟨(some 45), (some (35, true)), .iaS 4 (.t 39) (.t 44), [24, 29, 20]⟩, ⟨(some 46), (some (35, true)), .fad 0 (.t 45), [30, 20]⟩, ⟨(some
    47), (some (35, true)), .load 1 false (.t 46), [31, 20]⟩, ⟨(some 48), (some (35, true)), .bin false .eql (.t 47) (.c (.int .i64 5)), [32, 20]⟩, ⟨(some 49), (some (18, false)), .pick (.t 35) (.t 48) (.c (.bool false)), [20, 33, 3]⟩, ⟨(some 50), (some (18, false)), .mv (.t 49), [34, 20, 3]⟩, ⟨(some 51), (some (50, true)), .mv (.t 0), [35]⟩, ⟨(some 52), (some (50, true)), .nilc (.t 51), [36, 35]⟩,
    ⟨(some 53), (some (50, true)), .fad 0 (.t 52), [37, 35]⟩, ⟨(some 54), (some (50, true)), .load 1 false (.t 53), [38, 35]⟩, ⟨(some 55), (some (50, true)), .mv (.t 0), [35]⟩, ⟨(some 56), (some (50, true)), .nilc (.t 55), [40, 35]⟩, ⟨(some 57), (some (50, true)), .fad 1 (.t 56), [41, 35]⟩, ⟨(some 58), (some (50, true)), .load 1 false (.t 57), [42, 35]⟩, ⟨(some 59), (some (50, true)), .bin false
    .add (.t 58) (.c (.int .i64 1)), [43, 35]⟩, ⟨(some 60), (some (50, true)), .iaS 4 (.t 54) (.t 59), [39, 44, 35]⟩, ⟨(some 61), (some (50, true)), .fad 1 (.t 60), [45, 35]⟩, ⟨(some 62), (some (50, true)), .load 1 false (.t 61), [46, 35]⟩, ⟨(some 63), (some (50, true)), .bin false .eql (.t 62) (.c (.str (ByteArray.mk #[59]))), [47, 35]⟩, ⟨(some 64), (some (18, false)), .pick (.t 50) (.t 63) (.c
    (.bool false)), [35, 48, 3]⟩, ⟨(some 65), none, .pick (.t 18) (.c (.bool true)) (.t 64), [3, 49]⟩]
@[reducible] def R85_3 : List XO := [⟨(some 66), none, .mv (.t 0), []⟩, ⟨(some 67), none, .call 83 [(.t 66), (.c (.bool true))], [0]⟩, ⟨none, none, .store 5 (.t 2) (.t 67), [1, 1, 0, 1]⟩]
@[reducible] def R85_4 : List XO := [⟨(some 68), none, .mv (.t 0), []⟩, ⟨(some 69), none, .call 52 [(.t 68), (.c (.int .i64 2)), (.c (.str (ByteArray.mk #[118, 97, 114])))], [0]⟩]
@[reducible] def R85_5 : List XO := [⟨(some 70), none, .mv (.t 0), []⟩, ⟨(some 71), none, .call 69 [(.t 70)], [0]⟩, ⟨none, none, .store 5 (.t 2) (.t 71), [1, 1, 0, 1]⟩]
@[reducible] def R85_6 : List XO := [⟨(some 72), none, .mv (.t 0), []⟩, ⟨(some 73), none, .call 52 [(.t 72), (.c (.int .i64 5)), (.c (.str (ByteArray.mk #[123])))], [0]⟩]
@[reducible] def R85_7 : List XO := [⟨(some 74), none, .mv (.t 0), []⟩, ⟨(some 75), none, .call 80 [(.t 74)], [0]⟩, ⟨none, none, .store 5 (.t 2) (.t 75), [1, 1, 0, 1]⟩]
@[reducible] def R85_8 : List XO := [⟨(some 76), none, .mv (.t 0), []⟩, ⟨(some 77), none, .call 64 [(.t 76), (.c (.int .i64 2)), (.c (.str (ByteArray.mk #[114, 101, 116, 117, 114, 110])))], [0]⟩]
@[reducible] def R85_9 : List XO := [⟨(some 4), none, .mv (.c .nls), []⟩]
@[reducible] def R85_10 : List XO := [⟨(some 78), none, .mv (.t 0), []⟩, ⟨(some 79), none, .call 52 [(.t 78), (.c (.int .i64 5)), (.c (.str (ByteArray.mk #[59])))], [0]⟩, ⟨(some 80), none, .un .not (.t 79), [1]⟩]
@[reducible] def R85_11 : List XO := [⟨(some 81), none, .mv (.t 4), []⟩, ⟨(some 82), none, .mv (.t 0), []⟩, ⟨(some 83), none, .call 81 [(.t 82), (.c (.int .i64 0))], [1]⟩, ⟨(some 84), none, .bsl 27 5 [(.int .i64 0), (.str (ByteArray.mk #[])), (.int .i64 0), (.int .i64 0), .nls] 1 [(0, (.t 83))], [2]⟩, ⟨(some 85), none, .app 27 5 64 (.t 81) (.t 84), [0, 3, 2]⟩, ⟨(some 4), none, .mv (.t 85), [4, 4,
    0, 1, 2, 3, 4]⟩]
@[reducible] def R85_12 : List XO := [⟨(some 86), none, .mv (.t 0), []⟩, ⟨(some 87), none, .call 55 [(.t 86), (.c (.int .i64 5)), (.c (.str (ByteArray.mk #[59])))], [0]⟩]
@[reducible] def R85_13 : List XO := [⟨(some 88), none, .mv (.t 0), []⟩, ⟨(some 89), none, .mv (.t 3), []⟩, ⟨(some 90), none, .mv (.t 4), []⟩, ⟨(some 91), none, .call 56 [(.t 88), (.c (.int .i64 10)), (.c (.str (ByteArray.mk #[]))), (.t 89), (.t 90)], [0, 1, 2]⟩, ⟨none, none, .store 5 (.t 2) (.t 91), [3, 3, 0, 1, 2, 3]⟩]
@[reducible] def R85_14 : List XO := [⟨(some 92), none, .mv (.t 0), []⟩, ⟨(some 93), none, .call 64 [(.t 92), (.c (.int .i64 2)), (.c (.str (ByteArray.mk #[105, 102])))], [0]⟩]
@[reducible] def R85_15 : List XO := [⟨(some 94), none, .mv (.t 0), []⟩, ⟨(some 95), none, .call 92 [(.t 94)], [0]⟩, ⟨(some 5), none, .alloc [(.int .i64 0), (.str (ByteArray.mk #[])), (.int .i64 0), (.int .i64 0), .nls], []⟩, ⟨none, none, .store 5 (.t 5) (.t 95), [2, 1, 1, 0, 1, 2]⟩]
@[reducible] def R85_16 : List XO := [⟨(some 96), none, .mv (.t 0), []⟩, ⟨(some 97), none, .call 80 [(.t 96)], [0]⟩, ⟨(some 6), none, .alloc [(.int .i64 0), (.str (ByteArray.mk #[])), (.int .i64 0), (.int .i64 0), .nls], []⟩, ⟨none, none, .store 5 (.t 6) (.t 97), [2, 1, 1, 0, 1, 2]⟩]
@[reducible] def R85_17 : List XO := [⟨(some 98), none, .mv (.t 0), []⟩, ⟨(some 99), none, .call 65 [(.t 98)], [0]⟩, ⟨(some 7), none, .mv (.t 99), [1, 1, 0, 1]⟩]
@[reducible] def R85_18 : List XO := [⟨(some 8), none, .mv (.c .nls), []⟩]
@[reducible] def R85_19 : List XO := [⟨(some 100), none, .mv (.t 0), []⟩, ⟨(some 101), none, .call 64 [(.t 100), (.c (.int .i64 2)), (.c (.str (ByteArray.mk #[101, 108, 115, 101])))], [0]⟩]
@[reducible] def R85_20 : List XO := [⟨(some 102), none, .mv (.t 8), []⟩, ⟨(some 103), none, .mv (.t 0), []⟩, ⟨(some 104), none, .call 80 [(.t 103)], [1]⟩, ⟨(some 105), none, .bsl 27 5 [(.int .i64 0), (.str (ByteArray.mk #[])), (.int .i64 0), (.int .i64 0), .nls] 1 [(0, (.t 104))], [2]⟩, ⟨(some 106), none, .app 27 5 64 (.t 102) (.t 105), [0, 3, 2]⟩, ⟨(some 8), none, .mv (.t 106), [4, 4, 0, 1, 2, 3,
    4]⟩]
@[reducible] def R85_21 : List XO := [⟨(some 107), none, .mv (.t 0), []⟩, ⟨(some 108), none, .mv (.t 3), []⟩, ⟨(some 109), none, .load 5 true (.t 5), []⟩, ⟨(some 110), none, .load 5 true (.t 6), []⟩, ⟨(some 111), none, .mv (.t 8), []⟩, ⟨(some 112), none, .mv (.t 7), []⟩, ⟨(some 113), none, .call 78 [(.t 111), (.t 112)], [4, 5]⟩, ⟨(some 114), none, .bsf 27 5 [(.int .i64 0), (.str (ByteArray.mk
    #[])), (.int .i64 0), (.int .i64 0), .nls] 3 [(0, (.t 109)), (1, (.t 110)), (2, (.t 113))], [2, 3, 6]⟩, ⟨(some 115), none, .call 56 [(.t 107), (.c (.int .i64 11)), (.c (.str (ByteArray.mk #[]))), (.t 108), (.t 114)], [0, 1, 7, 6]⟩, ⟨none, none, .store 5 (.t 2) (.t 115), [8, 8, 0, 1, 2, 3, 4, 5, 6, 7, 8]⟩]
@[reducible] def R85_22 : List XO := [⟨(some 116), none, .mv (.t 0), []⟩, ⟨(some 117), none, .call 64 [(.t 116), (.c (.int .i64 2)), (.c (.str (ByteArray.mk #[119, 104, 105, 108, 101])))], [0]⟩]
@[reducible] def R85_23 : List XO := [⟨(some 118), none, .mv (.t 0), []⟩, ⟨(some 119), none, .call 92 [(.t 118)], [0]⟩, ⟨(some 9), none, .alloc [(.int .i64 0), (.str (ByteArray.mk #[])), (.int .i64 0), (.int .i64 0), .nls], []⟩, ⟨none, none, .store 5 (.t 9) (.t 119), [2, 1, 1, 0, 1, 2]⟩]
@[reducible] def R85_24 : List XO := [⟨(some 120), none, .mv (.t 0), []⟩, ⟨(some 121), none, .call 80 [(.t 120)], [0]⟩, ⟨(some 10), none, .alloc [(.int .i64 0), (.str (ByteArray.mk #[])), (.int .i64 0), (.int .i64 0), .nls], []⟩, ⟨none, none, .store 5 (.t 10) (.t 121), [2, 1, 1, 0, 1, 2]⟩]
@[reducible] def R85_25 : List XO := [⟨(some 122), none, .mv (.t 0), []⟩, ⟨(some 123), none, .mv (.t 3), []⟩, ⟨(some 124), none, .load 5 true (.t 9), []⟩, ⟨(some 125), none, .load 5 true (.t 10), []⟩, ⟨(some 126), none, .bsl 27 5 [(.int .i64 0), (.str (ByteArray.mk #[])), (.int .i64 0), (.int .i64 0), .nls] 2 [(0, (.t 124)), (1, (.t 125))], [2, 3]⟩, ⟨(some 127), none, .call 56 [(.t 122), (.c (.int
    .i64 12)), (.c (.str (ByteArray.mk #[]))), (.t 123), (.t 126)], [0, 1, 4]⟩, ⟨none, none, .store 5 (.t 2) (.t 127), [5, 5, 0, 1, 2, 3, 4, 5]⟩]
@[reducible] def R85_26 : List XO := [⟨(some 128), none, .mv (.t 0), []⟩, ⟨(some 129), none, .call 81 [(.t 128), (.c (.int .i64 0))], [0]⟩, ⟨(some 11), none, .alloc [(.int .i64 0), (.str (ByteArray.mk #[])), (.int .i64 0), (.int .i64 0), .nls], []⟩, ⟨none, none, .store 5 (.t 11) (.t 129), [2, 1, 1, 0, 1, 2]⟩]
@[reducible] def R85_27 : List XO := [⟨(some 130), none, .mv (.t 0), []⟩, ⟨(some 131), none, .call 64 [(.t 130), (.c (.int .i64 5)), (.c (.str (ByteArray.mk #[61])))], [0]⟩]
@[reducible] def R85_28 : List XO := [⟨(some 132), none, .mv (.t 0), []⟩, ⟨(some 133), none, .call 81 [(.t 132), (.c (.int .i64 0))], [0]⟩, ⟨(some 12), none, .alloc [(.int .i64 0), (.str (ByteArray.mk #[])), (.int .i64 0), (.int .i64 0), .nls], []⟩, ⟨none, none, .store 5 (.t 12) (.t 133), [2, 1, 1, 0, 1, 2]⟩]
@[reducible] def R85_29 : List XO := [⟨(some 134), none, .mv (.t 0), []⟩, ⟨(some 135), none, .call 55 [(.t 134), (.c (.int .i64 5)), (.c (.str (ByteArray.mk #[59])))], [0]⟩]
@[reducible] def R85_30 : List XO := [⟨(some 136), none, .mv (.t 0), []⟩, ⟨(some 137), none, .mv (.t 3), []⟩, ⟨(some 138), none, .load 5 true (.t 11), []⟩, ⟨(some 139), none, .load 5 true (.t 12), []⟩, ⟨(some 140), none, .bsl 27 5 [(.int .i64 0), (.str (ByteArray.mk #[])), (.int .i64 0), (.int .i64 0), .nls] 2 [(0, (.t 138)), (1, (.t 139))], [2, 3]⟩, ⟨(some 141), none, .call 56 [(.t 136), (.c (.int
    .i64 13)), (.c (.str (ByteArray.mk #[]))), (.t 137), (.t 140)], [0, 1, 4]⟩, ⟨none, none, .store 5 (.t 2) (.t 141), [5, 5, 0, 1, 2, 3, 4, 5]⟩]
@[reducible] def R85_31 : List XO := [⟨(some 142), none, .mv (.t 0), []⟩, ⟨(some 143), none, .call 55 [(.t 142), (.c (.int .i64 5)), (.c (.str (ByteArray.mk #[59])))], [0]⟩]
@[reducible] def R85_32 : List XO := [⟨(some 144), none, .mv (.t 0), []⟩, ⟨(some 145), none, .mv (.t 3), []⟩, ⟨(some 146), none, .load 5 true (.t 11), []⟩, ⟨(some 147), none, .bsl 27 5 [(.int .i64 0), (.str (ByteArray.mk #[])), (.int .i64 0), (.int .i64 0), .nls] 1 [(0, (.t 146))], [2]⟩, ⟨(some 148), none, .call 56 [(.t 144), (.c (.int .i64 14)), (.c (.str (ByteArray.mk #[]))), (.t 145), (.t 147)],
    [0, 1, 3]⟩, ⟨none, none, .store 5 (.t 2) (.t 148), [4, 4, 0, 1, 2, 3, 4]⟩]
@[reducible] def F85 : XF := ⟨149, (.seq (.reg false [] R85_0) (.seq (.reg false [] R85_1) (.seq (.seq (.reg true [] R85_2) (.cond (.t 65) (.seq (.reg false [] R85_3) .ret) .skip)) (.seq (.seq (.reg false [] R85_4) (.cond (.t 69) (.seq (.reg false [] R85_5) .ret) .skip)) (.seq (.seq (.reg false [] R85_6) (.cond (.t 73) (.seq (.reg false [] R85_7) .ret) .skip)) (.seq (.seq (.reg false [] R85_8)
    (.cond (.t 77) (.seq (.reg false [] R85_9) (.seq (.seq (.reg false [] R85_10) (.cond (.t 80) (.reg false [] R85_11) .skip)) (.seq (.reg false [] R85_12) (.seq (.reg false [] R85_13) .ret)))) .skip)) (.seq (.seq (.reg false [] R85_14) (.cond (.t 93) (.seq (.reg false [] R85_15) (.seq (.reg false [] R85_16) (.seq (.reg false [] R85_17) (.seq (.reg false [] R85_18) (.seq (.seq (.reg false []
    R85_19) (.cond (.t 101) (.reg false [] R85_20) .skip)) (.seq (.reg true [(2, 6), (3, 6)] R85_21) .ret)))))) .skip)) (.seq (.seq (.reg false [] R85_22) (.cond (.t 117) (.seq (.reg false [] R85_23) (.seq (.reg false [] R85_24) (.seq (.reg false [] R85_25) .ret))) .skip)) (.seq (.reg false [] R85_26) (.seq (.seq (.reg false [] R85_27) (.cond (.t 131) (.seq (.reg false [] R85_28) (.seq (.reg false
    [] R85_29) (.seq (.reg false [] R85_30) .ret))) .skip)) (.seq (.reg false [] R85_31) (.seq (.reg false [] R85_32) .ret)))))))))))), [(2, some (5, true))]⟩
/-- (*codesearch/codesearchref12.parser).unary -/
@[reducible] def R86_0 : List XO := [⟨(some 2), none, .alloc [(.int .i64 0), (.str (ByteArray.mk #[])), (.int .i64 0), (.int .i64 0), .nls], []⟩]
@[reducible] def R86_1 : List XO := [⟨(some 11), none, .mv (.t 0), []⟩, ⟨(some 12), none, .call 53 [(.t 11)], [0]⟩, ⟨(some 3), none, .mv (.t 12), [1, 1, 0, 1]⟩]
@[reducible] def R86_2 : List XO := [⟨(some 13), none, .mv (.t 0), []⟩, ⟨(some 14), none, .call 52 [(.t 13), (.c (.int .i64 5)), (.c (.str (ByteArray.mk #[33])))], [0]⟩, ⟨(some 15), none, .mv (.t 14), [1, 1]⟩, ⟨(some 16), (some (15, false)), .mv (.t 0), [2]⟩, ⟨(some 17), (some (15, false)), .call 52 [(.t 16), (.c (.int .i64 5)), (.c (.str (ByteArray.mk #[45])))], [3, 2, 2]⟩, ⟨(some 18), none, .pick
    (.t 15) (.c (.bool true)) (.t 17), [2, 4]⟩]
@[reducible] def R86_3 : List XO := [⟨(some 19), none, .mv (.t 0), []⟩, ⟨(some 20), none, .call 54 [(.t 19), (.c (.int .i64 5))], [0]⟩, ⟨(some 4), none, .mv (.t 20), [1, 1, 0, 1]⟩]
@[reducible] def R86_4 : List XO := [⟨(some 21), none, .mv (.t 0), []⟩, ⟨(some 22), none, .call 86 [(.t 21)], [0]⟩, ⟨(some 5), none, .alloc [(.int .i64 0), (.str (ByteArray.mk #[])), (.int .i64 0), (.int .i64 0), .nls], []⟩, ⟨none, none, .store 5 (.t 5) (.t 22), [2, 1, 1, 0, 1, 2]⟩]
@[reducible] def R86_5 : List XO := [⟨(some 23), none, .mv (.t 0), []⟩, ⟨(some 24), none, .mv (.t 4), []⟩, ⟨(some 25), none, .mv (.t 3), []⟩, ⟨(some 26), none, .load 5 true (.t 5), []⟩, ⟨(some 27), none, .bsl 27 5 [(.int .i64 0), (.str (ByteArray.mk #[])), (.int .i64 0), (.int .i64 0), .nls] 1 [(0, (.t 26))], [3]⟩, ⟨(some 28), none, .call 56 [(.t 23), (.c (.int .i64 22)), (.t 24), (.t 25), (.t
    27)], [0, 1, 2, 4]⟩, ⟨none, none, .store 5 (.t 2) (.t 28), [5, 5, 0, 1, 2, 3, 4, 5]⟩]
@[reducible] def R86_6 : List XO := [⟨(some 29), none, .mv (.t 0), []⟩, ⟨(some 30), none, .call 93 [(.t 29)], [0]⟩, ⟨(some 6), none, .alloc [(.int .i64 0), (.str (ByteArray.mk #[])), (.int .i64 0), (.int .i64 0), .nls], []⟩, ⟨none, none, .store 5 (.t 6) (.t 30), [2, 1, 1, 0, 1, 2]⟩]
@[reducible] def R86_7 : List XO := [⟨(some 31), none, .mv (.t 0), []⟩, ⟨(some 32), none, .nilc (.t 31), [0]⟩, ⟨(some 33), none, .fad 3 (.t 32), [1]⟩, ⟨(some 34), none, .load 1 false (.t 33), [2]⟩, ⟨(some 35), none, .un .not (.t 34), [3]⟩]
@[reducible] def R86_8 : List XO := [⟨(some 36), none, .mv (.t 0), []⟩, ⟨(some 37), none, .call 64 [(.t 36), (.c (.int .i64 5)), (.c (.str (ByteArray.mk #[46])))], [0]⟩]
@[reducible] def R86_9 : List XO := [⟨(some 38), none, .mv (.t 0), []⟩, ⟨(some 39), none, .call 54 [(.t 38), (.c (.int .i64 1))], [0]⟩, ⟨(some 7), none, .mv (.t 39), [1, 1, 0, 1]⟩]
@[reducible] def R86_10 : List XO := [⟨(some 40), none, .mv (.t 0), []⟩, ⟨(some 41), none, .mv (.t 7), []⟩, ⟨(some 42), none, .fad 2 (.t 6), []⟩, ⟨(some 43), none, .load 1 false (.t 42), [2]⟩, ⟨(some 44), none, .load 5 true (.t 6), []⟩, ⟨(some 45), none, .bsl 27 5 [(.int .i64 0), (.str (ByteArray.mk #[])), (.int .i64 0), (.int .i64 0), .nls] 1 [(0, (.t 44))], [4]⟩, ⟨(some 46), none, .call 56 [(.t
    40), (.c (.int .i64 19)), (.t 41), (.t 43), (.t 45)], [0, 1, 3, 5]⟩, ⟨none, none, .store 5 (.t 6) (.t 46), [6, 6, 0, 1, 2, 3, 4, 5, 6]⟩]
@[reducible] def R86_11 : List XO := [⟨(some 47), none, .mv (.t 0), []⟩, ⟨(some 48), none, .call 64 [(.t 47), (.c (.int .i64 5)), (.c (.str (ByteArray.mk #[40])))], [0]⟩]
@[reducible] def R86_12 : List XO := [⟨(some 49), none, .load 5 true (.t 6), []⟩, ⟨(some 50), none, .bsl 27 5 [(.int .i64 0), (.str (ByteArray.mk #[])), (.int .i64 0), (.int .i64 0), .nls] 1 [(0, (.t 49))], [0]⟩, ⟨(some 8), none, .mv (.t 50), [1, 0, 1]⟩]
@[reducible] def R86_13 : List XO := [⟨(some 51), none, .mv (.t 0), []⟩, ⟨(some 52), none, .call 94 [(.t 51)], [0]⟩, ⟨(some 9), none, .mv (.t 52), [1, 1, 0, 1]⟩]
@[reducible] def R86_14 : List XO := [⟨(some 10), none, .mv (.c (.int .i64 0)), []⟩]
@[reducible] def R86_15 : List XO := [⟨(some 53), none, .mv (.t 10), []⟩, ⟨(some 54), none, .mv (.t 9), []⟩, ⟨(some 55), none, .len false (.t 54), [1]⟩, ⟨(some 56), none, .bin false .lss (.t 53) (.t 55), [0, 2]⟩]
@[reducible] def R86_16 : List XO := [⟨(some 59), none, .mv (.t 8), []⟩, ⟨(some 60), none, .mv (.t 9), []⟩, ⟨(some 61), none, .mv (.t 10), []⟩, ⟨(some 62), none, .iaS 5 (.t 60) (.t 61), [1, 2]⟩, ⟨(some 63), none, .load 5 true (.t 62), [3]⟩, ⟨(some 64), none, .bsl 27 5 [(.int .i64 0), (.str (ByteArray.mk #[])), (.int .i64 0), (.int .i64 0), .nls] 1 [(0, (.t 63))], [4]⟩, ⟨(some 65), none, .app 27 5
    64 (.t 59) (.t 64), [0, 5]⟩, ⟨(some 8), none, .mv (.t 65), [6, 6, 0, 1, 2, 3, 4, 5, 6]⟩]
@[reducible] def R86_17 : List XO := [⟨(some 57), none, .mv (.t 10), []⟩, ⟨(some 58), none, .bin false .add (.t 57) (.c (.int .i64 1)), [0]⟩, ⟨(some 10), none, .mv (.t 58), [1, 0, 1]⟩]
@[reducible] def L86_0 : XC := (.seq (.seq (.reg false [] R86_15) (.cond (.t 56) .skip (.exit 2))) (.seq (.blk 3 (.reg false [] R86_16)) (.reg false [] R86_17)))
@[reducible] def R86_18 : List XO := [⟨(some 66), none, .mv (.t 0), []⟩, ⟨(some 67), none, .fad 2 (.t 6), []⟩, ⟨(some 68), none, .load 1 false (.t 67), [1]⟩, ⟨(some 69), none, .mv (.t 8), []⟩, ⟨(some 70), none, .call 56 [(.t 66), (.c (.int .i64 20)), (.c (.str (ByteArray.mk #[]))), (.t 68), (.t 69)], [0, 2, 3]⟩, ⟨none, none, .store 5 (.t 6) (.t 70), [4, 4, 0, 1, 2, 3, 4]⟩]
@[reducible] def R86_19 : List XO := [⟨(some 71), none, .load 5 true (.t 6), []⟩, ⟨none, none, .store 5 (.t 2) (.t 71), [0, 0]⟩]
@[reducible] def L86_1 : XC := (.seq (.seq (.reg false [] R86_7) (.cond (.t 35) .skip (.exit 0))) (.blk 1 (.seq (.reg false [] R86_8) (.cond (.t 37) (.seq (.reg false [] R86_9) (.reg false [] R86_10)) (.seq (.reg false [] R86_11) (.cond (.t 48) (.seq (.reg false [] R86_12) (.seq (.reg false [] R86_13) (.seq (.seq (.reg false [] R86_14) (.blk 2 (.loop L86_0))) (.reg false [] R86_18)))) (.seq (.reg
    false [] R86_19) .ret)))))))
@[reducible] def R86_20 : List XO := [⟨(some 72), none, .load 5 true (.t 6), []⟩, ⟨none, none, .store 5 (.t 2) (.t 72), [0, 0]⟩]
@[reducible] def F86 : XF := ⟨73, (.seq (.reg false [] R86_0) (.seq (.reg false [] R86_1) (.seq (.seq (.reg false [] R86_2) (.cond (.t 18) (.seq (.reg false [] R86_3) (.seq (.reg false [] R86_4) (.seq (.reg false [] R86_5) .ret))) .skip)) (.seq (.reg false [] R86_6) (.seq (.blk 0 (.loop L86_1)) (.seq (.reg false [] R86_20) .ret)))))), [(2, some (5, true))]⟩
/-- codesearch/codesearchref12.operators -/
@[reducible] def R87_0 : List XO := [⟨(some 2), none, .mv (.c .nls), []⟩]
@[reducible] def R87_1 : List XO := [⟨(some 3), none, .mv (.t 0), []⟩]
@[reducible] def R87_2 : List XO := [⟨(some 5), none, .bin false .eql (.t 3) (.c (.int .i64 0)), []⟩, ⟨(some 4), none, .mv (.t 5), [0]⟩]
@[reducible] def R87_3 : List XO := [⟨(some 6), none, .bsl 9 1 [(.str (ByteArray.mk #[]))] 1 [(0, (.c (.str (ByteArray.mk #[124, 124]))))], []⟩, ⟨(some 2), none, .mv (.t 6), [0, 0]⟩]
@[reducible] def R87_4 : List XO := [⟨(some 8), none, .bin false .eql (.t 3) (.c (.int .i64 1)), []⟩, ⟨(some 7), none, .mv (.t 8), [0]⟩]
@[reducible] def R87_5 : List XO := [⟨(some 9), none, .bsl 9 1 [(.str (ByteArray.mk #[]))] 1 [(0, (.c (.str (ByteArray.mk #[38, 38]))))], []⟩, ⟨(some 2), none, .mv (.t 9), [0, 0]⟩]
@[reducible] def R87_6 : List XO := [⟨(some 11), none, .bin false .eql (.t 3) (.c (.int .i64 2)), []⟩, ⟨(some 10), none, .mv (.t 11), [0]⟩]
@[reducible] def R87_7 : List XO := [⟨(some 12), none, .bsl 9 1 [(.str (ByteArray.mk #[]))] 2 [(0, (.c (.str (ByteArray.mk #[61, 61])))), (1, (.c (.str (ByteArray.mk #[33, 61]))))], []⟩, ⟨(some 2), none, .mv (.t 12), [0, 0]⟩]
@[reducible] def R87_8 : List XO := [⟨(some 14), none, .bin false .eql (.t 3) (.c (.int .i64 3)), []⟩, ⟨(some 13), none, .mv (.t 14), [0]⟩]
@[reducible] def R87_9 : List XO := [⟨(some 15), none, .bsl 9 1 [(.str (ByteArray.mk #[]))] 2 [(0, (.c (.str (ByteArray.mk #[60])))), (1, (.c (.str (ByteArray.mk #[62]))))], []⟩, ⟨(some 2), none, .mv (.t 15), [0, 0]⟩]
@[reducible] def R87_10 : List XO := [⟨(some 17), none, .bin false .eql (.t 3) (.c (.int .i64 4)), []⟩, ⟨(some 16), none, .mv (.t 17), [0]⟩]
@[reducible] def R87_11 : List XO := [⟨(some 18), none, .bsl 9 1 [(.str (ByteArray.mk #[]))] 2 [(0, (.c (.str (ByteArray.mk #[43])))), (1, (.c (.str (ByteArray.mk #[45]))))], []⟩, ⟨(some 2), none, .mv (.t 18), [0, 0]⟩]
@[reducible] def R87_12 : List XO := [⟨(some 19), none, .bsl 9 1 [(.str (ByteArray.mk #[]))] 3 [(0, (.c (.str (ByteArray.mk #[42])))), (1, (.c (.str (ByteArray.mk #[47])))), (2, (.c (.str (ByteArray.mk #[37]))))], []⟩, ⟨(some 2), none, .mv (.t 19), [0, 0]⟩]
@[reducible] def F87 : XF := ⟨20, (.seq (.reg false [] R87_0) (.seq (.seq (.reg false [] R87_1) (.blk 0 (.seq (.reg false [] R87_2) (.cond (.t 4) (.seq (.reg false [] R87_3) .ret) (.seq (.reg false [] R87_4) (.cond (.t 7) (.seq (.reg false [] R87_5) .ret) (.seq (.reg false [] R87_6) (.cond (.t 10) (.seq (.reg false [] R87_7) .ret) (.seq (.reg false [] R87_8) (.cond (.t 13) (.seq (.reg false []
    R87_9) .ret) (.seq (.reg false [] R87_10) (.cond (.t 16) (.seq (.reg false [] R87_11) .ret) .skip)))))))))))) (.seq (.reg false [] R87_12) .ret))), [(2, none)]⟩
/-- internal/stringslite.IndexByte -/
@[reducible] def R88_0 : List XO := [⟨(some 4), none, .mv (.c (.int .i64 0)), []⟩]
@[reducible] def R88_1 : List XO := [⟨(some 5), none, .mv (.t 0), []⟩, ⟨(some 6), none, .mv (.t 1), []⟩, ⟨(some 7), none, .ibs (.t 5) (.t 6), [0, 1]⟩, ⟨(some 4), none, .mv (.t 7), [2, 2, 0, 1, 2]⟩]
@[reducible] def F88 : XF := ⟨8, (.seq (.reg false [] R88_0) (.seq (.reg false [] R88_1) .ret)), [(4, none)]⟩
/-- internal/bytealg.Cutover -/
@[reducible] def R90_0 : List XO := [⟨(some 2), none, .mv (.c (.int .i64 0)), []⟩]
@[reducible] def R90_1 : List XO := [⟨(some 3), none, .mv (.t 0), []⟩, ⟨(some 4), none, .bin false .add (.t 3) (.c (.int .i64 16)), [0]⟩, ⟨(some 5), none, .bin false .quo (.t 4) (.c (.int .i64 8)), [1]⟩, ⟨(some 2), none, .mv (.t 5), [2, 0, 1, 2]⟩]
@[reducible] def F90 : XF := ⟨6, (.seq (.reg false [] R90_0) (.seq (.reg false [] R90_1) .ret)), [(2, none)]⟩
/-- internal/bytealg.IndexRabinKarp[string] -/
@[reducible] def R91_0 : List XO := [⟨(some 4), none, .mv (.c (.int .i64 0)), []⟩]
@[reducible] def R91_1 : List XO := [⟨(some 12), none, .mv (.t 1), []⟩, ⟨(some 13), none, .call 96 [(.t 12)], [0]⟩, ⟨(some 11), none, .mv (.t 13), [1]⟩, ⟨(some 14), none, .ext (.t 11) 0, [2]⟩, ⟨(some 15), none, .ext (.t 11) 1, [2]⟩, ⟨(some 5), none, .mv (.t 14), [3, 1, 0, 1, 2, 3]⟩, ⟨(some 6), none, .mv (.t 15), [4, 5, 0, 1, 2, 3, 4, 5]⟩]
@[reducible] def R91_2 : List XO := [⟨(some 16), none, .mv (.t 1), []⟩, ⟨(some 17), none, .len true (.t 16), [0]⟩, ⟨(some 7), none, .mv (.t 17), [1, 0, 1]⟩]
@[reducible] def R91_3 : List XO := [⟨(some 8), none, .mv (.c (.int .u32 0)), []⟩]
@[reducible] def R91_4 : List XO := [⟨(some 9), none, .mv (.c (.int .i64 0)), []⟩]
@[reducible] def R91_5 : List XO := [⟨(some 18), none, .mv (.t 9), []⟩, ⟨(some 19), none, .mv (.t 7), []⟩, ⟨(some 20), none, .bin false .lss (.t 18) (.t 19), [0, 1]⟩]
@[reducible] def R91_6 : List XO := [⟨(some 23), none, .mv (.t 8), []⟩, ⟨(some 24), none, .bin false .mul (.t 23) (.c (.int .u32 16777619)), [0]⟩, ⟨(some 25), none, .mv (.t 0), []⟩, ⟨(some 26), none, .mv (.t 9), []⟩, ⟨(some 27), none, .ixS (.t 25) (.t 26), [2, 3]⟩, ⟨(some 28), none, .cvi .u32 (.t 27), [4]⟩, ⟨(some 29), none, .bin false .add (.t 24) (.t 28), [1, 5]⟩, ⟨(some 8), none, .mv (.t 29),
    [6, 0, 1, 2, 3, 4, 5, 6]⟩]
@[reducible] def R91_7 : List XO := [⟨(some 21), none, .mv (.t 9), []⟩, ⟨(some 22), none, .bin false .add (.t 21) (.c (.int .i64 1)), [0]⟩, ⟨(some 9), none, .mv (.t 22), [1, 0, 1]⟩]
@[reducible] def L91_0 : XC := (.seq (.seq (.reg false [] R91_5) (.cond (.t 20) .skip (.exit 0))) (.seq (.blk 1 (.reg false [] R91_6)) (.reg false [] R91_7)))
@[reducible] def R91_8 : List XO := [⟨(some 30), none, .mv (.t 8), []⟩, ⟨(some 31), none, .mv (.t 5), []⟩, ⟨(some 32), none, .bin false .eql (.t 30) (.t 31), [0, 1]⟩, ⟨(some 33), none, .mv (.t 32), [2]⟩, ⟨(some 34), (some (33, true)), .mv (.t 0), [3]⟩, ⟨(some 35), (some (33, true)), .mv (.t 7), [3]⟩, ⟨(some 36), (some (33, true)), .slS (.t 34) none (some (.t 35)), [4, 5, 3]⟩, ⟨(some 37), (some (33,
    true)), .mv (.t 1), [3]⟩, ⟨(some 38), (some (33, true)), .bin false .eql (.t 36) (.t 37), [6, 7, 3]⟩, ⟨(some 39), none, .pick (.t 33) (.t 38) (.c (.bool false)), [3, 8]⟩]
@[reducible] def R91_9 : List XO := [⟨(some 4), none, .mv (.c (.int .i64 0)), []⟩]
@[reducible] def R91_10 : List XO := [⟨(some 40), none, .mv (.t 7), []⟩, ⟨(some 10), none, .mv (.t 40), [0, 0]⟩]
@[reducible] def R91_11 : List XO := [⟨(some 41), none, .mv (.t 10), []⟩, ⟨(some 42), none, .mv (.t 0), []⟩, ⟨(some 43), none, .len true (.t 42), [1]⟩, ⟨(some 44), none, .bin false .lss (.t 41) (.t 43), [0, 2]⟩]
@[reducible] def R91_12 : List XO := [⟨(some 45), none, .mv (.t 8), []⟩, ⟨(some 46), none, .bin false .mul (.t 45) (.c (.int .u32 16777619)), [0]⟩, ⟨(some 8), none, .mv (.t 46), [1, 0, 1]⟩]
@[reducible] def R91_13 : List XO := [⟨(some 47), none, .mv (.t 8), []⟩, ⟨(some 48), none, .mv (.t 0), []⟩, ⟨(some 49), none, .mv (.t 10), []⟩, ⟨(some 50), none, .ixS (.t 48) (.t 49), [1, 2]⟩, ⟨(some 51), none, .cvi .u32 (.t 50), [3]⟩, ⟨(some 52), none, .bin false .add (.t 47) (.t 51), [0, 4]⟩, ⟨(some 8), none, .mv (.t 52), [5, 0, 1, 2, 3, 4, 5]⟩]
@[reducible] def R91_14 : List XO := [⟨(some 53), none, .mv (.t 8), []⟩, ⟨(some 54), none, .mv (.t 6), []⟩, ⟨(some 55), none, .mv (.t 0), []⟩, ⟨(some 56), none, .mv (.t 10), []⟩, ⟨(some 57), none, .mv (.t 7), []⟩, ⟨(some 58), none, .bin false .sub (.t 56) (.t 57), [3, 4]⟩, ⟨(some 59), none, .ixS (.t 55) (.t 58), [2, 5]⟩, ⟨(some 60), none, .cvi .u32 (.t 59), [6]⟩, ⟨(some 61), none, .bin false .mul
    (.t 54) (.t 60), [1, 7]⟩, ⟨(some 62), none, .bin false .sub (.t 53) (.t 61), [0, 8]⟩, ⟨(some 8), none, .mv (.t 62), [9, 0, 1, 2, 3, 4, 5, 6, 7, 8, 9]⟩]
@[reducible] def R91_15 : List XO := [⟨(some 63), none, .mv (.t 10), []⟩, ⟨(some 64), none, .bin false .add (.t 63) (.c (.int .i64 1)), [0]⟩, ⟨(some 10), none, .mv (.t 64), [1, 0, 1]⟩]
@[reducible] def R91_16 : List XO := [⟨(some 65), none, .mv (.t 8), []⟩, ⟨(some 66), none, .mv (.t 5), []⟩, ⟨(some 67), none, .bin false .eql (.t 65) (.t 66), [0, 1]⟩, ⟨(some 68), none, .mv (.t 67), [2]⟩, ⟨(some 69), (some (68, true)), .mv (.t 0), [3]⟩, ⟨(some 70), (some (68, true)), .mv (.t 10), [3]⟩, ⟨(some 71), (some (68, true)), .mv (.t 7), [3]⟩, ⟨(some 72), (some (68, true)), .bin false .sub
    (.t 70) (.t 71), [5, 6, 3]⟩, ⟨(some 73), (some (68, true)), .mv (.t 10), [3]⟩, ⟨(some 74), (some (68, true)), .slS (.t 69) (some (.t 72)) (some (.t 73)), [4, 7, 8, 3]⟩, ⟨(some 75), (some (68, true)), .mv (.t 1), [3]⟩, ⟨(some 76), (some (68, true)), .bin false .eql (.t 74) (.t 75), [9, 10, 3]⟩, ⟨(some 77), none, .pick (.t 68) (.t 76) (.c (.bool false)), [3, 11]⟩]
@[reducible] def R91_17 : List XO := [⟨(some 78), none, .mv (.t 10), []⟩, ⟨(some 79), none, .mv (.t 7), []⟩, ⟨(some 80), none, .bin false .sub (.t 78) (.t 79), [0, 1]⟩, ⟨(some 4), none, .mv (.t 80), [2, 0, 1, 2]⟩]
@[reducible] def L91_1 : XC := (.seq (.seq (.reg false [] R91_11) (.cond (.t 44) .skip (.exit 2))) (.blk 3 (.seq (.reg false [] R91_12) (.seq (.reg false [] R91_13) (.seq (.reg false [] R91_14) (.seq (.reg false [] R91_15) (.seq (.reg false [] R91_16) (.cond (.t 77) (.seq (.reg false [] R91_17) .ret) .skip))))))))
@[reducible] def R91_18 : List XO := [⟨(some 4), none, .mv (.c (.int .i64 (-1))), []⟩]
@[reducible] def F91 : XF := ⟨81, (.seq (.reg false [] R91_0) (.seq (.reg false [] R91_1) (.seq (.reg false [] R91_2) (.seq (.reg false [] R91_3) (.seq (.seq (.reg false [] R91_4) (.blk 0 (.loop L91_0))) (.seq (.seq (.reg false [] R91_8) (.cond (.t 39) (.seq (.reg false [] R91_9) .ret) .skip)) (.seq (.seq (.reg false [] R91_10) (.blk 2 (.loop L91_1))) (.seq (.reg false [] R91_18) .ret)))))))), [(4,
    none)]⟩
/-- (*codesearch/codesearchref12.parser).condition -/
@[reducible] def R92_0 : List XO := [⟨(some 2), none, .alloc [(.int .i64 0), (.str (ByteArray.mk #[])), (.int .i64 0), (.int .i64 0), .nls], []⟩]
@[reducible] def R92_1 : List XO := [⟨(some 4), none, .mv (.t 0), []⟩, ⟨(some 5), none, .call 55 [(.t 4), (.c (.int .i64 5)), (.c (.str (ByteArray.mk #[40])))], [0]⟩]
@[reducible] def R92_2 : List XO := [⟨(some 6), none, .mv (.t 0), []⟩, ⟨(some 7), none, .call 81 [(.t 6), (.c (.int .i64 0))], [0]⟩, ⟨(some 3), none, .alloc [(.int .i64 0), (.str (ByteArray.mk #[])), (.int .i64 0), (.int .i64 0), .nls], []⟩, ⟨none, none, .store 5 (.t 3) (.t 7), [2, 1, 1, 0, 1, 2]⟩]
@[reducible] def R92_3 : List XO := [⟨(some 8), none, .mv (.t 0), []⟩, ⟨(some 9), none, .call 55 [(.t 8), (.c (.int .i64 5)), (.c (.str (ByteArray.mk #[41])))], [0]⟩]
@[reducible] def R92_4 : List XO := [⟨(some 10), none, .load 5 true (.t 3), []⟩, ⟨none, none, .store 5 (.t 2) (.t 10), [0, 0]⟩]
@[reducible] def F92 : XF := ⟨11, (.seq (.reg false [] R92_0) (.seq (.reg false [] R92_1) (.seq (.reg false [] R92_2) (.seq (.reg false [] R92_3) (.seq (.reg false [] R92_4) .ret))))), [(2, some (5, true))]⟩
/-- (*codesearch/codesearchref12.parser).primary -/
@[reducible] def R93_0 : List XO := [⟨(some 2), none, .alloc [(.int .i64 0), (.str (ByteArray.mk #[])), (.int .i64 0), (.int .i64 0), .nls], []⟩]
@[reducible] def R93_1 : List XO := [⟨(some 7), none, .mv (.t 0), []⟩, ⟨(some 8), none, .call 53 [(.t 7)], [0]⟩, ⟨(some 3), none, .mv (.t 8), [1, 1, 0, 1]⟩]
@[reducible] def R93_2 : List XO := [⟨(some 9), none, .mv (.t 0), []⟩, ⟨(some 10), none, .call 63 [(.t 9)], [0]⟩]
@[reducible] def R93_3 : List XO := [⟨(some 12), none, .bin false .eql (.t 10) (.c (.int .i64 1)), []⟩, ⟨(some 11), none, .mv (.t 12), [0]⟩]
@[reducible] def R93_4 : List XO := [⟨(some 13), none, .mv (.t 0), []⟩, ⟨(some 14), none, .mv (.t 0), []⟩, ⟨(some 15), none, .call 54 [(.t 14), (.c (.int .i64 1))], [1]⟩, ⟨(some 16), none, .mv (.t 3), []⟩, ⟨(some 17), none, .call 56 [(.t 13), (.c (.int .i64 15)), (.t 15), (.t 16), (.c .nls)], [0, 2, 3, 2]⟩, ⟨none, none, .store 5 (.t 2) (.t 17), [4, 4, 0, 1, 2, 3, 4]⟩]
@[reducible] def R93_5 : List XO := [⟨(some 19), none, .bin false .eql (.t 10) (.c (.int .i64 3)), []⟩, ⟨(some 18), none, .mv (.t 19), [0]⟩]
@[reducible] def R93_6 : List XO := [⟨(some 20), none, .mv (.t 0), []⟩, ⟨(some 21), none, .mv (.t 0), []⟩, ⟨(some 22), none, .call 54 [(.t 21), (.c (.int .i64 3))], [1]⟩, ⟨(some 23), none, .mv (.t 3), []⟩, ⟨(some 24), none, .call 56 [(.t 20), (.c (.int .i64 16)), (.t 22), (.t 23), (.c .nls)], [0, 2, 3, 2]⟩, ⟨none, none, .store 5 (.t 2) (.t 24), [4, 4, 0, 1, 2, 3, 4]⟩]
@[reducible] def R93_7 : List XO := [⟨(some 26), none, .bin false .eql (.t 10) (.c (.int .i64 4)), []⟩, ⟨(some 25), none, .mv (.t 26), [0]⟩]
@[reducible] def R93_8 : List XO := [⟨(some 27), none, .mv (.t 0), []⟩, ⟨(some 28), none, .mv (.t 0), []⟩, ⟨(some 29), none, .call 54 [(.t 28), (.c (.int .i64 4))], [1]⟩, ⟨(some 30), none, .mv (.t 3), []⟩, ⟨(some 31), none, .call 56 [(.t 27), (.c (.int .i64 17)), (.t 29), (.t 30), (.c .nls)], [0, 2, 3, 2]⟩, ⟨none, none, .store 5 (.t 2) (.t 31), [4, 4, 0, 1, 2, 3, 4]⟩]
@[reducible] def R93_9 : List XO := [⟨(some 33), none, .bin false .eql (.t 10) (.c (.int .i64 6)), []⟩, ⟨(some 32), none, .mv (.t 33), [0]⟩]
@[reducible] def R93_10 : List XO := [⟨(some 34), none, .mv (.t 0), []⟩, ⟨(some 35), none, .call 83 [(.t 34), (.c (.bool false))], [0]⟩, ⟨none, none, .store 5 (.t 2) (.t 35), [1, 1, 0, 1]⟩]
@[reducible] def R93_11 : List XO := [⟨(some 37), none, .bin false .eql (.t 10) (.c (.int .i64 2)), []⟩, ⟨(some 36), none, .mv (.t 37), [0]⟩]
@[reducible] def R93_12 : List XO := [⟨(some 38), none, .mv (.t 0), []⟩, ⟨(some 39), none, .call 64 [(.t 38), (.c (.int .i64 2)), (.c (.str (ByteArray.mk #[110, 101, 119])))], [0]⟩]
@[reducible] def R93_13 : List XO := [⟨(some 40), none, .mv (.t 0), []⟩, ⟨(some 41), none, .call 84 [(.t 40)], [0]⟩, ⟨(some 4), none, .mv (.t 41), [1, 1, 0, 1]⟩]
@[reducible] def R93_14 : List XO := [⟨(some 42), none, .mv (.t 0), []⟩, ⟨(some 43), none, .call 55 [(.t 42), (.c (.int .i64 5)), (.c (.str (ByteArray.mk #[40])))], [0]⟩]
@[reducible] def R93_15 : List XO := [⟨(some 44), none, .mv (.t 0), []⟩, ⟨(some 45), none, .call 94 [(.t 44)], [0]⟩, ⟨(some 5), none, .mv (.t 45), [1, 1, 0, 1]⟩]
@[reducible] def R93_16 : List XO := [⟨(some 46), none, .mv (.t 0), []⟩, ⟨(some 47), none, .mv (.t 4), []⟩, ⟨(some 48), none, .mv (.t 3), []⟩, ⟨(some 49), none, .mv (.t 5), []⟩, ⟨(some 50), none, .call 56 [(.t 46), (.c (.int .i64 21)), (.t 47), (.t 48), (.t 49)], [0, 1, 2, 3]⟩, ⟨none, none, .store 5 (.t 2) (.t 50), [4, 4, 0, 1, 2, 3, 4]⟩]
@[reducible] def R93_17 : List XO := [⟨(some 51), none, .mv (.t 0), []⟩, ⟨(some 52), none, .nilc (.t 51), [0]⟩, ⟨(some 53), none, .fad 0 (.t 52), [1]⟩, ⟨(some 54), none, .load 1 false (.t 53), [2]⟩, ⟨(some 55), none, .mv (.t 0), []⟩, ⟨(some 56), none, .nilc (.t 55), [4]⟩, ⟨(some 57), none, .fad 1 (.t 56), [5]⟩, ⟨(some 58), none, .load 1 false (.t 57), [6]⟩, ⟨(some 59), none, .iaS 4 (.t 54) (.t 58),
    [3, 7]⟩, ⟨(some 60), none, .fad 1 (.t 59), [8]⟩, ⟨(some 61), none, .load 1 false (.t 60), [9]⟩, ⟨(some 62), none, .call 97 [(.t 61)], [10]⟩]
@[reducible] def R93_18 : List XO := [⟨(some 63), none, .mv (.t 0), []⟩, ⟨(some 64), none, .mv (.t 0), []⟩, ⟨(some 65), none, .call 54 [(.t 64), (.c (.int .i64 2))], [1]⟩, ⟨(some 66), none, .mv (.t 3), []⟩, ⟨(some 67), none, .call 56 [(.t 63), (.c (.int .i64 18)), (.t 65), (.t 66), (.c .nls)], [0, 2, 3, 2]⟩, ⟨none, none, .store 5 (.t 2) (.t 67), [4, 4, 0, 1, 2, 3, 4]⟩]
@[reducible] def R93_19 : List XO := [⟨(some 68), none, .mv (.t 0), []⟩, ⟨(some 69), none, .call 55 [(.t 68), (.c (.int .i64 5)), (.c (.str (ByteArray.mk #[40])))], [0]⟩]
@[reducible] def R93_20 : List XO := [⟨(some 70), none, .mv (.t 0), []⟩, ⟨(some 71), none, .nilc (.t 70), [0]⟩, ⟨(some 72), none, .fad 3 (.t 71), [1]⟩, ⟨(some 73), none, .load 1 false (.t 72), [2]⟩]
@[reducible] def R93_21 : List XO := [⟨(some 74), none, .bdf [(.int .i64 0), (.str (ByteArray.mk #[])), (.int .i64 0), (.int .i64 0), .nls] [], []⟩, ⟨none, none, .store 5 (.t 2) (.t 74), [0, 0]⟩]
@[reducible] def R93_22 : List XO := [⟨(some 75), none, .mv (.t 0), []⟩, ⟨(some 76), none, .call 81 [(.t 75), (.c (.int .i64 0))], [0]⟩, ⟨(some 6), none, .alloc [(.int .i64 0), (.str (ByteArray.mk #[])), (.int .i64 0), (.int .i64 0), .nls], []⟩, ⟨none, none, .store 5 (.t 6) (.t 76), [2, 1, 1, 0, 1, 2]⟩]
@[reducible] def R93_23 : List XO := [⟨(some 77), none, .mv (.t 0), []⟩, ⟨(some 78), none, .call 55 [(.t 77), (.c (.int .i64 5)), (.c (.str (ByteArray.mk #[41])))], [0]⟩]
@[reducible] def R93_24 : List XO := [⟨(some 79), none, .mv (.t 3), []⟩, ⟨(some 80), none, .fad 2 (.t 6), [0]⟩, ⟨none, none, .store 1 (.t 80) (.t 79), [1, 0, 0]⟩]
@[reducible] def R93_25 : List XO := [⟨(some 81), none, .mv (.t 0), []⟩, ⟨(some 82), none, .call 65 [(.t 81)], [0]⟩, ⟨(some 83), none, .fad 3 (.t 6), [0, 1]⟩, ⟨none, none, .store 1 (.t 83) (.t 82), [2, 1, 1, 0, 1]⟩]
@[reducible] def R93_26 : List XO := [⟨(some 84), none, .load 5 true (.t 6), []⟩, ⟨none, none, .store 5 (.t 2) (.t 84), [0, 0]⟩]
@[reducible] def F93 : XF := ⟨85, (.seq (.reg false [] R93_0) (.seq (.reg false [] R93_1) (.seq (.seq (.reg false [] R93_2) (.blk 0 (.seq (.reg false [] R93_3) (.cond (.t 11) (.seq (.reg false [] R93_4) .ret) (.seq (.reg false [] R93_5) (.cond (.t 18) (.seq (.reg false [] R93_6) .ret) (.seq (.reg false [] R93_7) (.cond (.t 25) (.seq (.reg false [] R93_8) .ret) (.seq (.reg false [] R93_9) (.cond (.t
    32) (.seq (.reg false [] R93_10) .ret) (.seq (.reg false [] R93_11) (.cond (.t 36) (.seq (.seq (.reg false [] R93_12) (.cond (.t 39) (.seq (.reg false [] R93_13) (.seq (.reg false [] R93_14) (.seq (.reg false [] R93_15) (.seq (.reg false [] R93_16) .ret)))) .skip)) (.seq (.reg true [] R93_17) (.cond (.t 62) (.seq (.reg false [] R93_18) .ret) .skip))) .skip)))))))))))) (.seq (.reg false []
    R93_19) (.seq (.seq (.reg false [] R93_20) (.cond (.t 73) (.seq (.reg false [] R93_21) .ret) .skip)) (.seq (.reg false [] R93_22) (.seq (.reg false [] R93_23) (.seq (.reg false [] R93_24) (.seq (.reg false [] R93_25) (.seq (.reg false [] R93_26) .ret)))))))))), [(2, some (5, true))]⟩
/-- (*codesearch/codesearchref12.parser).args -/
@[reducible] def R94_0 : List XO := [⟨(some 2), none, .mv (.c .nls), []⟩]
@[reducible] def R94_1 : List XO := [⟨(some 3), none, .mv (.c .nls), []⟩]
@[reducible] def R94_2 : List XO := [⟨(some 4), none, .mv (.t 0), []⟩, ⟨(some 5), none, .nilc (.t 4), [0]⟩, ⟨(some 6), none, .fad 3 (.t 5), [1]⟩, ⟨(some 7), none, .load 1 false (.t 6), [2]⟩, ⟨(some 8), none, .un .not (.t 7), [3]⟩, ⟨(some 9), none, .mv (.t 8), [4]⟩, ⟨(some 10), (some (9, true)), .mv (.t 0), [5]⟩, ⟨(some 11), (some (9, true)), .call 52 [(.t 10), (.c (.int .i64 5)), (.c (.str
    (ByteArray.mk #[41])))], [6, 5, 5]⟩, ⟨(some 12), (some (9, true)), .un .not (.t 11), [7, 5]⟩, ⟨(some 13), none, .pick (.t 9) (.t 12) (.c (.bool false)), [5, 8]⟩]
@[reducible] def R94_3 : List XO := [⟨(some 14), none, .mv (.t 3), []⟩, ⟨(some 15), none, .len false (.t 14), [0]⟩, ⟨(some 16), none, .bin false .gtr (.t 15) (.c (.int .i64 0)), [1]⟩]
@[reducible] def R94_4 : List XO := [⟨(some 17), none, .mv (.t 0), []⟩, ⟨(some 18), none, .call 55 [(.t 17), (.c (.int .i64 5)), (.c (.str (ByteArray.mk #[44])))], [0]⟩]
@[reducible] def R94_5 : List XO := [⟨(some 19), none, .mv (.t 0), []⟩, ⟨(some 20), none, .call 63 [(.t 19)], [0]⟩, ⟨(some 21), none, .bin false .eql (.t 20) (.c (.int .i64 7)), [1]⟩]
@[reducible] def R94_6 : List XO := [⟨(some 22), none, .mv (.t 3), []⟩, ⟨(some 23), none, .mv (.t 0), []⟩, ⟨(some 24), none, .call 83 [(.t 23), (.c (.bool false))], [1]⟩, ⟨(some 25), none, .bsl 27 5 [(.int .i64 0), (.str (ByteArray.mk #[])), (.int .i64 0), (.int .i64 0), .nls] 1 [(0, (.t 24))], [2]⟩, ⟨(some 26), none, .app 27 5 64 (.t 22) (.t 25), [0, 3, 2]⟩, ⟨(some 3), none, .mv (.t 26), [4, 4, 0,
    1, 2, 3, 4]⟩]
@[reducible] def R94_7 : List XO := [⟨(some 27), none, .mv (.t 3), []⟩, ⟨(some 28), none, .mv (.t 0), []⟩, ⟨(some 29), none, .call 81 [(.t 28), (.c (.int .i64 0))], [1]⟩, ⟨(some 30), none, .bsl 27 5 [(.int .i64 0), (.str (ByteArray.mk #[])), (.int .i64 0), (.int .i64 0), .nls] 1 [(0, (.t 29))], [2]⟩, ⟨(some 31), none, .app 27 5 64 (.t 27) (.t 30), [0, 3, 2]⟩, ⟨(some 3), none, .mv (.t 31), [4, 4, 0,
    1, 2, 3, 4]⟩]
@[reducible] def L94_0 : XC := (.seq (.seq (.reg false [] R94_2) (.cond (.t 13) .skip (.exit 0))) (.blk 1 (.seq (.seq (.reg false [] R94_3) (.cond (.t 16) (.reg false [] R94_4) .skip)) (.seq (.reg false [] R94_5) (.cond (.t 21) (.reg false [] R94_6) (.reg false [] R94_7))))))
@[reducible] def R94_8 : List XO := [⟨(some 32), none, .mv (.t 0), []⟩, ⟨(some 33), none, .call 55 [(.t 32), (.c (.int .i64 5)), (.c (.str (ByteArray.mk #[41])))], [0]⟩]
@[reducible] def R94_9 : List XO := [⟨(some 34), none, .mv (.t 3), []⟩, ⟨(some 2), none, .mv (.t 34), [0, 0]⟩]
@[reducible] def F94 : XF := ⟨35, (.seq (.reg false [] R94_0) (.seq (.reg false [] R94_1) (.seq (.blk 0 (.loop L94_0)) (.seq (.reg false [] R94_8) (.seq (.reg false [] R94_9) .ret))))), [(2, none)]⟩
/-- internal/bytealg.hashStr[string] -/
@[reducible] def R96_0 : List XO := [⟨(some 2), none, .mv (.c (.int .u32 0)), []⟩, ⟨(some 3), none, .mv (.c (.int .u32 0)), [0]⟩]
@[reducible] def R96_1 : List XO := [⟨(some 4), none, .mv (.c (.int .u32 0)), []⟩]
@[reducible] def R96_2 : List XO := [⟨(some 5), none, .mv (.c (.int .i64 0)), []⟩]
@[reducible] def R96_3 : List XO := [⟨(some 9), none, .mv (.t 5), []⟩, ⟨(some 10), none, .mv (.t 0), []⟩, ⟨(some 11), none, .len true (.t 10), [1]⟩, ⟨(some 12), none, .bin false .lss (.t 9) (.t 11), [0, 2]⟩]
@[reducible] def R96_4 : List XO := [⟨(some 15), none, .mv (.t 4), []⟩, ⟨(some 16), none, .bin false .mul (.t 15) (.c (.int .u32 16777619)), [0]⟩, ⟨(some 17), none, .mv (.t 0), []⟩, ⟨(some 18), none, .mv (.t 5), []⟩, ⟨(some 19), none, .ixS (.t 17) (.t 18), [2, 3]⟩, ⟨(some 20), none, .cvi .u32 (.t 19), [4]⟩, ⟨(some 21), none, .bin false .add (.t 16) (.t 20), [1, 5]⟩, ⟨(some 4), none, .mv (.t 21),
    [6, 0, 1, 2, 3, 4, 5, 6]⟩]
@[reducible] def R96_5 : List XO := [⟨(some 13), none, .mv (.t 5), []⟩, ⟨(some 14), none, .bin false .add (.t 13) (.c (.int .i64 1)), [0]⟩, ⟨(some 5), none, .mv (.t 14), [1, 0, 1]⟩]
@[reducible] def L96_0 : XC := (.seq (.seq (.reg false [] R96_3) (.cond (.t 12) .skip (.exit 0))) (.seq (.blk 1 (.reg false [] R96_4)) (.reg false [] R96_5)))
@[reducible] def R96_6 : List XO := [⟨(some 6), none, .mv (.c (.int .u32 1)), []⟩, ⟨(some 7), none, .mv (.c (.int .u32 16777619)), [0, 0]⟩]
@[reducible] def R96_7 : List XO := [⟨(some 22), none, .mv (.t 0), []⟩, ⟨(some 23), none, .len true (.t 22), [0]⟩, ⟨(some 8), none, .mv (.t 23), [1, 0, 1]⟩]
@[reducible] def R96_8 : List XO := [⟨(some 24), none, .mv (.t 8), []⟩, ⟨(some 25), none, .bin false .gtr (.t 24) (.c (.int .i64 0)), [0]⟩]
@[reducible] def R96_9 : List XO := [⟨(some 28), none, .mv (.t 8), []⟩, ⟨(some 29), none, .bin false .and (.t 28) (.c (.int .i64 1)), [0]⟩, ⟨(some 30), none, .bin false .neq (.t 29) (.c (.int .i64 0)), [1]⟩]
@[reducible] def R96_10 : List XO := [⟨(some 31), none, .mv (.t 6), []⟩, ⟨(some 32), none, .mv (.t 7), []⟩, ⟨(some 33), none, .bin false .mul (.t 31) (.t 32), [0, 1]⟩, ⟨(some 6), none, .mv (.t 33), [2, 0, 1, 2]⟩]
@[reducible] def R96_11 : List XO := [⟨(some 34), none, .mv (.t 7), []⟩, ⟨(some 35), none, .mv (.t 7), []⟩, ⟨(some 36), none, .bin false .mul (.t 34) (.t 35), [0, 1]⟩, ⟨(some 7), none, .mv (.t 36), [2, 0, 1, 2]⟩]
@[reducible] def R96_12 : List XO := [⟨(some 26), none, .mv (.t 8), []⟩, ⟨(some 27), none, .bin false .shr (.t 26) (.c (.int .u64 1)), [0]⟩, ⟨(some 8), none, .mv (.t 27), [1, 0, 1]⟩]
@[reducible] def L96_1 : XC := (.seq (.seq (.reg false [] R96_8) (.cond (.t 25) .skip (.exit 2))) (.seq (.blk 3 (.seq (.seq (.reg false [] R96_9) (.cond (.t 30) (.reg false [] R96_10) .skip)) (.reg false [] R96_11))) (.reg false [] R96_12)))
@[reducible] def R96_13 : List XO := [⟨(some 37), none, .mv (.t 4), []⟩, ⟨(some 38), none, .mv (.t 6), []⟩, ⟨(some 2), none, .mv (.t 37), [0, 0]⟩, ⟨(some 3), none, .mv (.t 38), [1, 2, 0, 1, 2]⟩]
@[reducible] def F96 : XF := ⟨39, (.seq (.reg false [] R96_0) (.seq (.reg false [] R96_1) (.seq (.seq (.reg false [] R96_2) (.blk 0 (.loop L96_0))) (.seq (.reg false [] R96_6) (.seq (.seq (.reg false [] R96_7) (.blk 2 (.loop L96_1))) (.seq (.reg false [] R96_13) .ret)))))), [(2, none), (3, none)]⟩
/-- codesearch/codesearchref12.constant -/
@[reducible] def R97_0 : List XO := [⟨(some 2), none, .mv (.c (.bool false)), []⟩]
@[reducible] def R97_1 : List XO := [⟨(some 3), none, .mv (.t 0), []⟩, ⟨(some 4), none, .bin false .eql (.t 3) (.c (.str (ByteArray.mk #[116, 114, 117, 101]))), [0]⟩, ⟨(some 5), none, .mv (.t 4), [1]⟩, ⟨(some 6), (some (5, false)), .mv (.t 0), [2]⟩, ⟨(some 7), (some (5, false)), .bin false .eql (.t 6) (.c (.str (ByteArray.mk #[102, 97, 108, 115, 101]))), [3, 2]⟩, ⟨(some 8), none, .pick (.t 5) (.c
    (.bool true)) (.t 7), [2, 4]⟩, ⟨(some 9), none, .mv (.t 8), [5, 2]⟩, ⟨(some 10), (some (9, false)), .mv (.t 0), [6]⟩, ⟨(some 11), (some (9, false)), .bin false .eql (.t 10) (.c (.str (ByteArray.mk #[110, 117, 108, 108]))), [7, 6]⟩, ⟨(some 12), none, .pick (.t 9) (.c (.bool true)) (.t 11), [6, 8]⟩, ⟨(some 13), none, .mv (.t 12), [9, 6]⟩, ⟨(some 14), (some (13, false)), .mv (.t 0), [10]⟩, ⟨(some
    15), (some (13, false)), .bin false .eql (.t 14) (.c (.str (ByteArray.mk #[116, 104, 105, 115]))), [11, 10]⟩, ⟨(some 16), none, .pick (.t 13) (.c (.bool true)) (.t 15), [10, 12]⟩, ⟨(some 2), none, .mv (.t 16), [13, 10, 0, 1, 2, 3, 4, 5, 6, 7, 8, 9, 10, 11, 12, 13]⟩]
@[reducible] def F97 : XF := ⟨17, (.seq (.reg false [] R97_0) (.seq (.reg false [] R97_1) .ret)), [(2, none)]⟩
def xp (f : Nat) : Option XF := match f with
  | 3 => some F3
  | 4 => some F4
  | 5 => some F5
  | 6 => some F6
  | 7 => some F7
  | 8 => some F8
  | 9 => some F9
  | 10 => some F10
  | 11 => some F11
  | 12 => some F12
  | 13 => some F13
  | 14 => some F14
  | 15 => some F15
  | 16 => some F16
  | 17 => some F17
  | 18 => some F18
  | 19 => some F19
  | 20 => some F20
  | 21 => some F21
  | 22 => some F22
  | 23 => some F23
  | 24 => some F24
  | 25 => some F25
  | 26 => some F26
  | 27 => some F27
  | 28 => some F28
  | 29 => some F29
  | 30 => some F30
  | 31 => some F31
  | 32 => some F32
  | 33 => some F33
  | 34 => some F34
  | 35 => some F35
  | 36 => some F36
  | 37 => some F37
  | 38 => some F38
  | 39 => some F39
  | 40 => some F40
  | 41 => some F41
  | 42 => some F42
  | 43 => some F43
  | 44 => some F44
  | 45 => some F45
  | 46 => some F46
  | 47 => some F47
  | 48 => some F48
  | 49 => some F49
  | 50 => some F50
  | 51 => some F51
  | 52 => some F52
  | 53 => some F53
  | 54 => some F54
  | 55 => some F55
  | 56 => some F56
  | 57 => some F57
  | 58 => some F58
  | 59 => some F59
  | 60 => some F60
  | 61 => some F61
  | 62 => some F62
  | 63 => some F63
  | 64 => some F64
  | 65 => some F65
  | 66 => some F66
  | 67 => some F67
  | 68 => some F68
  | 69 => some F69
  | 70 => some F70
  | 71 => some F71
  | 72 => some F72
  | 73 => some F73
  | 74 => some F74
  | 75 => some F75
  | 76 => some F76
  | 77 => some F77
  | 78 => some F78
  | 79 => some F79
  | 80 => some F80
  | 81 => some F81
  | 82 => some F82
  | 83 => some F83
  | 84 => some F84
  | 85 => some F85
  | 86 => some F86
  | 87 => some F87
  | 88 => some F88
  | 90 => some F90
  | 91 => some F91
  | 92 => some F92
  | 93 => some F93
  | 94 => some F94
  | 96 => some F96
  | 97 => some F97
  | _ => none
def md (f : Nat) : Bool := match f with
  | 33 => true
  | 34 => true
  | 47 => true
  | 43 => true
  | 44 => true
  | 54 => true
  | 55 => true
  | 56 => true
  | 57 => true
  | 58 => true
  | 64 => true
  | 66 => true
  | 67 => true
  | 68 => true
  | 69 => true
  | 75 => true
  | 76 => true
  | 77 => true
  | 79 => true
  | 80 => true
  | 81 => true
  | 83 => true
  | 84 => true
  | 85 => true
  | 86 => true
  | 92 => true
  | 93 => true
  | 94 => true
  | 1000045 => true
  | 1000052 => true
  | 1000053 => true
  | 1000063 => true
  | 1000065 => true
  | _ => false
theorem c3 : cFn Try.prog Try.f3 = some F3 := by kernel_rfl
theorem c4 : cFn Try.prog Try.f4 = some F4 := by kernel_rfl
theorem c5 : cFn Try.prog Try.f5 = some F5 := by kernel_rfl
theorem c6 : cFn Try.prog Try.f6 = some F6 := by kernel_rfl
theorem c7 : cFn Try.prog Try.f7 = some F7 := by kernel_rfl
theorem c8 : cFn Try.prog Try.f8 = some F8 := by kernel_rfl
theorem c9 : cFn Try.prog Try.f9 = some F9 := by kernel_rfl
theorem c10 : cFn Try.prog Try.f10 = some F10 := by kernel_rfl
theorem c11 : cFn Try.prog Try.f11 = some F11 := by kernel_rfl
theorem c12 : cFn Try.prog Try.f12 = some F12 := by kernel_rfl
theorem c13 : cFn Try.prog Try.f13 = some F13 := by kernel_rfl
theorem c14 : cFn Try.prog Try.f14 = some F14 := by kernel_rfl
theorem c15 : cFn Try.prog Try.f15 = some F15 := by kernel_rfl
theorem c16 : cFn Try.prog Try.f16 = some F16 := by kernel_rfl
theorem c17 : cFn Try.prog Try.f17 = some F17 := by kernel_rfl
theorem c18 : cFn Try.prog Try.f18 = some F18 := by kernel_rfl
theorem c19 : cFn Try.prog Try.f19 = some F19 := by kernel_rfl
theorem c20 : cFn Try.prog Try.f20 = some F20 := by kernel_rfl
theorem c21 : cFn Try.prog Try.f21 = some F21 := by kernel_rfl
theorem c22 : cFn Try.prog Try.f22 = some F22 := by kernel_rfl
theorem c23 : cFn Try.prog Try.f23 = some F23 := by kernel_rfl
theorem c24 : cFn Try.prog Try.f24 = some F24 := by kernel_rfl
theorem c25 : cFn Try.prog Try.f25 = some F25 := by kernel_rfl
theorem c26 : cFn Try.prog Try.f26 = some F26 := by kernel_rfl
theorem c27 : cFn Try.prog Try.f27 = some F27 := by kernel_rfl
theorem c28 : cFn Try.prog Try.f28 = some F28 := by kernel_rfl
theorem c29 : cFn Try.prog Try.f29 = some F29 := by kernel_rfl
theorem c30 : cFn Try.prog Try.f30 = some F30 := by kernel_rfl
theorem c31 : cFn Try.prog Try.f31 = some F31 := by kernel_rfl
theorem c32 : cFn Try.prog Try.f32 = some F32 := by kernel_rfl
theorem c33 : cFn Try.prog Try.f33 = some F33 := by kernel_rfl
theorem c34 : cFn Try.prog Try.f34 = some F34 := by kernel_rfl
theorem c35 : cFn Try.prog Try.f35 = some F35 := by kernel_rfl
theorem c36 : cFn Try.prog Try.f36 = some F36 := by kernel_rfl
theorem c37 : cFn Try.prog Try.f37 = some F37 := by kernel_rfl
theorem c38 : cFn Try.prog Try.f38 = some F38 := by kernel_rfl
theorem c39 : cFn Try.prog Try.f39 = some F39 := by kernel_rfl
theorem c40 : cFn Try.prog Try.f40 = some F40 := by kernel_rfl
theorem c41 : cFn Try.prog Try.f41 = some F41 := by kernel_rfl
theorem c42 : cFn Try.prog Try.f42 = some F42 := by kernel_rfl
theorem c43 : cFn Try.prog Try.f43 = some F43 := by kernel_rfl
theorem c44 : cFn Try.prog Try.f44 = some F44 := by kernel_rfl
theorem c45 : cFn Try.prog Try.f45 = some F45 := by kernel_rfl
theorem c46 : cFn Try.prog Try.f46 = some F46 := by kernel_rfl
theorem c47 : cFn Try.prog Try.f47 = some F47 := by kernel_rfl
theorem c48 : cFn Try.prog Try.f48 = some F48 := by kernel_rfl
theorem c49 : cFn Try.prog Try.f49 = some F49 := by kernel_rfl
theorem c50 : cFn Try.prog Try.f50 = some F50 := by kernel_rfl
theorem c51 : cFn Try.prog Try.f51 = some F51 := by kernel_rfl
theorem c52 : cFn Try.prog Try.f52 = some F52 := by kernel_rfl
theorem c53 : cFn Try.prog Try.f53 = some F53 := by kernel_rfl
theorem c54 : cFn Try.prog Try.f54 = some F54 := by kernel_rfl
theorem c55 : cFn Try.prog Try.f55 = some F55 := by kernel_rfl
theorem c56 : cFn Try.prog Try.f56 = some F56 := by kernel_rfl
theorem c57 : cFn Try.prog Try.f57 = some F57 := by kernel_rfl
theorem c58 : cFn Try.prog Try.f58 = some F58 := by kernel_rfl
theorem c59 : cFn Try.prog Try.f59 = some F59 := by kernel_rfl
theorem c60 : cFn Try.prog Try.f60 = some F60 := by kernel_rfl
theorem c61 : cFn Try.prog Try.f61 = some F61 := by kernel_rfl
theorem c62 : cFn Try.prog Try.f62 = some F62 := by kernel_rfl
theorem c63 : cFn Try.prog Try.f63 = some F63 := by kernel_rfl
theorem c64 : cFn Try.prog Try.f64 = some F64 := by kernel_rfl
theorem c65 : cFn Try.prog Try.f65 = some F65 := by kernel_rfl
theorem c66 : cFn Try.prog Try.f66 = some F66 := by kernel_rfl
theorem c67 : cFn Try.prog Try.f67 = some F67 := by kernel_rfl
theorem c68 : cFn Try.prog Try.f68 = some F68 := by kernel_rfl
theorem c69 : cFn Try.prog Try.f69 = some F69 := by kernel_rfl
theorem c70 : cFn Try.prog Try.f70 = some F70 := by kernel_rfl
theorem c71 : cFn Try.prog Try.f71 = some F71 := by kernel_rfl
theorem c72 : cFn Try.prog Try.f72 = some F72 := by kernel_rfl
theorem c73 : cFn Try.prog Try.f73 = some F73 := by kernel_rfl
theorem c74 : cFn Try.prog Try.f74 = some F74 := by kernel_rfl
theorem c75 : cFn Try.prog Try.f75 = some F75 := by kernel_rfl
theorem c76 : cFn Try.prog Try.f76 = some F76 := by kernel_rfl
theorem c77 : cFn Try.prog Try.f77 = some F77 := by kernel_rfl
theorem c78 : cFn Try.prog Try.f78 = some F78 := by kernel_rfl
theorem c79 : cFn Try.prog Try.f79 = some F79 := by kernel_rfl
theorem c80 : cFn Try.prog Try.f80 = some F80 := by kernel_rfl
theorem c81 : cFn Try.prog Try.f81 = some F81 := by kernel_rfl
theorem c82 : cFn Try.prog Try.f82 = some F82 := by kernel_rfl
theorem c83 : cFn Try.prog Try.f83 = some F83 := by kernel_rfl
theorem c84 : cFn Try.prog Try.f84 = some F84 := by kernel_rfl
theorem c85 : cFn Try.prog Try.f85 = some F85 := by kernel_rfl
theorem c86 : cFn Try.prog Try.f86 = some F86 := by kernel_rfl
theorem c87 : cFn Try.prog Try.f87 = some F87 := by kernel_rfl
theorem c88 : cFn Try.prog Try.f88 = some F88 := by kernel_rfl
theorem c90 : cFn Try.prog Try.f90 = some F90 := by kernel_rfl
theorem c91 : cFn Try.prog Try.f91 = some F91 := by kernel_rfl
theorem c92 : cFn Try.prog Try.f92 = some F92 := by kernel_rfl
theorem c93 : cFn Try.prog Try.f93 = some F93 := by kernel_rfl
theorem c94 : cFn Try.prog Try.f94 = some F94 := by kernel_rfl
theorem c96 : cFn Try.prog Try.f96 = some F96 := by kernel_rfl
theorem c97 : cFn Try.prog Try.f97 = some F97 := by kernel_rfl
theorem fnsOk : FnsOk Try.prog xp := by
  intro f F h
  unfold xp at h
  split at h
  · obtain rfl := Option.some.inj h; exact ⟨_, Try.func3, c3⟩
  · obtain rfl := Option.some.inj h; exact ⟨_, Try.func4, c4⟩
  · obtain rfl := Option.some.inj h; exact ⟨_, Try.func5, c5⟩
  · obtain rfl := Option.some.inj h; exact ⟨_, Try.func6, c6⟩
  · obtain rfl := Option.some.inj h; exact ⟨_, Try.func7, c7⟩
  · obtain rfl := Option.some.inj h; exact ⟨_, Try.func8, c8⟩
  · obtain rfl := Option.some.inj h; exact ⟨_, Try.func9, c9⟩
  · obtain rfl := Option.some.inj h; exact ⟨_, Try.func10, c10⟩
  · obtain rfl := Option.some.inj h; exact ⟨_, Try.func11, c11⟩
  · obtain rfl := Option.some.inj h; exact ⟨_, Try.func12, c12⟩
  · obtain rfl := Option.some.inj h; exact ⟨_, Try.func13, c13⟩
  · obtain rfl := Option.some.inj h; exact ⟨_, Try.func14, c14⟩
  · obtain rfl := Option.some.inj h; exact ⟨_, Try.func15, c15⟩
  · obtain rfl := Option.some.inj h; exact ⟨_, Try.func16, c16⟩
  · obtain rfl := Option.some.inj h; exact ⟨_, Try.func17, c17⟩
  · obtain rfl := Option.some.inj h; exact ⟨_, Try.func18, c18⟩
  · obtain rfl := Option.some.inj h; exact ⟨_, Try.func19, c19⟩
  · obtain rfl := Option.some.inj h; exact ⟨_, Try.func20, c20⟩
  · obtain rfl := Option.some.inj h; exact ⟨_, Try.func21, c21⟩
  · obtain rfl := Option.some.inj h; exact ⟨_, Try.func22, c22⟩
  · obtain rfl := Option.some.inj h; exact ⟨_, Try.func23, c23⟩
  · obtain rfl := Option.some.inj h; exact ⟨_, Try.func24, c24⟩
  · obtain rfl := Option.some.inj h; exact ⟨_, Try.func25, c25⟩
  · obtain rfl := Option.some.inj h; exact ⟨_, Try.func26, c26⟩
  · obtain rfl := Option.some.inj h; exact ⟨_, Try.func27, c27⟩
  · obtain rfl := Option.some.inj h; exact ⟨_, Try.func28, c28⟩
  · obtain rfl := Option.some.inj h; exact ⟨_, Try.func29, c29⟩
  · obtain rfl := Option.some.inj h; exact ⟨_, Try.func30, c30⟩
  · obtain rfl := Option.some.inj h; exact ⟨_, Try.func31, c31⟩
  · obtain rfl := Option.some.inj h; exact ⟨_, Try.func32, c32⟩
  · obtain rfl := Option.some.inj h; exact ⟨_, Try.func33, c33⟩
  · obtain rfl := Option.some.inj h; exact ⟨_, Try.func34, c34⟩
  · obtain rfl := Option.some.inj h; exact ⟨_, Try.func35, c35⟩
  · obtain rfl := Option.some.inj h; exact ⟨_, Try.func36, c36⟩
  · obtain rfl := Option.some.inj h; exact ⟨_, Try.func37, c37⟩
  · obtain rfl := Option.some.inj h; exact ⟨_, Try.func38, c38⟩
  · obtain rfl := Option.some.inj h; exact ⟨_, Try.func39, c39⟩
  · obtain rfl := Option.some.inj h; exact ⟨_, Try.func40, c40⟩
  · obtain rfl := Option.some.inj h; exact ⟨_, Try.func41, c41⟩
  · obtain rfl := Option.some.inj h; exact ⟨_, Try.func42, c42⟩
  · obtain rfl := Option.some.inj h; exact ⟨_, Try.func43, c43⟩
  · obtain rfl := Option.some.inj h; exact ⟨_, Try.func44, c44⟩
  · obtain rfl := Option.some.inj h; exact ⟨_, Try.func45, c45⟩
  · obtain rfl := Option.some.inj h; exact ⟨_, Try.func46, c46⟩
  · obtain rfl := Option.some.inj h; exact ⟨_, Try.func47, c47⟩
  · obtain rfl := Option.some.inj h; exact ⟨_, Try.func48, c48⟩
  · obtain rfl := Option.some.inj h; exact ⟨_, Try.func49, c49⟩
  · obtain rfl := Option.some.inj h; exact ⟨_, Try.func50, c50⟩
  · obtain rfl := Option.some.inj h; exact ⟨_, Try.func51, c51⟩
  · obtain rfl := Option.some.inj h; exact ⟨_, Try.func52, c52⟩
  · obtain rfl := Option.some.inj h; exact ⟨_, Try.func53, c53⟩
  · obtain rfl := Option.some.inj h; exact ⟨_, Try.func54, c54⟩
  · obtain rfl := Option.some.inj h; exact ⟨_, Try.func55, c55⟩
  · obtain rfl := Option.some.inj h; exact ⟨_, Try.func56, c56⟩
  · obtain rfl := Option.some.inj h; exact ⟨_, Try.func57, c57⟩
  · obtain rfl := Option.some.inj h; exact ⟨_, Try.func58, c58⟩
  · obtain rfl := Option.some.inj h; exact ⟨_, Try.func59, c59⟩
  · obtain rfl := Option.some.inj h; exact ⟨_, Try.func60, c60⟩
  · obtain rfl := Option.some.inj h; exact ⟨_, Try.func61, c61⟩
  · obtain rfl := Option.some.inj h; exact ⟨_, Try.func62, c62⟩
  · obtain rfl := Option.some.inj h; exact ⟨_, Try.func63, c63⟩
  · obtain rfl := Option.some.inj h; exact ⟨_, Try.func64, c64⟩
  · obtain rfl := Option.some.inj h; exact ⟨_, Try.func65, c65⟩
  · obtain rfl := Option.some.inj h; exact ⟨_, Try.func66, c66⟩
  · obtain rfl := Option.some.inj h; exact ⟨_, Try.func67, c67⟩
  · obtain rfl := Option.some.inj h; exact ⟨_, Try.func68, c68⟩
  · obtain rfl := Option.some.inj h; exact ⟨_, Try.func69, c69⟩
  · obtain rfl := Option.some.inj h; exact ⟨_, Try.func70, c70⟩
  · obtain rfl := Option.some.inj h; exact ⟨_, Try.func71, c71⟩
  · obtain rfl := Option.some.inj h; exact ⟨_, Try.func72, c72⟩
  · obtain rfl := Option.some.inj h; exact ⟨_, Try.func73, c73⟩
  · obtain rfl := Option.some.inj h; exact ⟨_, Try.func74, c74⟩
  · obtain rfl := Option.some.inj h; exact ⟨_, Try.func75, c75⟩
  · obtain rfl := Option.some.inj h; exact ⟨_, Try.func76, c76⟩
  · obtain rfl := Option.some.inj h; exact ⟨_, Try.func77, c77⟩
  · obtain rfl := Option.some.inj h; exact ⟨_, Try.func78, c78⟩
  · obtain rfl := Option.some.inj h; exact ⟨_, Try.func79, c79⟩
  · obtain rfl := Option.some.inj h; exact ⟨_, Try.func80, c80⟩
  · obtain rfl := Option.some.inj h; exact ⟨_, Try.func81, c81⟩
  · obtain rfl := Option.some.inj h; exact ⟨_, Try.func82, c82⟩
  · obtain rfl := Option.some.inj h; exact ⟨_, Try.func83, c83⟩
  · obtain rfl := Option.some.inj h; exact ⟨_, Try.func84, c84⟩
  · obtain rfl := Option.some.inj h; exact ⟨_, Try.func85, c85⟩
  · obtain rfl := Option.some.inj h; exact ⟨_, Try.func86, c86⟩
  · obtain rfl := Option.some.inj h; exact ⟨_, Try.func87, c87⟩
  · obtain rfl := Option.some.inj h; exact ⟨_, Try.func88, c88⟩
  · obtain rfl := Option.some.inj h; exact ⟨_, Try.func90, c90⟩
  · obtain rfl := Option.some.inj h; exact ⟨_, Try.func91, c91⟩
  · obtain rfl := Option.some.inj h; exact ⟨_, Try.func92, c92⟩
  · obtain rfl := Option.some.inj h; exact ⟨_, Try.func93, c93⟩
  · obtain rfl := Option.some.inj h; exact ⟨_, Try.func94, c94⟩
  · obtain rfl := Option.some.inj h; exact ⟨_, Try.func96, c96⟩
  · obtain rfl := Option.some.inj h; exact ⟨_, Try.func97, c97⟩
  · cases h
theorem LN : (((((((((8 * List.length R3_0 = 16) ∧ ((8 * List.length R3_1 = 16) ∧ (8 * List.length R3_2 = 8))) ∧ (((8 * List.length R3_3 = 64) ∧ (8 * List.length R3_4 = 16)) ∧ ((8 * List.length R3_5 = 8) ∧ (8 * List.length R3_6 = 56)))) ∧ (((8 * List.length R3_7 = 56) ∧ ((8 * List.length R3_8 = 72) ∧ (8 * List.length R4_0 = 8))) ∧ (((8 * List.length R4_1 = 16) ∧ (8 * List.length R4_2 = 8)) ∧ ((8 *
    List.length R4_3 = 56) ∧ (8 * List.length R4_4 = 16))))) ∧ ((((8 * List.length R4_5 = 8) ∧ ((8 * List.length R4_6 = 56) ∧ (8 * List.length R4_7 = 56))) ∧ (((8 * List.length R4_8 = 72) ∧ (8 * List.length R5_0 = 8)) ∧ ((8 * List.length R5_1 = 16) ∧ (8 * List.length R5_2 = 8)))) ∧ ((((8 * List.length R5_3 = 56) ∧ (8 * List.length R5_4 = 16)) ∧ ((8 * List.length R5_5 = 8) ∧ (8 * List.length R5_6 =
    56))) ∧ (((8 * List.length R5_7 = 8) ∧ (8 * List.length R5_8 = 32)) ∧ ((8 * List.length R5_9 = 104) ∧ (8 * List.length R5_10 = 8)))))) ∧ (((((8 * List.length R5_11 = 8) ∧ ((8 * List.length R5_12 = 24) ∧ (8 * List.length R5_13 = 88))) ∧ (((8 * List.length R5_14 = 8) ∧ (8 * List.length R5_15 = 24)) ∧ ((8 * List.length R5_16 = 48) ∧ (8 * List.length R5_17 = 48)))) ∧ ((((8 * List.length R5_18 = 8)
    ∧ (8 * List.length R5_19 = 120)) ∧ ((8 * List.length R5_20 = 8) ∧ (8 * List.length R5_21 = 88))) ∧ (((8 * List.length R5_22 = 368) ∧ (8 * List.length R5_23 = 8)) ∧ ((8 * List.length R5_24 = 24) ∧ (8 * List.length R5_25 = 8))))) ∧ ((((8 * List.length R6_0 = 16) ∧ ((8 * List.length R6_1 = 16) ∧ (8 * List.length R6_2 = 8))) ∧ (((8 * List.length R6_3 = 64) ∧ (8 * List.length R6_4 = 16)) ∧ ((8 *
    List.length R6_5 = 8) ∧ (8 * List.length R6_6 = 56)))) ∧ ((((8 * List.length R6_7 = 64) ∧ (8 * List.length R6_8 = 24)) ∧ ((8 * List.length R6_9 = 256) ∧ (8 * List.length R6_10 = 72))) ∧ (((8 * List.length R7_0 = 8) ∧ (8 * List.length R7_1 = 16)) ∧ ((8 * List.length R7_2 = 8) ∧ (8 * List.length R7_3 = 56))))))) ∧ ((((((8 * List.length R7_4 = 16) ∧ ((8 * List.length R7_5 = 8) ∧ (8 * List.length
    R7_6 = 8))) ∧ (((8 * List.length R7_7 = 32) ∧ (8 * List.length R7_8 = 8)) ∧ ((8 * List.length R7_9 = 24) ∧ (8 * List.length R7_10 = 88)))) ∧ ((((8 * List.length R7_11 = 8) ∧ (8 * List.length R7_12 = 24)) ∧ ((8 * List.length R7_13 = 24) ∧ (8 * List.length R7_14 = 56))) ∧ (((8 * List.length R7_15 = 80) ∧ (8 * List.length R7_16 = 152)) ∧ ((8 * List.length R7_17 = 8) ∧ (8 * List.length R7_18 =
    8))))) ∧ ((((8 * List.length R7_19 = 32) ∧ ((8 * List.length R7_20 = 200) ∧ (8 * List.length R7_21 = 176))) ∧ (((8 * List.length R7_22 = 8) ∧ (8 * List.length R7_23 = 24)) ∧ ((8 * List.length R7_24 = 8) ∧ (8 * List.length R8_0 = 8)))) ∧ ((((8 * List.length R8_1 = 16) ∧ (8 * List.length R8_2 = 8)) ∧ ((8 * List.length R8_3 = 56) ∧ (8 * List.length R8_4 = 16))) ∧ (((8 * List.length R8_5 = 8) ∧ (8
    * List.length R8_6 = 56)) ∧ ((8 * List.length R8_7 = 8) ∧ (8 * List.length R8_8 = 32)))))) ∧ (((((8 * List.length R8_9 = 104) ∧ ((8 * List.length R8_10 = 104) ∧ (8 * List.length R8_11 = 192))) ∧ (((8 * List.length R8_12 = 8) ∧ (8 * List.length R8_13 = 64)) ∧ ((8 * List.length R8_14 = 8) ∧ (8 * List.length R8_15 = 8)))) ∧ ((((8 * List.length R8_16 = 32) ∧ (8 * List.length R8_17 = 120)) ∧ ((8 *
    List.length R8_18 = 24) ∧ (8 * List.length R8_19 = 16))) ∧ (((8 * List.length R8_20 = 8) ∧ (8 * List.length R8_21 = 24)) ∧ ((8 * List.length R8_22 = 8) ∧ (8 * List.length R9_0 = 16))))) ∧ ((((8 * List.length R9_1 = 16) ∧ ((8 * List.length R9_2 = 8) ∧ (8 * List.length R9_3 = 72))) ∧ (((8 * List.length R9_4 = 8) ∧ (8 * List.length R9_5 = 80)) ∧ ((8 * List.length R9_6 = 80) ∧ (8 * List.length R9_7
    = 144)))) ∧ ((((8 * List.length R9_8 = 8) ∧ (8 * List.length R9_9 = 72)) ∧ ((8 * List.length R9_10 = 72) ∧ (8 * List.length R9_11 = 168))) ∧ (((8 * List.length R9_12 = 8) ∧ (8 * List.length R9_13 = 88)) ∧ ((8 * List.length R9_14 = 88) ∧ (8 * List.length R9_15 = 72)))))))) ∧ (((((((8 * List.length R10_0 = 8) ∧ ((8 * List.length R10_1 = 64) ∧ (8 * List.length R10_2 = 16))) ∧ (((8 * List.length
    R10_3 = 8) ∧ (8 * List.length R10_4 = 56)) ∧ ((8 * List.length R10_5 = 288) ∧ (8 * List.length R10_6 = 8)))) ∧ (((8 * List.length R10_7 = 280) ∧ ((8 * List.length R10_8 = 8) ∧ (8 * List.length R10_9 = 56))) ∧ (((8 * List.length R10_10 = 48) ∧ (8 * List.length R10_11 = 224)) ∧ ((8 * List.length R10_12 = 8) ∧ (8 * List.length R10_13 = 56))))) ∧ ((((8 * List.length R10_14 = 64) ∧ ((8 * List.length
    R10_15 = 200) ∧ (8 * List.length R11_0 = 24))) ∧ (((8 * List.length R11_1 = 80) ∧ (8 * List.length R11_2 = 24)) ∧ ((8 * List.length R11_3 = 88) ∧ (8 * List.length R11_4 = 80)))) ∧ ((((8 * List.length R12_0 = 24) ∧ (8 * List.length R12_1 = 32)) ∧ ((8 * List.length R12_2 = 88) ∧ (8 * List.length R12_3 = 56))) ∧ (((8 * List.length R12_4 = 80) ∧ (8 * List.length R13_0 = 24)) ∧ ((8 * List.length
    R13_1 = 104) ∧ (8 * List.length R13_2 = 16)))))) ∧ (((((8 * List.length R13_3 = 8) ∧ ((8 * List.length R13_4 = 48) ∧ (8 * List.length R13_5 = 64))) ∧ (((8 * List.length R13_6 = 24) ∧ (8 * List.length R13_7 = 56)) ∧ ((8 * List.length R13_8 = 24) ∧ (8 * List.length R13_9 = 72)))) ∧ ((((8 * List.length R13_10 = 40) ∧ (8 * List.length R13_11 = 40)) ∧ ((8 * List.length R13_12 = 24) ∧ (8 *
    List.length R13_13 = 16))) ∧ (((8 * List.length R13_14 = 40) ∧ (8 * List.length R13_15 = 64)) ∧ ((8 * List.length R13_16 = 24) ∧ (8 * List.length R13_17 = 80))))) ∧ ((((8 * List.length R13_18 = 8) ∧ ((8 * List.length R13_19 = 32) ∧ (8 * List.length R13_20 = 72))) ∧ (((8 * List.length R13_21 = 24) ∧ (8 * List.length R13_22 = 96)) ∧ ((8 * List.length R13_23 = 64) ∧ (8 * List.length R13_24 =
    40)))) ∧ ((((8 * List.length R13_25 = 24) ∧ (8 * List.length R13_26 = 24)) ∧ ((8 * List.length R13_27 = 40) ∧ (8 * List.length R13_28 = 24))) ∧ (((8 * List.length R13_29 = 24) ∧ (8 * List.length R13_30 = 32)) ∧ ((8 * List.length R14_0 = 8) ∧ (8 * List.length R14_1 = 40))))))) ∧ ((((((8 * List.length R14_2 = 8) ∧ ((8 * List.length R14_3 = 8) ∧ (8 * List.length R14_4 = 32))) ∧ (((8 * List.length
    R14_5 = 80) ∧ (8 * List.length R14_6 = 8)) ∧ ((8 * List.length R14_7 = 24) ∧ (8 * List.length R14_8 = 8)))) ∧ ((((8 * List.length R15_0 = 8) ∧ (8 * List.length R15_1 = 40)) ∧ ((8 * List.length R15_2 = 8) ∧ (8 * List.length R15_3 = 8))) ∧ (((8 * List.length R15_4 = 32) ∧ (8 * List.length R15_5 = 296)) ∧ ((8 * List.length R15_6 = 8) ∧ (8 * List.length R15_7 = 24))))) ∧ ((((8 * List.length R15_8 =
    8) ∧ ((8 * List.length R16_0 = 16) ∧ (8 * List.length R16_1 = 16))) ∧ (((8 * List.length R16_2 = 8) ∧ (8 * List.length R16_3 = 32)) ∧ ((8 * List.length R16_4 = 88) ∧ (8 * List.length R16_5 = 48)))) ∧ ((((8 * List.length R16_6 = 16) ∧ (8 * List.length R16_7 = 40)) ∧ ((8 * List.length R16_8 = 24) ∧ (8 * List.length R16_9 = 24))) ∧ (((8 * List.length R17_0 = 16) ∧ (8 * List.length R17_1 = 8)) ∧
    ((8 * List.length R17_2 = 8) ∧ (8 * List.length R17_3 = 16)))))) ∧ (((((8 * List.length R17_4 = 24) ∧ ((8 * List.length R17_5 = 8) ∧ (8 * List.length R17_6 = 32))) ∧ (((8 * List.length R17_7 = 32) ∧ (8 * List.length R17_8 = 56)) ∧ ((8 * List.length R17_9 = 56) ∧ (8 * List.length R17_10 = 48)))) ∧ ((((8 * List.length R17_11 = 72) ∧ (8 * List.length R17_12 = 32)) ∧ ((8 * List.length R17_13 = 24)
    ∧ (8 * List.length R17_14 = 24))) ∧ (((8 * List.length R17_15 = 8) ∧ (8 * List.length R17_16 = 32)) ∧ ((8 * List.length R17_17 = 48) ∧ (8 * List.length R17_18 = 24))))) ∧ ((((8 * List.length R17_19 = 48) ∧ ((8 * List.length R17_20 = 40) ∧ (8 * List.length R17_21 = 16))) ∧ (((8 * List.length R17_22 = 32) ∧ (8 * List.length R17_23 = 16)) ∧ ((8 * List.length R17_24 = 32) ∧ (8 * List.length R18_0 =
    16)))) ∧ ((((8 * List.length R18_1 = 16) ∧ (8 * List.length R18_2 = 16)) ∧ ((8 * List.length R18_3 = 16) ∧ (8 * List.length R18_4 = 8))) ∧ (((8 * List.length R18_5 = 32) ∧ (8 * List.length R18_6 = 8)) ∧ ((8 * List.length R18_7 = 8) ∧ (8 * List.length R18_8 = 32))))))))) ∧ ((((((((8 * List.length R18_9 = 112) ∧ ((8 * List.length R18_10 = 24) ∧ (8 * List.length R18_11 = 8))) ∧ (((8 * List.length
    R18_12 = 80) ∧ (8 * List.length R18_13 = 80)) ∧ ((8 * List.length R18_14 = 24) ∧ (8 * List.length R18_15 = 40)))) ∧ (((8 * List.length R18_16 = 80) ∧ ((8 * List.length R18_17 = 72) ∧ (8 * List.length R18_18 = 8))) ∧ (((8 * List.length R18_19 = 32) ∧ (8 * List.length R18_20 = 48)) ∧ ((8 * List.length R18_21 = 48) ∧ (8 * List.length R18_22 = 24))))) ∧ ((((8 * List.length R18_23 = 48) ∧ ((8 *
    List.length R18_24 = 40) ∧ (8 * List.length R18_25 = 24))) ∧ (((8 * List.length R18_26 = 32) ∧ (8 * List.length R18_27 = 24)) ∧ ((8 * List.length R18_28 = 32) ∧ (8 * List.length R19_0 = 8)))) ∧ ((((8 * List.length R19_1 = 48) ∧ (8 * List.length R20_0 = 16)) ∧ ((8 * List.length R20_1 = 32) ∧ (8 * List.length R20_2 = 16))) ∧ (((8 * List.length R20_3 = 200) ∧ (8 * List.length R20_4 = 48)) ∧ ((8 *
    List.length R20_5 = 24) ∧ (8 * List.length R20_6 = 24)))))) ∧ (((((8 * List.length R21_0 = 16) ∧ ((8 * List.length R21_1 = 24) ∧ (8 * List.length R21_2 = 8))) ∧ (((8 * List.length R21_3 = 32) ∧ (8 * List.length R21_4 = 32)) ∧ ((8 * List.length R21_5 = 24) ∧ (8 * List.length R21_6 = 16)))) ∧ ((((8 * List.length R21_7 = 24) ∧ (8 * List.length R22_0 = 16)) ∧ ((8 * List.length R22_1 = 24) ∧ (8 *
    List.length R22_2 = 8))) ∧ (((8 * List.length R22_3 = 32) ∧ (8 * List.length R22_4 = 32)) ∧ ((8 * List.length R22_5 = 24) ∧ (8 * List.length R22_6 = 16))))) ∧ ((((8 * List.length R22_7 = 24) ∧ ((8 * List.length R23_0 = 24) ∧ (8 * List.length R23_1 = 608))) ∧ (((8 * List.length R24_0 = 8) ∧ (8 * List.length R24_1 = 8)) ∧ ((8 * List.length R24_2 = 24) ∧ (8 * List.length R24_3 = 8)))) ∧ ((((8 *
    List.length R24_4 = 32) ∧ (8 * List.length R24_5 = 32)) ∧ ((8 * List.length R24_6 = 40) ∧ (8 * List.length R24_7 = 16))) ∧ (((8 * List.length R24_8 = 16) ∧ (8 * List.length R25_0 = 16)) ∧ ((8 * List.length R25_1 = 8) ∧ (8 * List.length R25_2 = 32))))))) ∧ ((((((8 * List.length R25_3 = 56) ∧ ((8 * List.length R25_4 = 48) ∧ (8 * List.length R25_5 = 24))) ∧ (((8 * List.length R25_6 = 24) ∧ (8 *
    List.length R26_0 = 8)) ∧ ((8 * List.length R26_1 = 48) ∧ (8 * List.length R27_0 = 16)))) ∧ ((((8 * List.length R27_1 = 8) ∧ (8 * List.length R27_2 = 32)) ∧ ((8 * List.length R27_3 = 56) ∧ (8 * List.length R27_4 = 48))) ∧ (((8 * List.length R27_5 = 24) ∧ (8 * List.length R27_6 = 24)) ∧ ((8 * List.length R28_0 = 8) ∧ (8 * List.length R28_1 = 16))))) ∧ ((((8 * List.length R28_2 = 8) ∧ ((8 *
    List.length R28_3 = 32) ∧ (8 * List.length R28_4 = 56))) ∧ (((8 * List.length R28_5 = 64) ∧ (8 * List.length R28_6 = 24)) ∧ ((8 * List.length R28_7 = 16) ∧ (8 * List.length R29_0 = 16)))) ∧ ((((8 * List.length R29_1 = 32) ∧ (8 * List.length R29_2 = 8)) ∧ ((8 * List.length R29_3 = 32) ∧ (8 * List.length R29_4 = 200))) ∧ (((8 * List.length R29_5 = 48) ∧ (8 * List.length R29_6 = 24)) ∧ ((8 *
    List.length R29_7 = 32) ∧ (8 * List.length R30_0 = 8)))))) ∧ (((((8 * List.length R30_1 = 40) ∧ ((8 * List.length R30_2 = 8) ∧ (8 * List.length R30_3 = 8))) ∧ (((8 * List.length R30_4 = 32) ∧ (8 * List.length R30_5 = 72)) ∧ ((8 * List.length R30_6 = 8) ∧ (8 * List.length R30_7 = 24)))) ∧ ((((8 * List.length R30_8 = 8) ∧ (8 * List.length R31_0 = 8)) ∧ ((8 * List.length R31_1 = 208) ∧ (8 *
    List.length R32_0 = 24))) ∧ (((8 * List.length R32_1 = 72) ∧ (8 * List.length R32_2 = 16)) ∧ ((8 * List.length R32_3 = 48) ∧ (8 * List.length R32_4 = 48))))) ∧ ((((8 * List.length R32_5 = 32) ∧ ((8 * List.length R32_6 = 72) ∧ (8 * List.length R33_0 = 24))) ∧ (((8 * List.length R33_1 = 176) ∧ (8 * List.length R33_2 = 16)) ∧ ((8 * List.length R33_3 = 16) ∧ (8 * List.length R33_4 = 56)))) ∧ ((((8
    * List.length R33_5 = 16) ∧ (8 * List.length R33_6 = 40)) ∧ ((8 * List.length R33_7 = 8) ∧ (8 * List.length R33_8 = 32))) ∧ (((8 * List.length R33_9 = 88) ∧ (8 * List.length R33_10 = 16)) ∧ ((8 * List.length R33_11 = 16) ∧ (8 * List.length R33_12 = 40)))))))) ∧ (((((((8 * List.length R33_13 = 24) ∧ ((8 * List.length R33_14 = 40) ∧ (8 * List.length R33_15 = 16))) ∧ (((8 * List.length R33_16 =
    48) ∧ (8 * List.length R33_17 = 48)) ∧ ((8 * List.length R33_18 = 72) ∧ (8 * List.length R33_19 = 16)))) ∧ (((8 * List.length R33_20 = 48) ∧ ((8 * List.length R33_21 = 88) ∧ (8 * List.length R33_22 = 40))) ∧ (((8 * List.length R34_0 = 16) ∧ (8 * List.length R34_1 = 24)) ∧ ((8 * List.length R34_2 = 8) ∧ (8 * List.length R34_3 = 32))))) ∧ ((((8 * List.length R34_4 = 144) ∧ ((8 * List.length R34_5
    = 32) ∧ (8 * List.length R34_6 = 144))) ∧ (((8 * List.length R34_7 = 32) ∧ (8 * List.length R34_8 = 112)) ∧ ((8 * List.length R34_9 = 64) ∧ (8 * List.length R34_10 = 88)))) ∧ ((((8 * List.length R34_11 = 16) ∧ (8 * List.length R35_0 = 8)) ∧ ((8 * List.length R35_1 = 72) ∧ (8 * List.length R35_2 = 16))) ∧ (((8 * List.length R36_0 = 24) ∧ (8 * List.length R36_1 = 88)) ∧ ((8 * List.length R36_2 =
    24) ∧ (8 * List.length R36_3 = 72)))))) ∧ (((((8 * List.length R36_4 = 24) ∧ ((8 * List.length R36_5 = 16) ∧ (8 * List.length R36_6 = 56))) ∧ (((8 * List.length R36_7 = 96) ∧ (8 * List.length R36_8 = 8)) ∧ ((8 * List.length R36_9 = 64) ∧ (8 * List.length R36_10 = 160)))) ∧ ((((8 * List.length R36_11 = 24) ∧ (8 * List.length R36_12 = 64)) ∧ ((8 * List.length R36_13 = 8) ∧ (8 * List.length R36_14
    = 48))) ∧ (((8 * List.length R36_15 = 8) ∧ (8 * List.length R36_16 = 72)) ∧ ((8 * List.length R36_17 = 144) ∧ (8 * List.length R36_18 = 24))))) ∧ ((((8 * List.length R36_19 = 24) ∧ ((8 * List.length R36_20 = 112) ∧ (8 * List.length R36_21 = 16))) ∧ (((8 * List.length R37_0 = 8) ∧ (8 * List.length R37_1 = 32)) ∧ ((8 * List.length R38_0 = 8) ∧ (8 * List.length R38_1 = 8)))) ∧ ((((8 * List.length
    R38_2 = 8) ∧ (8 * List.length R38_3 = 32)) ∧ ((8 * List.length R38_4 = 32) ∧ (8 * List.length R38_5 = 16))) ∧ (((8 * List.length R38_6 = 24) ∧ (8 * List.length R38_7 = 16)) ∧ ((8 * List.length R39_0 = 8) ∧ (8 * List.length R39_1 = 152))))))) ∧ ((((((8 * List.length R40_0 = 8) ∧ ((8 * List.length R40_1 = 128) ∧ (8 * List.length R40_2 = 24))) ∧ (((8 * List.length R40_3 = 16) ∧ (8 * List.length
    R41_0 = 8)) ∧ ((8 * List.length R41_1 = 16) ∧ (8 * List.length R41_2 = 8)))) ∧ ((((8 * List.length R41_3 = 32) ∧ (8 * List.length R41_4 = 48)) ∧ ((8 * List.length R41_5 = 8) ∧ (8 * List.length R41_6 = 24))) ∧ (((8 * List.length R41_7 = 8) ∧ (8 * List.length R42_0 = 24)) ∧ ((8 * List.length R42_1 = 64) ∧ (8 * List.length R43_0 = 8))))) ∧ ((((8 * List.length R43_1 = 56) ∧ ((8 * List.length R43_2
    = 16) ∧ (8 * List.length R43_3 = 24))) ∧ (((8 * List.length R43_4 = 72) ∧ (8 * List.length R43_5 = 24)) ∧ ((8 * List.length R43_6 = 16) ∧ (8 * List.length R43_7 = 80)))) ∧ ((((8 * List.length R43_8 = 136) ∧ (8 * List.length R43_9 = 64)) ∧ ((8 * List.length R43_10 = 16) ∧ (8 * List.length R44_0 = 32))) ∧ (((8 * List.length R44_1 = 80) ∧ (8 * List.length R44_2 = 16)) ∧ ((8 * List.length R44_3 =
    32) ∧ (8 * List.length R44_4 = 64)))))) ∧ (((((8 * List.length R44_5 = 56) ∧ ((8 * List.length R44_6 = 8) ∧ (8 * List.length R44_7 = 40))) ∧ (((8 * List.length R44_8 = 32) ∧ (8 * List.length R45_0 = 8)) ∧ ((8 * List.length R45_1 = 144) ∧ (8 * List.length R45_2 = 16)))) ∧ ((((8 * List.length R45_3 = 72) ∧ (8 * List.length R46_0 = 16)) ∧ ((8 * List.length R46_1 = 40) ∧ (8 * List.length R46_2 =
    16))) ∧ (((8 * List.length R46_3 = 48) ∧ (8 * List.length R47_0 = 16)) ∧ ((8 * List.length R47_1 = 8) ∧ (8 * List.length R47_2 = 32))))) ∧ ((((8 * List.length R47_3 = 8) ∧ ((8 * List.length R47_4 = 32) ∧ (8 * List.length R47_5 = 64))) ∧ (((8 * List.length R47_6 = 16) ∧ (8 * List.length R47_7 = 16)) ∧ ((8 * List.length R48_0 = 16) ∧ (8 * List.length R48_1 = 24)))) ∧ ((((8 * List.length R48_2 =
    152) ∧ (8 * List.length R48_3 = 16)) ∧ ((8 * List.length R48_4 = 40) ∧ (8 * List.length R49_0 = 8))) ∧ (((8 * List.length R49_1 = 32) ∧ (8 * List.length R49_2 = 16)) ∧ ((8 * List.length R49_3 = 40) ∧ (8 * List.length R49_4 = 16)))))))))) ∧ (((((((((8 * List.length R49_5 = 24) ∧ ((8 * List.length R49_6 = 8) ∧ (8 * List.length R50_0 = 8))) ∧ (((8 * List.length R50_1 = 56) ∧ (8 * List.length R51_0
    = 24)) ∧ ((8 * List.length R51_1 = 16) ∧ (8 * List.length R51_2 = 24)))) ∧ (((8 * List.length R51_3 = 32) ∧ ((8 * List.length R51_4 = 80) ∧ (8 * List.length R51_5 = 56))) ∧ (((8 * List.length R51_6 = 8) ∧ (8 * List.length R51_7 = 16)) ∧ ((8 * List.length R51_8 = 40) ∧ (8 * List.length R51_9 = 40))))) ∧ ((((8 * List.length R51_10 = 40) ∧ ((8 * List.length R51_11 = 32) ∧ (8 * List.length R52_0 =
    8))) ∧ (((8 * List.length R52_1 = 160) ∧ (8 * List.length R53_0 = 8)) ∧ ((8 * List.length R53_1 = 80) ∧ (8 * List.length R53_2 = 96)))) ∧ ((((8 * List.length R53_3 = 40) ∧ (8 * List.length R54_0 = 8)) ∧ ((8 * List.length R54_1 = 32) ∧ (8 * List.length R54_2 = 16))) ∧ (((8 * List.length R54_3 = 8) ∧ (8 * List.length R54_4 = 72)) ∧ ((8 * List.length R54_5 = 104) ∧ (8 * List.length R55_0 =
    40)))))) ∧ (((((8 * List.length R55_1 = 16) ∧ ((8 * List.length R56_0 = 8) ∧ (8 * List.length R56_1 = 64))) ∧ (((8 * List.length R57_0 = 8) ∧ (8 * List.length R57_1 = 16)) ∧ ((8 * List.length R57_2 = 24) ∧ (8 * List.length R57_3 = 16)))) ∧ ((((8 * List.length R57_4 = 24) ∧ (8 * List.length R57_5 = 16)) ∧ ((8 * List.length R57_6 = 24) ∧ (8 * List.length R57_7 = 24))) ∧ (((8 * List.length R58_0 =
    32) ∧ (8 * List.length R58_1 = 32)) ∧ ((8 * List.length R58_2 = 64) ∧ (8 * List.length R58_3 = 80))))) ∧ ((((8 * List.length R58_4 = 120) ∧ ((8 * List.length R59_0 = 24) ∧ (8 * List.length R59_1 = 16))) ∧ (((8 * List.length R59_2 = 32) ∧ (8 * List.length R59_3 = 8)) ∧ ((8 * List.length R59_4 = 40) ∧ (8 * List.length R59_5 = 104)))) ∧ ((((8 * List.length R59_6 = 8) ∧ (8 * List.length R59_7 =
    24)) ∧ ((8 * List.length R59_8 = 24) ∧ (8 * List.length R59_9 = 16))) ∧ (((8 * List.length R60_0 = 8) ∧ (8 * List.length R60_1 = 40)) ∧ ((8 * List.length R61_0 = 8) ∧ (8 * List.length R61_1 = 32))))))) ∧ ((((((8 * List.length R61_2 = 128) ∧ ((8 * List.length R61_3 = 24) ∧ (8 * List.length R61_4 = 144))) ∧ (((8 * List.length R61_5 = 80) ∧ (8 * List.length R61_6 = 24)) ∧ ((8 * List.length R61_7 =
    16) ∧ (8 * List.length R61_8 = 16)))) ∧ ((((8 * List.length R62_0 = 16) ∧ (8 * List.length R62_1 = 32)) ∧ ((8 * List.length R62_2 = 16) ∧ (8 * List.length R62_3 = 104))) ∧ (((8 * List.length R62_4 = 24) ∧ (8 * List.length R62_5 = 16)) ∧ ((8 * List.length R62_6 = 32) ∧ (8 * List.length R62_7 = 24))))) ∧ ((((8 * List.length R62_8 = 24) ∧ ((8 * List.length R62_9 = 16) ∧ (8 * List.length R62_10 =
    56))) ∧ (((8 * List.length R62_11 = 16) ∧ (8 * List.length R62_12 = 56)) ∧ ((8 * List.length R62_13 = 40) ∧ (8 * List.length R62_14 = 56)))) ∧ ((((8 * List.length R62_15 = 104) ∧ (8 * List.length R62_16 = 88)) ∧ ((8 * List.length R62_17 = 48) ∧ (8 * List.length R62_18 = 88))) ∧ (((8 * List.length R62_19 = 24) ∧ (8 * List.length R63_0 = 8)) ∧ ((8 * List.length R63_1 = 128) ∧ (8 * List.length
    R63_2 = 8)))))) ∧ (((((8 * List.length R63_3 = 96) ∧ ((8 * List.length R64_0 = 8) ∧ (8 * List.length R64_1 = 40))) ∧ (((8 * List.length R64_2 = 8) ∧ (8 * List.length R64_3 = 72)) ∧ ((8 * List.length R64_4 = 8) ∧ (8 * List.length R65_0 = 8)))) ∧ ((((8 * List.length R65_1 = 40) ∧ (8 * List.length R65_2 = 8)) ∧ ((8 * List.length R65_3 = 104) ∧ (8 * List.length R66_0 = 8))) ∧ (((8 * List.length
    R66_1 = 24) ∧ (8 * List.length R66_2 = 16)) ∧ ((8 * List.length R66_3 = 24) ∧ (8 * List.length R66_4 = 24))))) ∧ ((((8 * List.length R66_5 = 16) ∧ ((8 * List.length R66_6 = 16) ∧ (8 * List.length R66_7 = 48))) ∧ (((8 * List.length R66_8 = 24) ∧ (8 * List.length R66_9 = 16)) ∧ ((8 * List.length R66_10 = 24) ∧ (8 * List.length R66_11 = 16)))) ∧ ((((8 * List.length R66_12 = 96) ∧ (8 * List.length
    R67_0 = 8)) ∧ ((8 * List.length R67_1 = 24) ∧ (8 * List.length R67_2 = 16))) ∧ (((8 * List.length R67_3 = 24) ∧ (8 * List.length R67_4 = 24)) ∧ ((8 * List.length R67_5 = 8) ∧ (8 * List.length R67_6 = 16)))))))) ∧ (((((((8 * List.length R67_7 = 24) ∧ ((8 * List.length R67_8 = 16) ∧ (8 * List.length R67_9 = 72))) ∧ (((8 * List.length R68_0 = 8) ∧ (8 * List.length R68_1 = 24)) ∧ ((8 * List.length
    R68_2 = 16) ∧ (8 * List.length R68_3 = 24)))) ∧ (((8 * List.length R68_4 = 16) ∧ ((8 * List.length R68_5 = 24) ∧ (8 * List.length R68_6 = 24))) ∧ (((8 * List.length R68_7 = 80) ∧ (8 * List.length R68_8 = 24)) ∧ ((8 * List.length R68_9 = 16) ∧ (8 * List.length R68_10 = 48))))) ∧ ((((8 * List.length R68_11 = 16) ∧ ((8 * List.length R68_12 = 24) ∧ (8 * List.length R68_13 = 16))) ∧ (((8 *
    List.length R68_14 = 48) ∧ (8 * List.length R68_15 = 24)) ∧ ((8 * List.length R68_16 = 8) ∧ (8 * List.length R68_17 = 48)))) ∧ ((((8 * List.length R68_18 = 16) ∧ (8 * List.length R68_19 = 120)) ∧ ((8 * List.length R69_0 = 8) ∧ (8 * List.length R69_1 = 24))) ∧ (((8 * List.length R69_2 = 16) ∧ (8 * List.length R69_3 = 24)) ∧ ((8 * List.length R69_4 = 16) ∧ (8 * List.length R69_5 = 32)))))) ∧
    (((((8 * List.length R69_6 = 24) ∧ ((8 * List.length R69_7 = 8) ∧ (8 * List.length R69_8 = 16))) ∧ (((8 * List.length R69_9 = 48) ∧ (8 * List.length R69_10 = 16)) ∧ ((8 * List.length R69_11 = 80) ∧ (8 * List.length R70_0 = 8)))) ∧ ((((8 * List.length R70_1 = 32) ∧ (8 * List.length R71_0 = 16)) ∧ ((8 * List.length R71_1 = 16) ∧ (8 * List.length R71_2 = 80))) ∧ (((8 * List.length R71_3 = 24) ∧ (8
    * List.length R71_4 = 72)) ∧ ((8 * List.length R71_5 = 80) ∧ (8 * List.length R71_6 = 24))))) ∧ ((((8 * List.length R71_7 = 32) ∧ ((8 * List.length R71_8 = 24) ∧ (8 * List.length R71_9 = 24))) ∧ (((8 * List.length R72_0 = 16) ∧ (8 * List.length R72_1 = 16)) ∧ ((8 * List.length R72_2 = 24) ∧ (8 * List.length R72_3 = 80)))) ∧ ((((8 * List.length R72_4 = 32) ∧ (8 * List.length R72_5 = 48)) ∧ ((8 *
    List.length R72_6 = 24) ∧ (8 * List.length R72_7 = 16))) ∧ (((8 * List.length R72_8 = 24) ∧ (8 * List.length R72_9 = 176)) ∧ ((8 * List.length R72_10 = 24) ∧ (8 * List.length R72_11 = 32))))))) ∧ ((((((8 * List.length R72_12 = 16) ∧ ((8 * List.length R72_13 = 8) ∧ (8 * List.length R72_14 = 40))) ∧ (((8 * List.length R72_15 = 24) ∧ (8 * List.length R72_16 = 32)) ∧ ((8 * List.length R72_17 = 24)
    ∧ (8 * List.length R72_18 = 24)))) ∧ ((((8 * List.length R72_19 = 24) ∧ (8 * List.length R72_20 = 64)) ∧ ((8 * List.length R73_0 = 16) ∧ (8 * List.length R73_1 = 32))) ∧ (((8 * List.length R73_2 = 24) ∧ (8 * List.length R73_3 = 80)) ∧ ((8 * List.length R73_4 = 16) ∧ (8 * List.length R73_5 = 24))))) ∧ ((((8 * List.length R73_6 = 40) ∧ ((8 * List.length R73_7 = 56) ∧ (8 * List.length R73_8 =
    120))) ∧ (((8 * List.length R73_9 = 24) ∧ (8 * List.length R73_10 = 32)) ∧ ((8 * List.length R73_11 = 24) ∧ (8 * List.length R73_12 = 24)))) ∧ ((((8 * List.length R74_0 = 8) ∧ (8 * List.length R74_1 = 16)) ∧ ((8 * List.length R74_2 = 8) ∧ (8 * List.length R74_3 = 32))) ∧ (((8 * List.length R74_4 = 48) ∧ (8 * List.length R74_5 = 8)) ∧ ((8 * List.length R74_6 = 24) ∧ (8 * List.length R74_7 =
    8)))))) ∧ (((((8 * List.length R75_0 = 8) ∧ ((8 * List.length R75_1 = 24) ∧ (8 * List.length R75_2 = 24))) ∧ (((8 * List.length R75_3 = 24) ∧ (8 * List.length R75_4 = 24)) ∧ ((8 * List.length R75_5 = 40) ∧ (8 * List.length R76_0 = 8)))) ∧ ((((8 * List.length R76_1 = 8) ∧ (8 * List.length R76_2 = 24)) ∧ ((8 * List.length R76_3 = 48) ∧ (8 * List.length R76_4 = 48))) ∧ (((8 * List.length R76_5 =
    24) ∧ (8 * List.length R76_6 = 16)) ∧ ((8 * List.length R77_0 = 8) ∧ (8 * List.length R77_1 = 24))))) ∧ ((((8 * List.length R77_2 = 8) ∧ ((8 * List.length R77_3 = 80) ∧ (8 * List.length R77_4 = 64))) ∧ (((8 * List.length R77_5 = 48) ∧ (8 * List.length R77_6 = 16)) ∧ ((8 * List.length R77_7 = 56) ∧ (8 * List.length R77_8 = 8)))) ∧ ((((8 * List.length R77_9 = 48) ∧ (8 * List.length R77_10 = 16))
    ∧ ((8 * List.length R77_11 = 16) ∧ (8 * List.length R77_12 = 8))) ∧ (((8 * List.length R77_13 = 8) ∧ (8 * List.length R77_14 = 32)) ∧ ((8 * List.length R77_15 = 64) ∧ (8 * List.length R77_16 = 24))))))))) ∧ ((((((((8 * List.length R77_17 = 56) ∧ ((8 * List.length R77_18 = 56) ∧ (8 * List.length R78_0 = 8))) ∧ (((8 * List.length R78_1 = 48) ∧ (8 * List.length R78_2 = 24)) ∧ ((8 * List.length
    R78_3 = 48) ∧ (8 * List.length R78_4 = 72)))) ∧ (((8 * List.length R78_5 = 16) ∧ ((8 * List.length R79_0 = 8) ∧ (8 * List.length R79_1 = 24))) ∧ (((8 * List.length R79_2 = 24) ∧ (8 * List.length R79_3 = 24)) ∧ ((8 * List.length R79_4 = 24) ∧ (8 * List.length R79_5 = 16))))) ∧ ((((8 * List.length R79_6 = 32) ∧ ((8 * List.length R79_7 = 56) ∧ (8 * List.length R80_0 = 8))) ∧ (((8 * List.length
    R80_1 = 24) ∧ (8 * List.length R80_2 = 16)) ∧ ((8 * List.length R80_3 = 8) ∧ (8 * List.length R80_4 = 80)))) ∧ ((((8 * List.length R80_5 = 48) ∧ (8 * List.length R80_6 = 16)) ∧ ((8 * List.length R80_7 = 40) ∧ (8 * List.length R81_0 = 8))) ∧ (((8 * List.length R81_1 = 16) ∧ (8 * List.length R81_2 = 24)) ∧ ((8 * List.length R81_3 = 48) ∧ (8 * List.length R81_4 = 24)))))) ∧ (((((8 * List.length
    R81_5 = 40) ∧ ((8 * List.length R81_6 = 8) ∧ (8 * List.length R81_7 = 8))) ∧ (((8 * List.length R81_8 = 32) ∧ (8 * List.length R81_9 = 48)) ∧ ((8 * List.length R81_10 = 40) ∧ (8 * List.length R81_11 = 24)))) ∧ ((((8 * List.length R81_12 = 16) ∧ (8 * List.length R81_13 = 16)) ∧ ((8 * List.length R81_14 = 72) ∧ (8 * List.length R81_15 = 48))) ∧ (((8 * List.length R81_16 = 72) ∧ (8 * List.length
    R81_17 = 16)) ∧ ((8 * List.length R82_0 = 8) ∧ (8 * List.length R82_1 = 24))))) ∧ ((((8 * List.length R82_2 = 64) ∧ ((8 * List.length R82_3 = 8) ∧ (8 * List.length R82_4 = 24))) ∧ (((8 * List.length R82_5 = 40) ∧ (8 * List.length R82_6 = 40)) ∧ ((8 * List.length R82_7 = 8) ∧ (8 * List.length R82_8 = 72)))) ∧ ((((8 * List.length R82_9 = 32) ∧ (8 * List.length R82_10 = 24)) ∧ ((8 * List.length
    R82_11 = 24) ∧ (8 * List.length R82_12 = 8))) ∧ (((8 * List.length R82_13 = 48) ∧ (8 * List.length R82_14 = 8)) ∧ ((8 * List.length R82_15 = 24) ∧ (8 * List.length R82_16 = 40))))))) ∧ ((((((8 * List.length R82_17 = 64) ∧ ((8 * List.length R82_18 = 16) ∧ (8 * List.length R82_19 = 8))) ∧ (((8 * List.length R82_20 = 40) ∧ (8 * List.length R82_21 = 128)) ∧ ((8 * List.length R82_22 = 16) ∧ (8 *
    List.length R82_23 = 24)))) ∧ ((((8 * List.length R82_24 = 24) ∧ (8 * List.length R82_25 = 72)) ∧ ((8 * List.length R82_26 = 48) ∧ (8 * List.length R82_27 = 16))) ∧ (((8 * List.length R82_28 = 32) ∧ (8 * List.length R82_29 = 8)) ∧ ((8 * List.length R82_30 = 120) ∧ (8 * List.length R82_31 = 48))))) ∧ ((((8 * List.length R82_32 = 16) ∧ ((8 * List.length R82_33 = 8) ∧ (8 * List.length R82_34 =
    32))) ∧ (((8 * List.length R82_35 = 8) ∧ (8 * List.length R83_0 = 8)) ∧ ((8 * List.length R83_1 = 32) ∧ (8 * List.length R83_2 = 24)))) ∧ ((((8 * List.length R83_3 = 8) ∧ (8 * List.length R83_4 = 40)) ∧ ((8 * List.length R83_5 = 8) ∧ (8 * List.length R83_6 = 16))) ∧ (((8 * List.length R83_7 = 48) ∧ (8 * List.length R84_0 = 8)) ∧ ((8 * List.length R84_1 = 24) ∧ (8 * List.length R84_2 = 16))))))
    ∧ (((((8 * List.length R84_3 = 48) ∧ ((8 * List.length R84_4 = 16) ∧ (8 * List.length R85_0 = 8))) ∧ (((8 * List.length R85_1 = 24) ∧ (8 * List.length R85_2 = 408)) ∧ ((8 * List.length R85_3 = 24) ∧ (8 * List.length R85_4 = 16)))) ∧ ((((8 * List.length R85_5 = 24) ∧ (8 * List.length R85_6 = 16)) ∧ ((8 * List.length R85_7 = 24) ∧ (8 * List.length R85_8 = 16))) ∧ (((8 * List.length R85_9 = 8) ∧
    (8 * List.length R85_10 = 24)) ∧ ((8 * List.length R85_11 = 48) ∧ (8 * List.length R85_12 = 16))))) ∧ ((((8 * List.length R85_13 = 40) ∧ ((8 * List.length R85_14 = 16) ∧ (8 * List.length R85_15 = 32))) ∧ (((8 * List.length R85_16 = 32) ∧ (8 * List.length R85_17 = 24)) ∧ ((8 * List.length R85_18 = 8) ∧ (8 * List.length R85_19 = 16)))) ∧ ((((8 * List.length R85_20 = 48) ∧ (8 * List.length R85_21
    = 80)) ∧ ((8 * List.length R85_22 = 16) ∧ (8 * List.length R85_23 = 32))) ∧ (((8 * List.length R85_24 = 32) ∧ (8 * List.length R85_25 = 56)) ∧ ((8 * List.length R85_26 = 32) ∧ (8 * List.length R85_27 = 16)))))))) ∧ (((((((8 * List.length R85_28 = 32) ∧ ((8 * List.length R85_29 = 16) ∧ (8 * List.length R85_30 = 56))) ∧ (((8 * List.length R85_31 = 16) ∧ (8 * List.length R85_32 = 48)) ∧ ((8 *
    List.length R86_0 = 8) ∧ (8 * List.length R86_1 = 24)))) ∧ ((((8 * List.length R86_2 = 48) ∧ (8 * List.length R86_3 = 24)) ∧ ((8 * List.length R86_4 = 32) ∧ (8 * List.length R86_5 = 56))) ∧ (((8 * List.length R86_6 = 32) ∧ (8 * List.length R86_7 = 40)) ∧ ((8 * List.length R86_8 = 16) ∧ (8 * List.length R86_9 = 24))))) ∧ ((((8 * List.length R86_10 = 64) ∧ ((8 * List.length R86_11 = 16) ∧ (8 *
    List.length R86_12 = 24))) ∧ (((8 * List.length R86_13 = 24) ∧ (8 * List.length R86_14 = 8)) ∧ ((8 * List.length R86_15 = 32) ∧ (8 * List.length R86_16 = 64)))) ∧ ((((8 * List.length R86_17 = 24) ∧ (8 * List.length R86_18 = 48)) ∧ ((8 * List.length R86_19 = 16) ∧ (8 * List.length R86_20 = 16))) ∧ (((8 * List.length R87_0 = 8) ∧ (8 * List.length R87_1 = 8)) ∧ ((8 * List.length R87_2 = 16) ∧ (8 *
    List.length R87_3 = 16)))))) ∧ (((((8 * List.length R87_4 = 16) ∧ ((8 * List.length R87_5 = 16) ∧ (8 * List.length R87_6 = 16))) ∧ (((8 * List.length R87_7 = 16) ∧ (8 * List.length R87_8 = 16)) ∧ ((8 * List.length R87_9 = 16) ∧ (8 * List.length R87_10 = 16)))) ∧ ((((8 * List.length R87_11 = 16) ∧ (8 * List.length R87_12 = 16)) ∧ ((8 * List.length R88_0 = 8) ∧ (8 * List.length R88_1 = 32))) ∧
    (((8 * List.length R90_0 = 8) ∧ (8 * List.length R90_1 = 32)) ∧ ((8 * List.length R91_0 = 8) ∧ (8 * List.length R91_1 = 56))))) ∧ ((((8 * List.length R91_2 = 24) ∧ ((8 * List.length R91_3 = 8) ∧ (8 * List.length R91_4 = 8))) ∧ (((8 * List.length R91_5 = 24) ∧ (8 * List.length R91_6 = 64)) ∧ ((8 * List.length R91_7 = 24) ∧ (8 * List.length R91_8 = 80)))) ∧ ((((8 * List.length R91_9 = 8) ∧ (8 *
    List.length R91_10 = 16)) ∧ ((8 * List.length R91_11 = 32) ∧ (8 * List.length R91_12 = 24))) ∧ (((8 * List.length R91_13 = 56) ∧ (8 * List.length R91_14 = 88)) ∧ ((8 * List.length R91_15 = 24) ∧ (8 * List.length R91_16 = 104))))))) ∧ ((((((8 * List.length R91_17 = 32) ∧ ((8 * List.length R91_18 = 8) ∧ (8 * List.length R92_0 = 8))) ∧ (((8 * List.length R92_1 = 16) ∧ (8 * List.length R92_2 = 32))
    ∧ ((8 * List.length R92_3 = 16) ∧ (8 * List.length R92_4 = 16)))) ∧ ((((8 * List.length R93_0 = 8) ∧ (8 * List.length R93_1 = 24)) ∧ ((8 * List.length R93_2 = 16) ∧ (8 * List.length R93_3 = 16))) ∧ (((8 * List.length R93_4 = 48) ∧ (8 * List.length R93_5 = 16)) ∧ ((8 * List.length R93_6 = 48) ∧ (8 * List.length R93_7 = 16))))) ∧ ((((8 * List.length R93_8 = 48) ∧ ((8 * List.length R93_9 = 16) ∧
    (8 * List.length R93_10 = 24))) ∧ (((8 * List.length R93_11 = 16) ∧ (8 * List.length R93_12 = 16)) ∧ ((8 * List.length R93_13 = 24) ∧ (8 * List.length R93_14 = 16)))) ∧ ((((8 * List.length R93_15 = 24) ∧ (8 * List.length R93_16 = 48)) ∧ ((8 * List.length R93_17 = 96) ∧ (8 * List.length R93_18 = 48))) ∧ (((8 * List.length R93_19 = 16) ∧ (8 * List.length R93_20 = 32)) ∧ ((8 * List.length R93_21 =
    16) ∧ (8 * List.length R93_22 = 32)))))) ∧ (((((8 * List.length R93_23 = 16) ∧ ((8 * List.length R93_24 = 24) ∧ (8 * List.length R93_25 = 32))) ∧ (((8 * List.length R93_26 = 16) ∧ (8 * List.length R94_0 = 8)) ∧ ((8 * List.length R94_1 = 8) ∧ (8 * List.length R94_2 = 80)))) ∧ ((((8 * List.length R94_3 = 24) ∧ (8 * List.length R94_4 = 16)) ∧ ((8 * List.length R94_5 = 24) ∧ (8 * List.length R94_6
    = 48))) ∧ (((8 * List.length R94_7 = 48) ∧ (8 * List.length R94_8 = 16)) ∧ ((8 * List.length R94_9 = 16) ∧ (8 * List.length R96_0 = 16))))) ∧ ((((8 * List.length R96_1 = 8) ∧ ((8 * List.length R96_2 = 8) ∧ (8 * List.length R96_3 = 32))) ∧ (((8 * List.length R96_4 = 64) ∧ (8 * List.length R96_5 = 24)) ∧ ((8 * List.length R96_6 = 16) ∧ (8 * List.length R96_7 = 24)))) ∧ ((((8 * List.length R96_8 =
    16) ∧ (8 * List.length R96_9 = 24)) ∧ ((8 * List.length R96_10 = 32) ∧ (8 * List.length R96_11 = 32))) ∧ (((8 * List.length R96_12 = 24) ∧ (8 * List.length R96_13 = 32)) ∧ ((8 * List.length R97_0 = 8) ∧ (8 * List.length R97_1 = 120)))))))))) := ⟨⟨⟨⟨⟨⟨⟨⟨⟨rfl, ⟨rfl, rfl⟩⟩, ⟨⟨rfl, rfl⟩, ⟨rfl, rfl⟩⟩⟩, ⟨⟨rfl, ⟨rfl, rfl⟩⟩, ⟨⟨rfl, rfl⟩, ⟨rfl, rfl⟩⟩⟩⟩, ⟨⟨⟨rfl, ⟨rfl, rfl⟩⟩, ⟨⟨rfl, rfl⟩, ⟨rfl, rfl⟩⟩⟩,
    ⟨⟨⟨rfl, rfl⟩, ⟨rfl, rfl⟩⟩, ⟨⟨rfl, rfl⟩, ⟨rfl, rfl⟩⟩⟩⟩⟩, ⟨⟨⟨⟨rfl, ⟨rfl, rfl⟩⟩, ⟨⟨rfl, rfl⟩, ⟨rfl, rfl⟩⟩⟩, ⟨⟨⟨rfl, rfl⟩, ⟨rfl, rfl⟩⟩, ⟨⟨rfl, rfl⟩, ⟨rfl, rfl⟩⟩⟩⟩, ⟨⟨⟨rfl, ⟨rfl, rfl⟩⟩, ⟨⟨rfl, rfl⟩, ⟨rfl, rfl⟩⟩⟩, ⟨⟨⟨rfl, rfl⟩, ⟨rfl, rfl⟩⟩, ⟨⟨rfl, rfl⟩, ⟨rfl, rfl⟩⟩⟩⟩⟩⟩, ⟨⟨⟨⟨⟨rfl, ⟨rfl, rfl⟩⟩, ⟨⟨rfl, rfl⟩, ⟨rfl, rfl⟩⟩⟩, ⟨⟨⟨rfl, rfl⟩, ⟨rfl, rfl⟩⟩, ⟨⟨rfl, rfl⟩, ⟨rfl, rfl⟩⟩⟩⟩, ⟨⟨⟨rfl, ⟨rfl, rfl⟩⟩, ⟨⟨rfl,
    rfl⟩, ⟨rfl, rfl⟩⟩⟩, ⟨⟨⟨rfl, rfl⟩, ⟨rfl, rfl⟩⟩, ⟨⟨rfl, rfl⟩, ⟨rfl, rfl⟩⟩⟩⟩⟩, ⟨⟨⟨⟨rfl, ⟨rfl, rfl⟩⟩, ⟨⟨rfl, rfl⟩, ⟨rfl, rfl⟩⟩⟩, ⟨⟨⟨rfl, rfl⟩, ⟨rfl, rfl⟩⟩, ⟨⟨rfl, rfl⟩, ⟨rfl, rfl⟩⟩⟩⟩, ⟨⟨⟨rfl, ⟨rfl, rfl⟩⟩, ⟨⟨rfl, rfl⟩, ⟨rfl, rfl⟩⟩⟩, ⟨⟨⟨rfl, rfl⟩, ⟨rfl, rfl⟩⟩, ⟨⟨rfl, rfl⟩, ⟨rfl, rfl⟩⟩⟩⟩⟩⟩⟩, ⟨⟨⟨⟨⟨⟨rfl, ⟨rfl, rfl⟩⟩, ⟨⟨rfl, rfl⟩, ⟨rfl, rfl⟩⟩⟩, ⟨⟨rfl, ⟨rfl, rfl⟩⟩, ⟨⟨rfl, rfl⟩, ⟨rfl, rfl⟩⟩⟩⟩, ⟨⟨⟨rfl,
    ⟨rfl, rfl⟩⟩, ⟨⟨rfl, rfl⟩, ⟨rfl, rfl⟩⟩⟩, ⟨⟨⟨rfl, rfl⟩, ⟨rfl, rfl⟩⟩, ⟨⟨rfl, rfl⟩, ⟨rfl, rfl⟩⟩⟩⟩⟩, ⟨⟨⟨⟨rfl, ⟨rfl, rfl⟩⟩, ⟨⟨rfl, rfl⟩, ⟨rfl, rfl⟩⟩⟩, ⟨⟨⟨rfl, rfl⟩, ⟨rfl, rfl⟩⟩, ⟨⟨rfl, rfl⟩, ⟨rfl, rfl⟩⟩⟩⟩, ⟨⟨⟨rfl, ⟨rfl, rfl⟩⟩, ⟨⟨rfl, rfl⟩, ⟨rfl, rfl⟩⟩⟩, ⟨⟨⟨rfl, rfl⟩, ⟨rfl, rfl⟩⟩, ⟨⟨rfl, rfl⟩, ⟨rfl, rfl⟩⟩⟩⟩⟩⟩, ⟨⟨⟨⟨⟨rfl, ⟨rfl, rfl⟩⟩, ⟨⟨rfl, rfl⟩, ⟨rfl, rfl⟩⟩⟩, ⟨⟨⟨rfl, rfl⟩, ⟨rfl, rfl⟩⟩, ⟨⟨rfl, rfl⟩,
    ⟨rfl, rfl⟩⟩⟩⟩, ⟨⟨⟨rfl, ⟨rfl, rfl⟩⟩, ⟨⟨rfl, rfl⟩, ⟨rfl, rfl⟩⟩⟩, ⟨⟨⟨rfl, rfl⟩, ⟨rfl, rfl⟩⟩, ⟨⟨rfl, rfl⟩, ⟨rfl, rfl⟩⟩⟩⟩⟩, ⟨⟨⟨⟨rfl, ⟨rfl, rfl⟩⟩, ⟨⟨rfl, rfl⟩, ⟨rfl, rfl⟩⟩⟩, ⟨⟨⟨rfl, rfl⟩, ⟨rfl, rfl⟩⟩, ⟨⟨rfl, rfl⟩, ⟨rfl, rfl⟩⟩⟩⟩, ⟨⟨⟨rfl, ⟨rfl, rfl⟩⟩, ⟨⟨rfl, rfl⟩, ⟨rfl, rfl⟩⟩⟩, ⟨⟨⟨rfl, rfl⟩, ⟨rfl, rfl⟩⟩, ⟨⟨rfl, rfl⟩, ⟨rfl, rfl⟩⟩⟩⟩⟩⟩⟩⟩, ⟨⟨⟨⟨⟨⟨⟨rfl, ⟨rfl, rfl⟩⟩, ⟨⟨rfl, rfl⟩, ⟨rfl, rfl⟩⟩⟩, ⟨⟨rfl, ⟨rfl,
    rfl⟩⟩, ⟨⟨rfl, rfl⟩, ⟨rfl, rfl⟩⟩⟩⟩, ⟨⟨⟨rfl, ⟨rfl, rfl⟩⟩, ⟨⟨rfl, rfl⟩, ⟨rfl, rfl⟩⟩⟩, ⟨⟨⟨rfl, rfl⟩, ⟨rfl, rfl⟩⟩, ⟨⟨rfl, rfl⟩, ⟨rfl, rfl⟩⟩⟩⟩⟩, ⟨⟨⟨⟨rfl, ⟨rfl, rfl⟩⟩, ⟨⟨rfl, rfl⟩, ⟨rfl, rfl⟩⟩⟩, ⟨⟨⟨rfl, rfl⟩, ⟨rfl, rfl⟩⟩, ⟨⟨rfl, rfl⟩, ⟨rfl, rfl⟩⟩⟩⟩, ⟨⟨⟨rfl, ⟨rfl, rfl⟩⟩, ⟨⟨rfl, rfl⟩, ⟨rfl, rfl⟩⟩⟩, ⟨⟨⟨rfl, rfl⟩, ⟨rfl, rfl⟩⟩, ⟨⟨rfl, rfl⟩, ⟨rfl, rfl⟩⟩⟩⟩⟩⟩, ⟨⟨⟨⟨⟨rfl, ⟨rfl, rfl⟩⟩, ⟨⟨rfl, rfl⟩, ⟨rfl, rfl⟩⟩⟩,
    ⟨⟨⟨rfl, rfl⟩, ⟨rfl, rfl⟩⟩, ⟨⟨rfl, rfl⟩, ⟨rfl, rfl⟩⟩⟩⟩, ⟨⟨⟨rfl, ⟨rfl, rfl⟩⟩, ⟨⟨rfl, rfl⟩, ⟨rfl, rfl⟩⟩⟩, ⟨⟨⟨rfl, rfl⟩, ⟨rfl, rfl⟩⟩, ⟨⟨rfl, rfl⟩, ⟨rfl, rfl⟩⟩⟩⟩⟩, ⟨⟨⟨⟨rfl, ⟨rfl, rfl⟩⟩, ⟨⟨rfl, rfl⟩, ⟨rfl, rfl⟩⟩⟩, ⟨⟨⟨rfl, rfl⟩, ⟨rfl, rfl⟩⟩, ⟨⟨rfl, rfl⟩, ⟨rfl, rfl⟩⟩⟩⟩, ⟨⟨⟨rfl, ⟨rfl, rfl⟩⟩, ⟨⟨rfl, rfl⟩, ⟨rfl, rfl⟩⟩⟩, ⟨⟨⟨rfl, rfl⟩, ⟨rfl, rfl⟩⟩, ⟨⟨rfl, rfl⟩, ⟨rfl, rfl⟩⟩⟩⟩⟩⟩⟩, ⟨⟨⟨⟨⟨⟨rfl, ⟨rfl, rfl⟩⟩,
    ⟨⟨rfl, rfl⟩, ⟨rfl, rfl⟩⟩⟩, ⟨⟨rfl, ⟨rfl, rfl⟩⟩, ⟨⟨rfl, rfl⟩, ⟨rfl, rfl⟩⟩⟩⟩, ⟨⟨⟨rfl, ⟨rfl, rfl⟩⟩, ⟨⟨rfl, rfl⟩, ⟨rfl, rfl⟩⟩⟩, ⟨⟨⟨rfl, rfl⟩, ⟨rfl, rfl⟩⟩, ⟨⟨rfl, rfl⟩, ⟨rfl, rfl⟩⟩⟩⟩⟩, ⟨⟨⟨⟨rfl, ⟨rfl, rfl⟩⟩, ⟨⟨rfl, rfl⟩, ⟨rfl, rfl⟩⟩⟩, ⟨⟨⟨rfl, rfl⟩, ⟨rfl, rfl⟩⟩, ⟨⟨rfl, rfl⟩, ⟨rfl, rfl⟩⟩⟩⟩, ⟨⟨⟨rfl, ⟨rfl, rfl⟩⟩, ⟨⟨rfl, rfl⟩, ⟨rfl, rfl⟩⟩⟩, ⟨⟨⟨rfl, rfl⟩, ⟨rfl, rfl⟩⟩, ⟨⟨rfl, rfl⟩, ⟨rfl, rfl⟩⟩⟩⟩⟩⟩, ⟨⟨⟨⟨⟨rfl,
    ⟨rfl, rfl⟩⟩, ⟨⟨rfl, rfl⟩, ⟨rfl, rfl⟩⟩⟩, ⟨⟨⟨rfl, rfl⟩, ⟨rfl, rfl⟩⟩, ⟨⟨rfl, rfl⟩, ⟨rfl, rfl⟩⟩⟩⟩, ⟨⟨⟨rfl, ⟨rfl, rfl⟩⟩, ⟨⟨rfl, rfl⟩, ⟨rfl, rfl⟩⟩⟩, ⟨⟨⟨rfl, rfl⟩, ⟨rfl, rfl⟩⟩, ⟨⟨rfl, rfl⟩, ⟨rfl, rfl⟩⟩⟩⟩⟩, ⟨⟨⟨⟨rfl, ⟨rfl, rfl⟩⟩, ⟨⟨rfl, rfl⟩, ⟨rfl, rfl⟩⟩⟩, ⟨⟨⟨rfl, rfl⟩, ⟨rfl, rfl⟩⟩, ⟨⟨rfl, rfl⟩, ⟨rfl, rfl⟩⟩⟩⟩, ⟨⟨⟨rfl, ⟨rfl, rfl⟩⟩, ⟨⟨rfl, rfl⟩, ⟨rfl, rfl⟩⟩⟩, ⟨⟨⟨rfl, rfl⟩, ⟨rfl, rfl⟩⟩, ⟨⟨rfl, rfl⟩, ⟨rfl,
    rfl⟩⟩⟩⟩⟩⟩⟩⟩⟩, ⟨⟨⟨⟨⟨⟨⟨⟨rfl, ⟨rfl, rfl⟩⟩, ⟨⟨rfl, rfl⟩, ⟨rfl, rfl⟩⟩⟩, ⟨⟨rfl, ⟨rfl, rfl⟩⟩, ⟨⟨rfl, rfl⟩, ⟨rfl, rfl⟩⟩⟩⟩, ⟨⟨⟨rfl, ⟨rfl, rfl⟩⟩, ⟨⟨rfl, rfl⟩, ⟨rfl, rfl⟩⟩⟩, ⟨⟨⟨rfl, rfl⟩, ⟨rfl, rfl⟩⟩, ⟨⟨rfl, rfl⟩, ⟨rfl, rfl⟩⟩⟩⟩⟩, ⟨⟨⟨⟨rfl, ⟨rfl, rfl⟩⟩, ⟨⟨rfl, rfl⟩, ⟨rfl, rfl⟩⟩⟩, ⟨⟨⟨rfl, rfl⟩, ⟨rfl, rfl⟩⟩, ⟨⟨rfl, rfl⟩, ⟨rfl, rfl⟩⟩⟩⟩, ⟨⟨⟨rfl, ⟨rfl, rfl⟩⟩, ⟨⟨rfl, rfl⟩, ⟨rfl, rfl⟩⟩⟩, ⟨⟨⟨rfl, rfl⟩, ⟨rfl, rfl⟩⟩,
    ⟨⟨rfl, rfl⟩, ⟨rfl, rfl⟩⟩⟩⟩⟩⟩, ⟨⟨⟨⟨⟨rfl, ⟨rfl, rfl⟩⟩, ⟨⟨rfl, rfl⟩, ⟨rfl, rfl⟩⟩⟩, ⟨⟨⟨rfl, rfl⟩, ⟨rfl, rfl⟩⟩, ⟨⟨rfl, rfl⟩, ⟨rfl, rfl⟩⟩⟩⟩, ⟨⟨⟨rfl, ⟨rfl, rfl⟩⟩, ⟨⟨rfl, rfl⟩, ⟨rfl, rfl⟩⟩⟩, ⟨⟨⟨rfl, rfl⟩, ⟨rfl, rfl⟩⟩, ⟨⟨rfl, rfl⟩, ⟨rfl, rfl⟩⟩⟩⟩⟩, ⟨⟨⟨⟨rfl, ⟨rfl, rfl⟩⟩, ⟨⟨rfl, rfl⟩, ⟨rfl, rfl⟩⟩⟩, ⟨⟨⟨rfl, rfl⟩, ⟨rfl, rfl⟩⟩, ⟨⟨rfl, rfl⟩, ⟨rfl, rfl⟩⟩⟩⟩, ⟨⟨⟨rfl, ⟨rfl, rfl⟩⟩, ⟨⟨rfl, rfl⟩, ⟨rfl, rfl⟩⟩⟩,
    ⟨⟨⟨rfl, rfl⟩, ⟨rfl, rfl⟩⟩, ⟨⟨rfl, rfl⟩, ⟨rfl, rfl⟩⟩⟩⟩⟩⟩⟩, ⟨⟨⟨⟨⟨⟨rfl, ⟨rfl, rfl⟩⟩, ⟨⟨rfl, rfl⟩, ⟨rfl, rfl⟩⟩⟩, ⟨⟨rfl, ⟨rfl, rfl⟩⟩, ⟨⟨rfl, rfl⟩, ⟨rfl, rfl⟩⟩⟩⟩, ⟨⟨⟨rfl, ⟨rfl, rfl⟩⟩, ⟨⟨rfl, rfl⟩, ⟨rfl, rfl⟩⟩⟩, ⟨⟨⟨rfl, rfl⟩, ⟨rfl, rfl⟩⟩, ⟨⟨rfl, rfl⟩, ⟨rfl, rfl⟩⟩⟩⟩⟩, ⟨⟨⟨⟨rfl, ⟨rfl, rfl⟩⟩, ⟨⟨rfl, rfl⟩, ⟨rfl, rfl⟩⟩⟩, ⟨⟨⟨rfl, rfl⟩, ⟨rfl, rfl⟩⟩, ⟨⟨rfl, rfl⟩, ⟨rfl, rfl⟩⟩⟩⟩, ⟨⟨⟨rfl, ⟨rfl, rfl⟩⟩, ⟨⟨rfl,
    rfl⟩, ⟨rfl, rfl⟩⟩⟩, ⟨⟨⟨rfl, rfl⟩, ⟨rfl, rfl⟩⟩, ⟨⟨rfl, rfl⟩, ⟨rfl, rfl⟩⟩⟩⟩⟩⟩, ⟨⟨⟨⟨⟨rfl, ⟨rfl, rfl⟩⟩, ⟨⟨rfl, rfl⟩, ⟨rfl, rfl⟩⟩⟩, ⟨⟨⟨rfl, rfl⟩, ⟨rfl, rfl⟩⟩, ⟨⟨rfl, rfl⟩, ⟨rfl, rfl⟩⟩⟩⟩, ⟨⟨⟨rfl, ⟨rfl, rfl⟩⟩, ⟨⟨rfl, rfl⟩, ⟨rfl, rfl⟩⟩⟩, ⟨⟨⟨rfl, rfl⟩, ⟨rfl, rfl⟩⟩, ⟨⟨rfl, rfl⟩, ⟨rfl, rfl⟩⟩⟩⟩⟩, ⟨⟨⟨⟨rfl, ⟨rfl, rfl⟩⟩, ⟨⟨rfl, rfl⟩, ⟨rfl, rfl⟩⟩⟩, ⟨⟨⟨rfl, rfl⟩, ⟨rfl, rfl⟩⟩, ⟨⟨rfl, rfl⟩, ⟨rfl, rfl⟩⟩⟩⟩, ⟨⟨⟨rfl,
    ⟨rfl, rfl⟩⟩, ⟨⟨rfl, rfl⟩, ⟨rfl, rfl⟩⟩⟩, ⟨⟨⟨rfl, rfl⟩, ⟨rfl, rfl⟩⟩, ⟨⟨rfl, rfl⟩, ⟨rfl, rfl⟩⟩⟩⟩⟩⟩⟩⟩, ⟨⟨⟨⟨⟨⟨⟨rfl, ⟨rfl, rfl⟩⟩, ⟨⟨rfl, rfl⟩, ⟨rfl, rfl⟩⟩⟩, ⟨⟨rfl, ⟨rfl, rfl⟩⟩, ⟨⟨rfl, rfl⟩, ⟨rfl, rfl⟩⟩⟩⟩, ⟨⟨⟨rfl, ⟨rfl, rfl⟩⟩, ⟨⟨rfl, rfl⟩, ⟨rfl, rfl⟩⟩⟩, ⟨⟨⟨rfl, rfl⟩, ⟨rfl, rfl⟩⟩, ⟨⟨rfl, rfl⟩, ⟨rfl, rfl⟩⟩⟩⟩⟩, ⟨⟨⟨⟨rfl, ⟨rfl, rfl⟩⟩, ⟨⟨rfl, rfl⟩, ⟨rfl, rfl⟩⟩⟩, ⟨⟨⟨rfl, rfl⟩, ⟨rfl, rfl⟩⟩, ⟨⟨rfl, rfl⟩, ⟨rfl,
    rfl⟩⟩⟩⟩, ⟨⟨⟨rfl, ⟨rfl, rfl⟩⟩, ⟨⟨rfl, rfl⟩, ⟨rfl, rfl⟩⟩⟩, ⟨⟨⟨rfl, rfl⟩, ⟨rfl, rfl⟩⟩, ⟨⟨rfl, rfl⟩, ⟨rfl, rfl⟩⟩⟩⟩⟩⟩, ⟨⟨⟨⟨⟨rfl, ⟨rfl, rfl⟩⟩, ⟨⟨rfl, rfl⟩, ⟨rfl, rfl⟩⟩⟩, ⟨⟨⟨rfl, rfl⟩, ⟨rfl, rfl⟩⟩, ⟨⟨rfl, rfl⟩, ⟨rfl, rfl⟩⟩⟩⟩, ⟨⟨⟨rfl, ⟨rfl, rfl⟩⟩, ⟨⟨rfl, rfl⟩, ⟨rfl, rfl⟩⟩⟩, ⟨⟨⟨rfl, rfl⟩, ⟨rfl, rfl⟩⟩, ⟨⟨rfl, rfl⟩, ⟨rfl, rfl⟩⟩⟩⟩⟩, ⟨⟨⟨⟨rfl, ⟨rfl, rfl⟩⟩, ⟨⟨rfl, rfl⟩, ⟨rfl, rfl⟩⟩⟩, ⟨⟨⟨rfl, rfl⟩, ⟨rfl,
    rfl⟩⟩, ⟨⟨rfl, rfl⟩, ⟨rfl, rfl⟩⟩⟩⟩, ⟨⟨⟨rfl, ⟨rfl, rfl⟩⟩, ⟨⟨rfl, rfl⟩, ⟨rfl, rfl⟩⟩⟩, ⟨⟨⟨rfl, rfl⟩, ⟨rfl, rfl⟩⟩, ⟨⟨rfl, rfl⟩, ⟨rfl, rfl⟩⟩⟩⟩⟩⟩⟩, ⟨⟨⟨⟨⟨⟨rfl, ⟨rfl, rfl⟩⟩, ⟨⟨rfl, rfl⟩, ⟨rfl, rfl⟩⟩⟩, ⟨⟨⟨rfl, rfl⟩, ⟨rfl, rfl⟩⟩, ⟨⟨rfl, rfl⟩, ⟨rfl, rfl⟩⟩⟩⟩, ⟨⟨⟨rfl, ⟨rfl, rfl⟩⟩, ⟨⟨rfl, rfl⟩, ⟨rfl, rfl⟩⟩⟩, ⟨⟨⟨rfl, rfl⟩, ⟨rfl, rfl⟩⟩, ⟨⟨rfl, rfl⟩, ⟨rfl, rfl⟩⟩⟩⟩⟩, ⟨⟨⟨⟨rfl, ⟨rfl, rfl⟩⟩, ⟨⟨rfl, rfl⟩, ⟨rfl,
    rfl⟩⟩⟩, ⟨⟨⟨rfl, rfl⟩, ⟨rfl, rfl⟩⟩, ⟨⟨rfl, rfl⟩, ⟨rfl, rfl⟩⟩⟩⟩, ⟨⟨⟨rfl, ⟨rfl, rfl⟩⟩, ⟨⟨rfl, rfl⟩, ⟨rfl, rfl⟩⟩⟩, ⟨⟨⟨rfl, rfl⟩, ⟨rfl, rfl⟩⟩, ⟨⟨rfl, rfl⟩, ⟨rfl, rfl⟩⟩⟩⟩⟩⟩, ⟨⟨⟨⟨⟨rfl, ⟨rfl, rfl⟩⟩, ⟨⟨rfl, rfl⟩, ⟨rfl, rfl⟩⟩⟩, ⟨⟨⟨rfl, rfl⟩, ⟨rfl, rfl⟩⟩, ⟨⟨rfl, rfl⟩, ⟨rfl, rfl⟩⟩⟩⟩, ⟨⟨⟨rfl, ⟨rfl, rfl⟩⟩, ⟨⟨rfl, rfl⟩, ⟨rfl, rfl⟩⟩⟩, ⟨⟨⟨rfl, rfl⟩, ⟨rfl, rfl⟩⟩, ⟨⟨rfl, rfl⟩, ⟨rfl, rfl⟩⟩⟩⟩⟩, ⟨⟨⟨⟨rfl, ⟨rfl,
    rfl⟩⟩, ⟨⟨rfl, rfl⟩, ⟨rfl, rfl⟩⟩⟩, ⟨⟨⟨rfl, rfl⟩, ⟨rfl, rfl⟩⟩, ⟨⟨rfl, rfl⟩, ⟨rfl, rfl⟩⟩⟩⟩, ⟨⟨⟨rfl, ⟨rfl, rfl⟩⟩, ⟨⟨rfl, rfl⟩, ⟨rfl, rfl⟩⟩⟩, ⟨⟨⟨rfl, rfl⟩, ⟨rfl, rfl⟩⟩, ⟨⟨rfl, rfl⟩, ⟨rfl, rfl⟩⟩⟩⟩⟩⟩⟩⟩⟩⟩
theorem RS : ((((((XF.res F3 = [(2, none)]) ∧ (XF.res F4 = [(2, none)])) ∧ ((XF.res F5 = [(2, none)]) ∧ ((XF.res F6 = [(2, none)]) ∧ (XF.res F7 = [(6, none)])))) ∧ (((XF.res F8 = [(2, none)]) ∧ ((XF.res F9 = [(4, none)]) ∧ (XF.res F10 = [(0, none)]))) ∧ ((XF.res F11 = [(2, some (7, true)), (3, none)]) ∧ ((XF.res F12 = [(2, none), (3, none)]) ∧ (XF.res F13 = [(2, none), (3, none)]))))) ∧ ((((XF.res
    F14 = [(4, none)]) ∧ ((XF.res F15 = [(4, none)]) ∧ (XF.res F16 = [(2, none), (3, none)]))) ∧ ((XF.res F17 = [(2, none), (3, none)]) ∧ ((XF.res F18 = [(2, none), (3, none)]) ∧ (XF.res F19 = [(2, none)])))) ∧ (((XF.res F20 = [(6, some (11, true)), (7, none)]) ∧ ((XF.res F21 = [(4, some (11, true)), (5, none)]) ∧ (XF.res F22 = [(4, some (11, true)), (5, none)]))) ∧ ((XF.res F23 = [(4, none)]) ∧
    ((XF.res F24 = [(4, none)]) ∧ (XF.res F25 = [(4, some (11, true)), (5, none)])))))) ∧ (((((XF.res F26 = [(2, none)]) ∧ (XF.res F27 = [(4, some (11, true)), (5, none)])) ∧ ((XF.res F28 = [(4, none)]) ∧ ((XF.res F29 = [(6, some (11, true)), (7, none)]) ∧ (XF.res F30 = [(4, none)])))) ∧ (((XF.res F31 = [(2, none)]) ∧ ((XF.res F32 = [(2, some (5, true)), (3, none), (4, none)]) ∧ (XF.res F33 = [(8,
    none), (9, none)]))) ∧ ((XF.res F34 = []) ∧ ((XF.res F35 = [(4, none)]) ∧ (XF.res F36 = [(4, some (11, true))]))))) ∧ ((((XF.res F37 = [(4, none)]) ∧ ((XF.res F38 = [(2, none)]) ∧ (XF.res F39 = [(2, none)]))) ∧ ((XF.res F40 = [(4, none)]) ∧ ((XF.res F41 = [(2, none)]) ∧ (XF.res F42 = [(2, none), (3, none), (4, none)])))) ∧ (((XF.res F43 = [(2, some (5, true))]) ∧ ((XF.res F44 = [(4, some (5,
    true)), (5, none), (6, none)]) ∧ (XF.res F45 = [(4, none)]))) ∧ ((XF.res F46 = [(4, some (5, true))]) ∧ ((XF.res F47 = [(4, none)]) ∧ (XF.res F48 = [(4, none)]))))))) ∧ ((((((XF.res F49 = [(4, none)]) ∧ (XF.res F50 = [(2, none)])) ∧ ((XF.res F51 = [(4, none), (5, none), (6, none)]) ∧ ((XF.res F52 = [(6, none)]) ∧ (XF.res F53 = [(2, none)])))) ∧ (((XF.res F54 = [(4, none)]) ∧ ((XF.res F55 = [])
    ∧ (XF.res F56 = [(10, some (5, true))]))) ∧ ((XF.res F57 = [(2, some (5, true))]) ∧ ((XF.res F58 = []) ∧ (XF.res F59 = [(4, none), (5, none)]))))) ∧ ((((XF.res F60 = [(4, none)]) ∧ ((XF.res F61 = [(4, none)]) ∧ (XF.res F62 = [(6, some (4, true)), (7, none)]))) ∧ ((XF.res F63 = [(2, none)]) ∧ ((XF.res F64 = [(6, none)]) ∧ (XF.res F65 = [(2, none)])))) ∧ (((XF.res F66 = [(2, some (5, true))]) ∧
    ((XF.res F67 = [(2, some (5, true))]) ∧ (XF.res F68 = [(4, some (5, true))]))) ∧ ((XF.res F69 = [(2, some (5, true))]) ∧ ((XF.res F70 = [(4, none)]) ∧ (XF.res F71 = [(4, some (4, true)), (5, none)])))))) ∧ (((((XF.res F72 = [(4, some (4, true)), (5, none)]) ∧ ((XF.res F73 = [(4, some (4, true)), (5, none)]) ∧ (XF.res F74 = [(2, none)]))) ∧ ((XF.res F75 = [(2, some (5, true))]) ∧ ((XF.res F76 =
    [(2, none)]) ∧ (XF.res F77 = [(12, some (5, true))])))) ∧ (((XF.res F78 = [(4, some (5, true))]) ∧ ((XF.res F79 = [(2, some (5, true))]) ∧ (XF.res F80 = [(2, some (5, true))]))) ∧ ((XF.res F81 = [(4, some (5, true))]) ∧ ((XF.res F82 = [(4, none)]) ∧ (XF.res F83 = [(4, some (5, true))]))))) ∧ ((((XF.res F84 = [(2, none)]) ∧ ((XF.res F85 = [(2, some (5, true))]) ∧ (XF.res F86 = [(2, some (5,
    true))]))) ∧ ((XF.res F87 = [(2, none)]) ∧ ((XF.res F88 = [(4, none)]) ∧ (XF.res F90 = [(2, none)])))) ∧ (((XF.res F91 = [(4, none)]) ∧ ((XF.res F92 = [(2, some (5, true))]) ∧ (XF.res F93 = [(2, some (5, true))]))) ∧ ((XF.res F94 = [(2, none)]) ∧ ((XF.res F96 = [(2, none), (3, none)]) ∧ (XF.res F97 = [(2, none)]))))))) := ⟨⟨⟨⟨⟨⟨rfl, rfl⟩, ⟨rfl, ⟨rfl, rfl⟩⟩⟩, ⟨⟨rfl, ⟨rfl, rfl⟩⟩, ⟨rfl, ⟨rfl,
    rfl⟩⟩⟩⟩, ⟨⟨⟨rfl, ⟨rfl, rfl⟩⟩, ⟨rfl, ⟨rfl, rfl⟩⟩⟩, ⟨⟨rfl, ⟨rfl, rfl⟩⟩, ⟨rfl, ⟨rfl, rfl⟩⟩⟩⟩⟩, ⟨⟨⟨⟨rfl, rfl⟩, ⟨rfl, ⟨rfl, rfl⟩⟩⟩, ⟨⟨rfl, ⟨rfl, rfl⟩⟩, ⟨rfl, ⟨rfl, rfl⟩⟩⟩⟩, ⟨⟨⟨rfl, ⟨rfl, rfl⟩⟩, ⟨rfl, ⟨rfl, rfl⟩⟩⟩, ⟨⟨rfl, ⟨rfl, rfl⟩⟩, ⟨rfl, ⟨rfl, rfl⟩⟩⟩⟩⟩⟩, ⟨⟨⟨⟨⟨rfl, rfl⟩, ⟨rfl, ⟨rfl, rfl⟩⟩⟩, ⟨⟨rfl, ⟨rfl, rfl⟩⟩, ⟨rfl, ⟨rfl, rfl⟩⟩⟩⟩, ⟨⟨⟨rfl, ⟨rfl, rfl⟩⟩, ⟨rfl, ⟨rfl, rfl⟩⟩⟩, ⟨⟨rfl, ⟨rfl, rfl⟩⟩, ⟨rfl,
    ⟨rfl, rfl⟩⟩⟩⟩⟩, ⟨⟨⟨⟨rfl, ⟨rfl, rfl⟩⟩, ⟨rfl, ⟨rfl, rfl⟩⟩⟩, ⟨⟨rfl, ⟨rfl, rfl⟩⟩, ⟨rfl, ⟨rfl, rfl⟩⟩⟩⟩, ⟨⟨⟨rfl, ⟨rfl, rfl⟩⟩, ⟨rfl, ⟨rfl, rfl⟩⟩⟩, ⟨⟨rfl, ⟨rfl, rfl⟩⟩, ⟨rfl, ⟨rfl, rfl⟩⟩⟩⟩⟩⟩⟩
theorem NT : ((((((XF.nt F3 = 36) ∧ (XF.nt F4 = 36)) ∧ ((XF.nt F5 = 141) ∧ ((XF.nt F6 = 71) ∧ (XF.nt F7 = 131)))) ∧ (((XF.nt F8 = 108) ∧ ((XF.nt F9 = 113) ∧ (XF.nt F10 = 162))) ∧ ((XF.nt F11 = 33) ∧ ((XF.nt F12 = 34) ∧ (XF.nt F13 = 143))))) ∧ ((((XF.nt F14 = 27) ∧ ((XF.nt F15 = 54) ∧ (XF.nt F16 = 34))) ∧ ((XF.nt F17 = 84) ∧ ((XF.nt F18 = 117) ∧ (XF.nt F19 = 8)))) ∧ (((XF.nt F20 = 46) ∧ ((XF.nt F21
    = 21) ∧ (XF.nt F22 = 21))) ∧ ((XF.nt F23 = 80) ∧ ((XF.nt F24 = 24) ∧ (XF.nt F25 = 25)))))) ∧ (((((XF.nt F26 = 8) ∧ (XF.nt F27 = 25)) ∧ ((XF.nt F28 = 29) ∧ ((XF.nt F29 = 49) ∧ (XF.nt F30 = 26)))) ∧ (((XF.nt F31 = 28) ∧ ((XF.nt F32 = 34) ∧ (XF.nt F33 = 117))) ∧ ((XF.nt F34 = 94) ∧ ((XF.nt F35 = 14) ∧ (XF.nt F36 = 138))))) ∧ ((((XF.nt F37 = 8) ∧ ((XF.nt F38 = 17) ∧ (XF.nt F39 = 21))) ∧ ((XF.nt F40
    = 24) ∧ ((XF.nt F41 = 18) ∧ (XF.nt F42 = 10)))) ∧ (((XF.nt F43 = 61) ∧ ((XF.nt F44 = 39) ∧ (XF.nt F45 = 32))) ∧ ((XF.nt F46 = 16) ∧ ((XF.nt F47 = 24) ∧ (XF.nt F48 = 32))))))) ∧ ((((((XF.nt F49 = 19) ∧ (XF.nt F50 = 9)) ∧ ((XF.nt F51 = 45) ∧ ((XF.nt F52 = 26) ∧ (XF.nt F53 = 28)))) ∧ (((XF.nt F54 = 31) ∧ ((XF.nt F55 = 13) ∧ (XF.nt F56 = 18))) ∧ ((XF.nt F57 = 17) ∧ ((XF.nt F58 = 40) ∧ (XF.nt F59 =
    33))))) ∧ ((((XF.nt F60 = 9) ∧ ((XF.nt F61 = 59) ∧ (XF.nt F62 = 98))) ∧ ((XF.nt F63 = 30) ∧ ((XF.nt F64 = 20) ∧ (XF.nt F65 = 20)))) ∧ (((XF.nt F66 = 43) ∧ ((XF.nt F67 = 29) ∧ (XF.nt F68 = 78))) ∧ ((XF.nt F69 = 38) ∧ ((XF.nt F70 = 8) ∧ (XF.nt F71 = 45)))))) ∧ (((((XF.nt F72 = 85) ∧ ((XF.nt F73 = 57) ∧ (XF.nt F74 = 18))) ∧ ((XF.nt F75 = 18) ∧ ((XF.nt F76 = 21) ∧ (XF.nt F77 = 85)))) ∧ (((XF.nt F78
    = 27) ∧ ((XF.nt F79 = 25) ∧ (XF.nt F80 = 30))) ∧ ((XF.nt F81 = 65) ∧ ((XF.nt F82 = 143) ∧ (XF.nt F83 = 25))))) ∧ ((((XF.nt F84 = 14) ∧ ((XF.nt F85 = 149) ∧ (XF.nt F86 = 73))) ∧ ((XF.nt F87 = 20) ∧ ((XF.nt F88 = 8) ∧ (XF.nt F90 = 6)))) ∧ (((XF.nt F91 = 81) ∧ ((XF.nt F92 = 11) ∧ (XF.nt F93 = 85))) ∧ ((XF.nt F94 = 35) ∧ ((XF.nt F96 = 39) ∧ (XF.nt F97 = 17))))))) := ⟨⟨⟨⟨⟨⟨rfl, rfl⟩, ⟨rfl, ⟨rfl,
    rfl⟩⟩⟩, ⟨⟨rfl, ⟨rfl, rfl⟩⟩, ⟨rfl, ⟨rfl, rfl⟩⟩⟩⟩, ⟨⟨⟨rfl, ⟨rfl, rfl⟩⟩, ⟨rfl, ⟨rfl, rfl⟩⟩⟩, ⟨⟨rfl, ⟨rfl, rfl⟩⟩, ⟨rfl, ⟨rfl, rfl⟩⟩⟩⟩⟩, ⟨⟨⟨⟨rfl, rfl⟩, ⟨rfl, ⟨rfl, rfl⟩⟩⟩, ⟨⟨rfl, ⟨rfl, rfl⟩⟩, ⟨rfl, ⟨rfl, rfl⟩⟩⟩⟩, ⟨⟨⟨rfl, ⟨rfl, rfl⟩⟩, ⟨rfl, ⟨rfl, rfl⟩⟩⟩, ⟨⟨rfl, ⟨rfl, rfl⟩⟩, ⟨rfl, ⟨rfl, rfl⟩⟩⟩⟩⟩⟩, ⟨⟨⟨⟨⟨rfl, rfl⟩, ⟨rfl, ⟨rfl, rfl⟩⟩⟩, ⟨⟨rfl, ⟨rfl, rfl⟩⟩, ⟨rfl, ⟨rfl, rfl⟩⟩⟩⟩, ⟨⟨⟨rfl, ⟨rfl, rfl⟩⟩, ⟨rfl,
    ⟨rfl, rfl⟩⟩⟩, ⟨⟨rfl, ⟨rfl, rfl⟩⟩, ⟨rfl, ⟨rfl, rfl⟩⟩⟩⟩⟩, ⟨⟨⟨⟨rfl, ⟨rfl, rfl⟩⟩, ⟨rfl, ⟨rfl, rfl⟩⟩⟩, ⟨⟨rfl, ⟨rfl, rfl⟩⟩, ⟨rfl, ⟨rfl, rfl⟩⟩⟩⟩, ⟨⟨⟨rfl, ⟨rfl, rfl⟩⟩, ⟨rfl, ⟨rfl, rfl⟩⟩⟩, ⟨⟨rfl, ⟨rfl, rfl⟩⟩, ⟨rfl, ⟨rfl, rfl⟩⟩⟩⟩⟩⟩⟩
theorem follows : Try.prog.follows .mixedOrders = true := by kernel_rfl
theorem run_ok (n : Nat) : CallsOk Try.prog (runF xp md n) := runF_ok fnsOk (drawsOk follows md) n
end Go.Proofs.Ytbpccdengeakgaa.AE
