/-
  A layer of one's own: text Sf.
-/
import Derived.Test.YtkephaeefknlbaaSmB
set_option linter.unusedVariables false
set_option maxRecDepth 100000
namespace Sm
open Go

/-- sumpter/sumpterlaw21.few -/
def sf101 : SF :=
  ⟨1, 20, [.t 2],
  (.seq (.reg [⟨some 2, .mv (.c (.bool false)), none⟩])
  (.seq (.seq (.reg [⟨some 4, .mv (.s 0), none⟩,
    ⟨some 5, .len (.s 4), none⟩,
    ⟨some 6, .int .gtr (.s 5) (.c (.int .i64 200)), none⟩])
  (.cond (.s 6) (.seq (.reg [⟨some 2, .mv (.c (.bool false)), none⟩])
  .ret)
  .skip))
  (.seq (.seq (.reg [⟨some 3, .mv (.c (.int .i64 0)), none⟩])
  (.block 0 (.loop (.seq (.seq (.reg [⟨some 7, .mv (.s 3), none⟩,
    ⟨some 8, .mv (.s 0), none⟩,
    ⟨some 9, .len (.s 8), none⟩,
    ⟨some 10, .int .lss (.s 7) (.s 9), none⟩])
  (.cond (.s 10) .skip
  (.exit 0)))
  (.seq (.block 1 (.seq (.reg [⟨some 13, .mv (.s 0), none⟩,
    ⟨some 14, .mv (.s 3), none⟩,
    ⟨some 15, .idx 8 (.s 13) (.s 14), none⟩,
    ⟨some 16, .fld 5 (.s 15), none⟩,
    ⟨some 17, .load false 1 (.s 16), none⟩,
    ⟨some 18, .len (.s 17), none⟩,
    ⟨some 19, .int .gtr (.s 18) (.c (.int .i64 70)), none⟩])
  (.cond (.s 19) (.seq (.reg [⟨some 2, .mv (.c (.bool false)), none⟩])
  .ret)
  .skip)))
  (.reg [⟨some 11, .mv (.s 3), none⟩,
    ⟨some 12, .int .add (.s 11) (.c (.int .i64 1)), none⟩,
    ⟨some 3, .mv (.s 12), none⟩]))))))
  (.seq (.reg [⟨some 2, .mv (.c (.bool true)), none⟩])
  .ret))))⟩

/-- sumpter/sumpterlaw21.awake -/
def sf102 : SF :=
  ⟨0, 90, [.t 0],
  (.seq (.reg [⟨some 0, .mv (.c (.bool false)), none⟩])
  (.seq (.reg [⟨some 10, .call 103 [], none⟩,
    ⟨some 1, .mv (.s 10), none⟩])
  (.seq (.seq (.reg [⟨some 2, .mv (.c (.int .i64 0)), none⟩])
  (.block 0 (.loop (.seq (.seq (.reg [⟨some 11, .mv (.s 2), none⟩,
    ⟨some 12, .int .lss (.s 11) (.c (.int .i64 5)), none⟩])
  (.cond (.s 12) .skip
  (.exit 0)))
  (.seq (.block 1 (.seq (.reg [⟨some 15, .mv (.s 1), none⟩,
    ⟨some 16, .mv (.s 2), none⟩,
    ⟨some 17, .build [.v (.int .i64 0), .v (.int .i64 0), .v (.int .i64 0), .v (.bool false)] [(0, 1, (.s 16)), (2, 1, (.c (.int .i64 100))), (3, 1, (.c (.bool true)))], none⟩,
    ⟨some 18, .call 109 [(.s 15), (.s 17)], none⟩,
    ⟨some 19, .int .neq (.s 18) (.c (.int .i64 0)), none⟩])
  (.cond (.s 19) (.seq (.reg [⟨some 0, .mv (.c (.bool false)), none⟩])
  .ret)
  .skip)))
  (.reg [⟨some 13, .mv (.s 2), none⟩,
    ⟨some 14, .int .add (.s 13) (.c (.int .i64 1)), none⟩,
    ⟨some 2, .mv (.s 14), none⟩]))))))
  (.seq (.reg [⟨some 21, .mv (.s 1), none⟩,
    ⟨some 22, .build [.v (.int .i64 0), .v (.int .i64 0)] [(0, 1, (.c (.int .i64 4))), (1, 1, (.c (.int .i64 4)))], none⟩,
    ⟨some 23, .bslice 2 [(.s 22)], none⟩,
    ⟨some 24, .call 108 [(.s 21), (.s 23), (.c (.int .i64 9))], none⟩,
    ⟨some 20, .mv (.s 24), none⟩,
    ⟨some 25, .ext (.s 20) 0, none⟩,
    ⟨some 26, .ext (.s 20) 1, none⟩,
    ⟨some 27, .ext (.s 20) 2, none⟩,
    ⟨some 28, .ext (.s 20) 3, none⟩,
    ⟨some 3, .mv (.s 25), none⟩,
    ⟨some 4, .mv (.s 26), none⟩,
    ⟨some 5, .mv (.s 27), none⟩,
    ⟨some 6, .mv (.s 28), none⟩])
  (.seq (.reg [⟨some 29, .mv (.s 1), none⟩,
    ⟨some 30, .call 106 [(.s 29), (.c (.int .i64 9)), (.c (.int .i64 20))], none⟩,
    ⟨some 7, .mv (.s 30), none⟩])
  (.seq (.reg [⟨some 32, .mv (.s 1), none⟩,
    ⟨some 33, .call 107 [(.s 32), (.c (.int .i64 20))], none⟩,
    ⟨some 31, .mv (.s 33), none⟩,
    ⟨some 34, .ext (.s 31) 0, none⟩,
    ⟨some 35, .ext (.s 31) 1, none⟩,
    ⟨some 8, .mv (.s 34), none⟩,
    ⟨some 9, .mv (.s 35), none⟩])
  (.seq (.reg [⟨some 36, .mv (.s 1), none⟩,
    ⟨some 37, .eq .ptr true (.s 36) (.c (.pointer none)), none⟩,
    ⟨some 38, .mv (.s 37), none⟩,
    ⟨some 39, .mv (.s 3), (some (38, true))⟩,
    ⟨some 40, .len (.s 39), (some (38, true))⟩,
    ⟨some 41, .int .eql (.s 40) (.c (.int .i64 1)), (some (38, true))⟩,
    ⟨some 42, .pick (.s 38) (.s 41) (.c (.bool false)), none⟩,
    ⟨some 43, .mv (.s 42), none⟩,
    ⟨some 44, .mv (.s 4), (some (43, true))⟩,
    ⟨some 45, .int .eql (.s 44) (.c (.int .i64 9)), (some (43, true))⟩,
    ⟨some 46, .pick (.s 43) (.s 45) (.c (.bool false)), none⟩,
    ⟨some 47, .mv (.s 46), none⟩,
    ⟨some 48, .mv (.s 5), (some (47, true))⟩,
    ⟨some 49, .pick (.s 47) (.s 48) (.c (.bool false)), none⟩,
    ⟨some 50, .mv (.s 49), none⟩,
    ⟨some 51, .mv (.s 6), (some (50, true))⟩,
    ⟨some 52, .int .eql (.s 51) (.c (.int .i64 0)), (some (50, true))⟩,
    ⟨some 53, .pick (.s 50) (.s 52) (.c (.bool false)), none⟩,
    ⟨some 54, .mv (.s 53), none⟩,
    ⟨some 55, .mv (.s 7), (some (54, true))⟩,
    ⟨some 56, .len (.s 55), (some (54, true))⟩,
    ⟨some 57, .int .eql (.s 56) (.c (.int .i64 2)), (some (54, true))⟩,
    ⟨some 58, .pick (.s 54) (.s 57) (.c (.bool false)), none⟩,
    ⟨some 59, .mv (.s 58), none⟩,
    ⟨some 60, .mv (.s 7), (some (59, true))⟩,
    ⟨some 61, .idx 4 (.s 60) (.c (.int .i64 1)), (some (59, true))⟩,
    ⟨some 62, .fld 0 (.s 61), (some (59, true))⟩,
    ⟨some 63, .load false 1 (.s 62), (some (59, true))⟩,
    ⟨some 64, .int .eql (.s 63) (.c (.int .i64 1)), (some (59, true))⟩,
    ⟨some 65, .pick (.s 59) (.s 64) (.c (.bool false)), none⟩,
    ⟨some 66, .mv (.s 65), none⟩,
    ⟨some 67, .mv (.s 8), (some (66, true))⟩,
    ⟨some 68, .int .eql (.s 67) (.c (.int .i64 20)), (some (66, true))⟩,
    ⟨some 69, .pick (.s 66) (.s 68) (.c (.bool false)), none⟩,
    ⟨some 70, .mv (.s 69), none⟩,
    ⟨some 71, .mv (.s 9), (some (70, true))⟩,
    ⟨some 72, .pick (.s 70) (.s 71) (.c (.bool false)), none⟩,
    ⟨some 73, .mv (.s 72), none⟩,
    ⟨some 74, .mv (.s 1), (some (73, true))⟩,
    ⟨some 75, .call 111 [(.s 74)], (some (73, true))⟩,
    ⟨some 76, .int .eql (.s 75) (.c (.int .i64 200)), (some (73, true))⟩,
    ⟨some 77, .pick (.s 73) (.s 76) (.c (.bool false)), none⟩,
    ⟨some 78, .mv (.s 77), none⟩,
    ⟨some 79, .pick (.s 78) (.c (.bool true)) (.c (.bool false)), none⟩,
    ⟨some 80, .mv (.s 79), none⟩,
    ⟨some 81, .pick (.s 80) (.c (.bool true)) (.c (.bool false)), none⟩,
    ⟨some 82, .mv (.s 81), none⟩,
    ⟨some 83, .pick (.s 82) (.c (.bool true)) (.c (.bool false)), none⟩,
    ⟨some 84, .mv (.s 83), none⟩,
    ⟨some 85, .pick (.s 84) (.c (.bool true)) (.c (.bool false)), none⟩,
    ⟨some 86, .mv (.s 85), none⟩,
    ⟨some 87, .pick (.s 86) (.c (.bool true)) (.c (.bool false)), none⟩,
    ⟨some 88, .mv (.s 87), none⟩,
    ⟨some 89, .pick (.s 88) (.c (.bool true)) (.c (.bool false)), none⟩,
    ⟨some 0, .mv (.s 89), none⟩])
  .ret)))))))⟩

/-- sumpter/loss.New -/
def sf103 : SF :=
  ⟨0, 3, [.t 0],
  (.seq (.reg [⟨some 0, .mv (.c (.pointer none)), none⟩])
  (.seq (.reg [⟨some 1, .build [.v (.slice none 0 0), .v (.int .i64 0), .v (.int .i64 0), .v (.int .i64 0), .v (.bool false), .v (.bool false), .v (.int .i64 0)] [(6, 1, (.c (.int .i64 (-1))))], none⟩,
    ⟨some 2, .box none 7 (.s 1), none⟩,
    ⟨some 0, .mv (.s 2), none⟩])
  .ret))⟩

/-- sumpter/sumpterref21.New -/
def sf104 : SF :=
  ⟨0, 2, [.cell 0 true 7],
  (.seq (.reg [⟨some 0, .alloc (some 0) [.v (.slice none 0 0), .v (.int .i64 0), .v (.int .i64 0), .v (.int .i64 0), .v (.int .i64 0), .v (.bool false), .v (.int .i64 0)], none⟩])
  (.seq (.reg [⟨some 1, .build [.v (.slice none 0 0), .v (.int .i64 0), .v (.int .i64 0), .v (.int .i64 0), .v (.int .i64 0), .v (.bool false), .v (.int .i64 0)] [(6, 1, (.c (.int .i64 (-1))))], none⟩,
    ⟨none, .store 7 (.s 0) (.s 1), none⟩])
  .ret))⟩

/-- sumpter/sumpterlaw21.do -/
def sf105 : SF :=
  ⟨3, 106, [.cell 6 true 7, .t 7],
  (.seq (.reg [⟨some 4, .box (some 0) 7 (.s 1), none⟩,
    ⟨some 5, .box (some 1) 8 (.s 2), none⟩,
    ⟨some 6, .alloc (some 2) [.v (.slice none 0 0), .v (.int .i64 0), .v (.int .i64 0), .v (.int .i64 0), .v (.int .i64 0), .v (.bool false), .v (.int .i64 0)], none⟩,
    ⟨some 7, .mv (.c (.bool false)), none⟩])
  (.seq (.reg [⟨some 23, .fld 0 (.s 5), none⟩,
    ⟨some 24, .load false 1 (.s 23), none⟩,
    ⟨some 25, .int .rem (.s 24) (.c (.int .u8 5)), none⟩])
  (.block 0 (.seq (.reg [⟨some 42, .int .eql (.s 25) (.c (.int .u8 3)), none⟩,
    ⟨some 41, .mv (.s 42), none⟩])
  (.cond (.s 41) (.seq (.reg [⟨some 44, .mv (.s 0), none⟩,
    ⟨some 45, .fld 5 (.s 5), none⟩,
    ⟨some 46, .load false 1 (.s 45), none⟩,
    ⟨some 47, .fld 6 (.s 5), none⟩,
    ⟨some 48, .load false 1 (.s 47), none⟩,
    ⟨some 49, .call 108 [(.s 44), (.s 46), (.s 48)], none⟩,
    ⟨some 43, .mv (.s 49), none⟩,
    ⟨some 50, .ext (.s 43) 0, none⟩,
    ⟨some 51, .ext (.s 43) 1, none⟩,
    ⟨some 52, .ext (.s 43) 2, none⟩,
    ⟨some 53, .ext (.s 43) 3, none⟩,
    ⟨some 8, .mv (.s 50), none⟩,
    ⟨some 9, .mv (.s 51), none⟩,
    ⟨some 10, .mv (.s 52), none⟩,
    ⟨some 11, .mv (.s 53), none⟩])
  (.seq (.reg [⟨some 55, .load true 7 (.s 4), none⟩,
    ⟨some 56, .fld 5 (.s 5), none⟩,
    ⟨some 57, .load false 1 (.s 56), none⟩,
    ⟨some 58, .fld 6 (.s 5), none⟩,
    ⟨some 59, .load false 1 (.s 58), none⟩,
    ⟨some 60, .call 116 [(.s 55), (.s 57), (.s 59)], none⟩,
    ⟨some 54, .mv (.s 60), none⟩,
    ⟨some 61, .ext (.s 54) 0, none⟩,
    ⟨some 62, .ext (.s 54) 1, none⟩,
    ⟨some 63, .ext (.s 54) 2, none⟩,
    ⟨some 64, .ext (.s 54) 3, none⟩,
    ⟨some 65, .ext (.s 54) 4, none⟩,
    ⟨some 12, .alloc (some 3) [.v (.slice none 0 0), .v (.int .i64 0), .v (.int .i64 0), .v (.int .i64 0), .v (.int .i64 0), .v (.bool false), .v (.int .i64 0)], none⟩,
    ⟨none, .store 7 (.s 12) (.s 61), none⟩,
    ⟨some 13, .mv (.s 62), none⟩,
    ⟨some 14, .mv (.s 63), none⟩,
    ⟨some 15, .mv (.s 64), none⟩,
    ⟨some 16, .mv (.s 65), none⟩])
  (.seq (.dreg [1, 2, 0, 3, 4, 5, 6, 7, 8, 9, 10, 11, 12, 13, 14, 15, 16, 17, 18, 19, 20] [⟨⟨some 67, .mv (.s 8), none⟩, []⟩,
    ⟨⟨some 68, .mv (.s 13), none⟩, []⟩,
    ⟨⟨some 66, .load true 7 (.s 12), none⟩, []⟩,
    ⟨⟨some 69, .call 117 [(.s 67), (.s 68)], none⟩, [2]⟩,
    ⟨⟨some 70, .mv (.s 69), none⟩, []⟩,
    ⟨⟨some 71, .mv (.s 9), (some (70, true))⟩, []⟩,
    ⟨⟨some 72, .mv (.s 14), (some (70, true))⟩, []⟩,
    ⟨⟨some 73, .int .eql (.s 71) (.s 72), (some (70, true))⟩, []⟩,
    ⟨⟨some 74, .pick (.s 70) (.s 73) (.c (.bool false)), none⟩, []⟩,
    ⟨⟨some 75, .mv (.s 74), none⟩, []⟩,
    ⟨⟨some 76, .mv (.s 10), (some (75, true))⟩, []⟩,
    ⟨⟨some 77, .mv (.s 15), (some (75, true))⟩, []⟩,
    ⟨⟨some 78, .eq .bool false (.s 76) (.s 77), (some (75, true))⟩, []⟩,
    ⟨⟨some 79, .pick (.s 75) (.s 78) (.c (.bool false)), none⟩, []⟩,
    ⟨⟨some 80, .mv (.s 79), none⟩, []⟩,
    ⟨⟨some 81, .mv (.s 11), (some (80, true))⟩, []⟩,
    ⟨⟨some 82, .mv (.s 16), (some (80, true))⟩, []⟩,
    ⟨⟨some 83, .int .eql (.s 81) (.s 82), (some (80, true))⟩, []⟩,
    ⟨⟨some 84, .pick (.s 80) (.s 83) (.c (.bool false)), none⟩, []⟩,
    ⟨⟨none, .store 7 (.s 6) (.s 66), none⟩, []⟩,
    ⟨⟨some 7, .mv (.s 84), none⟩, []⟩])
  .ret)))
  (.seq (.reg [⟨some 86, .int .eql (.s 25) (.c (.int .u8 4)), none⟩,
    ⟨some 85, .mv (.s 86), none⟩])
  (.cond (.s 85) (.seq (.reg [⟨some 87, .mv (.s 0), none⟩,
    ⟨some 88, .fld 6 (.s 5), none⟩,
    ⟨some 89, .load false 1 (.s 88), none⟩,
    ⟨some 90, .fld 7 (.s 5), none⟩,
    ⟨some 91, .load false 1 (.s 90), none⟩,
    ⟨some 92, .call 106 [(.s 87), (.s 89), (.s 91)], none⟩,
    ⟨some 17, .mv (.s 92), none⟩])
  (.seq (.reg [⟨some 94, .load true 7 (.s 4), none⟩,
    ⟨some 95, .fld 6 (.s 5), none⟩,
    ⟨some 96, .load false 1 (.s 95), none⟩,
    ⟨some 97, .fld 7 (.s 5), none⟩,
    ⟨some 98, .load false 1 (.s 97), none⟩,
    ⟨some 99, .call 118 [(.s 94), (.s 96), (.s 98)], none⟩,
    ⟨some 93, .mv (.s 99), none⟩,
    ⟨some 100, .ext (.s 93) 0, none⟩,
    ⟨some 101, .ext (.s 93) 1, none⟩,
    ⟨some 18, .alloc (some 4) [.v (.slice none 0 0), .v (.int .i64 0), .v (.int .i64 0), .v (.int .i64 0), .v (.int .i64 0), .v (.bool false), .v (.int .i64 0)], none⟩,
    ⟨none, .store 7 (.s 18) (.s 100), none⟩,
    ⟨some 19, .mv (.s 101), none⟩])
  (.seq (.dreg [1, 2, 0, 3, 4, 5] [⟨⟨some 103, .mv (.s 17), none⟩, []⟩,
    ⟨⟨some 104, .mv (.s 19), none⟩, []⟩,
    ⟨⟨some 102, .load true 7 (.s 18), none⟩, []⟩,
    ⟨⟨some 105, .call 117 [(.s 103), (.s 104)], none⟩, [2]⟩,
    ⟨⟨none, .store 7 (.s 6) (.s 102), none⟩, []⟩,
    ⟨⟨some 7, .mv (.s 105), none⟩, []⟩])
  .ret)))
  (.seq (.reg [⟨some 26, .mv (.s 0), none⟩,
    ⟨some 27, .fld 1 (.s 5), none⟩,
    ⟨some 28, .load true 4 (.s 27), none⟩,
    ⟨some 29, .call 109 [(.s 26), (.s 28)], none⟩,
    ⟨some 20, .mv (.s 29), none⟩])
  (.seq (.reg [⟨some 31, .load true 7 (.s 4), none⟩,
    ⟨some 32, .fld 1 (.s 5), none⟩,
    ⟨some 33, .load true 4 (.s 32), none⟩,
    ⟨some 34, .call 119 [(.s 31), (.s 33)], none⟩,
    ⟨some 30, .mv (.s 34), none⟩,
    ⟨some 35, .ext (.s 30) 0, none⟩,
    ⟨some 36, .ext (.s 30) 1, none⟩,
    ⟨some 21, .alloc (some 5) [.v (.slice none 0 0), .v (.int .i64 0), .v (.int .i64 0), .v (.int .i64 0), .v (.int .i64 0), .v (.bool false), .v (.int .i64 0)], none⟩,
    ⟨none, .store 7 (.s 21) (.s 35), none⟩,
    ⟨some 22, .mv (.s 36), none⟩])
  (.seq (.reg [⟨some 37, .load true 7 (.s 21), none⟩,
    ⟨some 38, .mv (.s 20), none⟩,
    ⟨some 39, .mv (.s 22), none⟩,
    ⟨some 40, .int .eql (.s 38) (.s 39), none⟩,
    ⟨none, .store 7 (.s 6) (.s 37), none⟩,
    ⟨some 7, .mv (.s 40), none⟩])
  .ret))))))))))⟩

/-- (*sumpter/loss.Ledger).Lost -/
def sf106 : SF :=
  ⟨3, 22, [.t 6],
  (.seq (.reg [⟨some 3, .box none 1 (.s 0), none⟩,
    ⟨some 4, .box none 1 (.s 1), none⟩,
    ⟨some 5, .box none 1 (.s 2), none⟩,
    ⟨some 6, .mv (.c (.slice none 0 0)), none⟩])
  (.seq (.seq (.reg [⟨some 7, .load false 1 (.s 3), none⟩,
    ⟨some 8, .eq .ptr false (.s 7) (.c (.pointer none)), none⟩,
    ⟨some 9, .mv (.s 8), none⟩,
    ⟨some 10, .load false 1 (.s 4), (some (9, false))⟩,
    ⟨some 11, .call 120 [(.s 10)], (some (9, false))⟩,
    ⟨some 12, .not (.s 11), (some (9, false))⟩,
    ⟨some 13, .pick (.s 9) (.c (.bool true)) (.s 12), none⟩,
    ⟨some 14, .mv (.s 13), none⟩,
    ⟨some 15, .load false 1 (.s 5), (some (14, false))⟩,
    ⟨some 16, .call 120 [(.s 15)], (some (14, false))⟩,
    ⟨some 17, .not (.s 16), (some (14, false))⟩,
    ⟨some 18, .pick (.s 14) (.c (.bool true)) (.s 17), none⟩])
  (.cond (.s 18) (.seq (.reg [⟨some 6, .mv (.c (.slice none 0 0)), none⟩])
  .ret)
  .skip))
  (.seq (.reg [⟨some 19, .load false 1 (.s 3), none⟩,
    ⟨some 20, .mkfn 121 [(.s 3), (.s 4), (.s 5)], none⟩,
    ⟨some 21, .call 122 [(.s 19), (.s 20)], none⟩,
    ⟨some 6, .mv (.s 21), none⟩])
  .ret)))⟩

/-- (*sumpter/loss.Ledger).Next -/
def sf107 : SF :=
  ⟨2, 32, [.t 4, .t 5],
  (.seq (.reg [⟨some 2, .box none 1 (.s 0), none⟩,
    ⟨some 4, .mv (.c (.int .i64 0)), none⟩,
    ⟨some 5, .mv (.c (.bool false)), none⟩])
  (.seq (.seq (.reg [⟨some 7, .load false 1 (.s 2), none⟩,
    ⟨some 8, .eq .ptr false (.s 7) (.c (.pointer none)), none⟩,
    ⟨some 9, .mv (.s 8), none⟩,
    ⟨some 10, .mv (.s 1), (some (9, false))⟩,
    ⟨some 11, .call 120 [(.s 10)], (some (9, false))⟩,
    ⟨some 12, .not (.s 11), (some (9, false))⟩,
    ⟨some 13, .pick (.s 9) (.c (.bool true)) (.s 12), none⟩])
  (.cond (.s 13) (.seq (.reg [⟨some 4, .mv (.c (.int .i64 0)), none⟩,
    ⟨some 5, .mv (.c (.bool false)), none⟩])
  .ret)
  .skip))
  (.seq (.reg [⟨some 14, .load false 1 (.s 2), none⟩,
    ⟨some 15, .nilc (.s 14), none⟩,
    ⟨some 16, .fld 0 (.s 15), none⟩,
    ⟨some 17, .load false 1 (.s 16), none⟩,
    ⟨some 18, .mkfn 123 [(.s 2)], none⟩,
    ⟨some 19, .call 124 [(.s 17), (.s 18)], none⟩,
    ⟨some 6, .mv (.s 19), none⟩])
  (.seq (.seq (.reg [⟨some 20, .mv (.s 6), none⟩,
    ⟨some 21, .int .lss (.s 20) (.c (.int .i64 0)), none⟩])
  (.cond (.s 21) (.seq (.reg [⟨some 4, .mv (.c (.int .i64 0)), none⟩,
    ⟨some 5, .mv (.c (.bool false)), none⟩])
  .ret)
  .skip))
  (.seq (.reg [⟨some 22, .load false 1 (.s 2), none⟩,
    ⟨some 23, .nilc (.s 22), none⟩,
    ⟨some 24, .fld 0 (.s 23), none⟩,
    ⟨some 25, .load false 1 (.s 24), none⟩,
    ⟨some 26, .mv (.s 6), none⟩,
    ⟨some 27, .idx 4 (.s 25) (.s 26), none⟩,
    ⟨some 28, .fld 1 (.s 27), none⟩,
    ⟨some 29, .load false 1 (.s 28), none⟩,
    ⟨some 30, .mv (.s 1), none⟩,
    ⟨some 31, .int .add (.s 29) (.s 30), none⟩,
    ⟨some 4, .mv (.s 31), none⟩,
    ⟨some 5, .mv (.c (.bool true)), none⟩])
  .ret)))))⟩

/-- (*sumpter/loss.Ledger).Ack -/
def sf108 : SF :=
  ⟨3, 105, [.t 6, .t 7, .t 8, .t 9],
  (.seq (.reg [⟨some 4, .box none 1 (.s 1), none⟩,
    ⟨some 6, .mv (.c (.slice none 0 0)), none⟩,
    ⟨some 7, .mv (.c (.int .i64 0)), none⟩,
    ⟨some 8, .mv (.c (.bool false)), none⟩,
    ⟨some 9, .mv (.c (.int .i64 0)), none⟩])
  (.seq (.seq (.reg [⟨some 14, .mv (.s 0), none⟩,
    ⟨some 15, .eq .ptr false (.s 14) (.c (.pointer none)), none⟩])
  (.cond (.s 15) (.seq (.reg [⟨some 6, .mv (.c (.slice none 0 0)), none⟩,
    ⟨some 7, .mv (.c (.int .i64 0)), none⟩,
    ⟨some 8, .mv (.c (.bool false)), none⟩,
    ⟨some 9, .mv (.c (.int .i64 1)), none⟩])
  .ret)
  .skip))
  (.seq (.seq (.reg [⟨some 16, .load false 1 (.s 4), none⟩,
    ⟨some 17, .call 125 [(.s 16)], none⟩,
    ⟨some 10, .mv (.s 17), none⟩])
  (.seq (.reg [⟨some 18, .mv (.s 10), none⟩,
    ⟨some 19, .int .neq (.s 18) (.c (.int .i64 0)), none⟩])
  (.cond (.s 19) (.seq (.reg [⟨some 20, .mv (.s 10), none⟩,
    ⟨some 6, .mv (.c (.slice none 0 0)), none⟩,
    ⟨some 7, .mv (.c (.int .i64 0)), none⟩,
    ⟨some 8, .mv (.c (.bool false)), none⟩,
    ⟨some 9, .mv (.s 20), none⟩])
  .ret)
  .skip)))
  (.seq (.reg [⟨some 21, .load false 1 (.s 4), none⟩,
    ⟨some 22, .load false 1 (.s 4), none⟩,
    ⟨some 23, .len (.s 22), none⟩,
    ⟨some 24, .int .sub (.s 23) (.c (.int .i64 1)), none⟩,
    ⟨some 25, .idx 2 (.s 21) (.s 24), none⟩,
    ⟨some 26, .fld 1 (.s 25), none⟩,
    ⟨some 27, .load false 1 (.s 26), none⟩,
    ⟨some 11, .mv (.s 27), none⟩])
  (.seq (.block 0 (.seq (.reg [⟨some 29, .mv (.s 0), none⟩,
    ⟨some 30, .nilc (.s 29), none⟩,
    ⟨some 31, .fld 5 (.s 30), none⟩,
    ⟨some 32, .load false 1 (.s 31), none⟩,
    ⟨some 33, .not (.s 32), none⟩,
    ⟨some 34, .mv (.s 33), none⟩,
    ⟨some 35, .mv (.s 11), (some (34, false))⟩,
    ⟨some 36, .mv (.s 0), (some (34, false))⟩,
    ⟨some 37, .nilc (.s 36), (some (34, false))⟩,
    ⟨some 38, .fld 1 (.s 37), (some (34, false))⟩,
    ⟨some 39, .fld 0 (.s 38), (some (34, false))⟩,
    ⟨some 40, .load false 1 (.s 39), (some (34, false))⟩,
    ⟨some 41, .int .gtr (.s 35) (.s 40), (some (34, false))⟩,
    ⟨some 42, .pick (.s 34) (.c (.bool true)) (.s 41), none⟩,
    ⟨some 28, .mv (.s 42), none⟩])
  (.cond (.s 28) (.seq (.reg [⟨some 6, .mv (.c (.slice none 0 0)), none⟩,
    ⟨some 7, .mv (.c (.int .i64 0)), none⟩,
    ⟨some 8, .mv (.c (.bool false)), none⟩,
    ⟨some 9, .mv (.c (.int .i64 16)), none⟩])
  .ret)
  (.seq (.reg [⟨some 44, .mv (.s 2), none⟩,
    ⟨some 45, .mv (.s 0), none⟩,
    ⟨some 46, .nilc (.s 45), none⟩,
    ⟨some 47, .fld 1 (.s 46), none⟩,
    ⟨some 48, .fld 1 (.s 47), none⟩,
    ⟨some 49, .load false 1 (.s 48), none⟩,
    ⟨some 50, .int .lss (.s 44) (.s 49), none⟩,
    ⟨some 51, .mv (.s 50), none⟩,
    ⟨some 52, .mv (.s 2), (some (51, false))⟩,
    ⟨some 53, .int .gtr (.s 52) (.c (.int .i64 1099511627776)), (some (51, false))⟩,
    ⟨some 54, .pick (.s 51) (.c (.bool true)) (.s 53), none⟩,
    ⟨some 43, .mv (.s 54), none⟩])
  (.cond (.s 43) (.seq (.reg [⟨some 6, .mv (.c (.slice none 0 0)), none⟩,
    ⟨some 7, .mv (.c (.int .i64 0)), none⟩,
    ⟨some 8, .mv (.c (.bool false)), none⟩,
    ⟨some 9, .mv (.c (.int .i64 21)), none⟩])
  .ret)
  .skip)))))
  (.seq (.reg [⟨some 55, .mv (.s 0), none⟩,
    ⟨some 56, .mkfn 126 [(.s 4)], none⟩,
    ⟨some 57, .call 122 [(.s 55), (.s 56)], none⟩,
    ⟨some 6, .mv (.s 57), none⟩])
  (.seq (.reg [⟨some 58, .mv (.s 6), none⟩,
    ⟨some 59, .call 127 [(.s 58), (.f 128)], none⟩,
    ⟨some 12, .mv (.s 59), none⟩])
  (.seq (.seq (.reg [⟨some 60, .mv (.s 6), none⟩,
    ⟨some 61, .len (.s 60), none⟩,
    ⟨some 13, .mv (.s 61), none⟩])
  (.seq (.reg [⟨some 62, .mv (.s 13), none⟩,
    ⟨some 63, .int .gtr (.s 62) (.c (.int .i64 0)), none⟩,
    ⟨some 64, .mv (.s 63), none⟩,
    ⟨some 65, .mv (.s 12), (some (64, true))⟩,
    ⟨some 66, .pick (.s 64) (.s 65) (.c (.bool false)), none⟩,
    ⟨some 67, .mv (.s 66), none⟩,
    ⟨some 68, .mv (.s 6), (some (67, true))⟩,
    ⟨some 69, .mv (.s 13), (some (67, true))⟩,
    ⟨some 70, .int .sub (.s 69) (.c (.int .i64 1)), (some (67, true))⟩,
    ⟨some 71, .idx 4 (.s 68) (.s 70), (some (67, true))⟩,
    ⟨some 72, .fld 0 (.s 71), (some (67, true))⟩,
    ⟨some 73, .load false 1 (.s 72), (some (67, true))⟩,
    ⟨some 74, .mv (.s 11), (some (67, true))⟩,
    ⟨some 75, .int .eql (.s 73) (.s 74), (some (67, true))⟩,
    ⟨some 76, .pick (.s 67) (.s 75) (.c (.bool false)), none⟩,
    ⟨some 77, .mv (.s 76), none⟩,
    ⟨some 78, .mv (.s 11), (some (77, true))⟩,
    ⟨some 79, .mv (.s 0), (some (77, true))⟩,
    ⟨some 80, .nilc (.s 79), (some (77, true))⟩,
    ⟨some 81, .fld 6 (.s 80), (some (77, true))⟩,
    ⟨some 82, .load false 1 (.s 81), (some (77, true))⟩,
    ⟨some 83, .int .gtr (.s 78) (.s 82), (some (77, true))⟩,
    ⟨some 84, .pick (.s 77) (.s 83) (.c (.bool false)), none⟩])
  (.cond (.s 84) (.reg [⟨some 85, .mv (.s 2), none⟩,
    ⟨some 86, .mv (.s 6), none⟩,
    ⟨some 87, .mv (.s 13), none⟩,
    ⟨some 88, .int .sub (.s 87) (.c (.int .i64 1)), none⟩,
    ⟨some 89, .idx 4 (.s 86) (.s 88), none⟩,
    ⟨some 90, .fld 1 (.s 89), none⟩,
    ⟨some 91, .load false 1 (.s 90), none⟩,
    ⟨some 92, .int .sub (.s 85) (.s 91), none⟩,
    ⟨some 7, .mv (.s 92), none⟩,
    ⟨some 8, .mv (.c (.bool true)), none⟩])
  .skip)))
  (.seq (.reg [⟨some 93, .mv (.s 0), none⟩,
    ⟨some 94, .mv (.s 0), none⟩,
    ⟨some 95, .nilc (.s 94), none⟩,
    ⟨some 96, .fld 6 (.s 95), none⟩,
    ⟨some 97, .load false 1 (.s 96), none⟩,
    ⟨some 98, .mv (.s 11), none⟩,
    ⟨some 99, .mm true (.s 97) (.s 98), none⟩,
    ⟨some 100, .nilc (.s 93), none⟩,
    ⟨some 101, .fld 6 (.s 100), none⟩,
    ⟨none, .store 1 (.s 101) (.s 99), none⟩])
  (.seq (.reg [⟨some 102, .mv (.s 6), none⟩,
    ⟨some 103, .mv (.s 7), none⟩,
    ⟨some 104, .mv (.s 8), none⟩,
    ⟨some 6, .mv (.s 102), none⟩,
    ⟨some 7, .mv (.s 103), none⟩,
    ⟨some 8, .mv (.s 104), none⟩,
    ⟨some 9, .mv (.c (.int .i64 0)), none⟩])
  .ret))))))))))⟩

/-- (*sumpter/loss.Ledger).Sent -/
def sf109 : SF :=
  ⟨2, 78, [.t 4],
  (.seq (.reg [⟨some 3, .box (some 0) 4 (.s 1), none⟩,
    ⟨some 4, .mv (.c (.int .i64 0)), none⟩])
  (.seq (.block 0 (.seq (.reg [⟨some 6, .mv (.s 0), none⟩,
    ⟨some 7, .eq .ptr false (.s 6) (.c (.pointer none)), none⟩,
    ⟨some 5, .mv (.s 7), none⟩])
  (.cond (.s 5) (.seq (.reg [⟨some 4, .mv (.c (.int .i64 1)), none⟩])
  .ret)
  (.seq (.reg [⟨some 9, .fld 0 (.s 3), none⟩,
    ⟨some 10, .load false 1 (.s 9), none⟩,
    ⟨some 11, .call 120 [(.s 10)], none⟩,
    ⟨some 12, .not (.s 11), none⟩,
    ⟨some 13, .mv (.s 12), none⟩,
    ⟨some 14, .fld 1 (.s 3), (some (13, false))⟩,
    ⟨some 15, .load false 1 (.s 14), (some (13, false))⟩,
    ⟨some 16, .call 120 [(.s 15)], (some (13, false))⟩,
    ⟨some 17, .not (.s 16), (some (13, false))⟩,
    ⟨some 18, .pick (.s 13) (.c (.bool true)) (.s 17), none⟩,
    ⟨some 19, .mv (.s 18), none⟩,
    ⟨some 20, .fld 2 (.s 3), (some (19, false))⟩,
    ⟨some 21, .load false 1 (.s 20), (some (19, false))⟩,
    ⟨some 22, .int .lss (.s 21) (.c (.int .i64 1)), (some (19, false))⟩,
    ⟨some 23, .pick (.s 19) (.c (.bool true)) (.s 22), none⟩,
    ⟨some 24, .mv (.s 23), none⟩,
    ⟨some 25, .fld 2 (.s 3), (some (24, false))⟩,
    ⟨some 26, .load false 1 (.s 25), (some (24, false))⟩,
    ⟨some 27, .int .gtr (.s 26) (.c (.int .i64 1200)), (some (24, false))⟩,
    ⟨some 28, .pick (.s 24) (.c (.bool true)) (.s 27), none⟩,
    ⟨some 8, .mv (.s 28), none⟩])
  (.cond (.s 8) (.seq (.reg [⟨some 4, .mv (.c (.int .i64 2)), none⟩])
  .ret)
  (.seq (.dreg [0, 1, 2, 3, 4, 5, 7, 8, 9, 10, 6, 11, 12, 13, 14, 16, 17, 18, 19, 15, 20, 21, 22, 23, 24] [⟨⟨some 30, .mv (.s 0), none⟩, []⟩,
    ⟨⟨some 31, .nilc (.s 30), none⟩, []⟩,
    ⟨⟨some 32, .fld 5 (.s 31), none⟩, []⟩,
    ⟨⟨some 33, .load false 1 (.s 32), none⟩, []⟩,
    ⟨⟨some 34, .mv (.s 33), none⟩, []⟩,
    ⟨⟨some 35, .fld 0 (.s 3), (some (34, true))⟩, []⟩,
    ⟨⟨some 37, .mv (.s 0), (some (34, true))⟩, []⟩,
    ⟨⟨some 38, .nilc (.s 37), (some (34, true))⟩, []⟩,
    ⟨⟨some 39, .fld 1 (.s 38), (some (34, true))⟩, []⟩,
    ⟨⟨some 40, .fld 0 (.s 39), (some (34, true))⟩, []⟩,
    ⟨⟨some 36, .load false 1 (.s 35), (some (34, true))⟩, []⟩,
    ⟨⟨some 41, .load false 1 (.s 40), (some (34, true))⟩, []⟩,
    ⟨⟨some 42, .int .leq (.s 36) (.s 41), (some (34, true))⟩, []⟩,
    ⟨⟨some 43, .mv (.s 42), (some (34, true))⟩, []⟩,
    ⟨⟨some 44, .fld 1 (.s 3), (some (43, false))⟩, []⟩,
    ⟨⟨some 46, .mv (.s 0), (some (43, false))⟩, []⟩,
    ⟨⟨some 47, .nilc (.s 46), (some (43, false))⟩, []⟩,
    ⟨⟨some 48, .fld 1 (.s 47), (some (43, false))⟩, []⟩,
    ⟨⟨some 49, .fld 1 (.s 48), (some (43, false))⟩, []⟩,
    ⟨⟨some 45, .load false 1 (.s 44), (some (43, false))⟩, []⟩,
    ⟨⟨some 50, .load false 1 (.s 49), (some (43, false))⟩, []⟩,
    ⟨⟨some 51, .int .lss (.s 45) (.s 50), (some (43, false))⟩, []⟩,
    ⟨⟨some 52, .pick (.s 43) (.c (.bool true)) (.s 51), (some (34, true))⟩, []⟩,
    ⟨⟨some 53, .pick (.s 34) (.s 52) (.c (.bool false)), none⟩, []⟩,
    ⟨⟨some 29, .mv (.s 53), none⟩, []⟩])
  (.cond (.s 29) (.seq (.reg [⟨some 4, .mv (.c (.int .i64 2)), none⟩])
  .ret)
  (.seq (.reg [⟨some 55, .mv (.s 0), none⟩,
    ⟨some 56, .nilc (.s 55), none⟩,
    ⟨some 57, .fld 0 (.s 56), none⟩,
    ⟨some 58, .load false 1 (.s 57), none⟩,
    ⟨some 59, .len (.s 58), none⟩,
    ⟨some 60, .int .geq (.s 59) (.c (.int .i64 1024)), none⟩,
    ⟨some 54, .mv (.s 60), none⟩])
  (.cond (.s 54) (.seq (.reg [⟨some 4, .mv (.c (.int .i64 10)), none⟩])
  .ret)
  .skip)))))))))
  (.seq (.dreg [0, 1, 2, 3, 4, 5, 6, 7, 8, 9, 10] [⟨⟨some 61, .mv (.s 0), none⟩, []⟩,
    ⟨⟨some 62, .mv (.s 0), none⟩, []⟩,
    ⟨⟨some 63, .nilc (.s 62), none⟩, []⟩,
    ⟨⟨some 64, .fld 0 (.s 63), none⟩, []⟩,
    ⟨⟨some 65, .load false 1 (.s 64), none⟩, []⟩,
    ⟨⟨some 66, .load true 4 (.s 3), none⟩, []⟩,
    ⟨⟨some 67, .bslice 4 [(.s 66)], none⟩, []⟩,
    ⟨⟨some 68, .app 4 32 (.s 65) (.s 67), none⟩, []⟩,
    ⟨⟨some 69, .nilc (.s 61), none⟩, []⟩,
    ⟨⟨some 70, .fld 0 (.s 69), none⟩, []⟩,
    ⟨⟨none, .store 1 (.s 70) (.s 68), none⟩, []⟩])
  (.seq (.reg [⟨some 71, .mv (.s 0), none⟩,
    ⟨some 72, .mv (.s 0), none⟩,
    ⟨some 73, .load true 4 (.s 3), none⟩,
    ⟨some 74, .nilc (.s 71), none⟩,
    ⟨some 75, .fld 1 (.s 74), none⟩,
    ⟨none, .store 4 (.s 75) (.s 73), none⟩,
    ⟨some 76, .nilc (.s 72), none⟩,
    ⟨some 77, .fld 5 (.s 76), none⟩,
    ⟨none, .store 1 (.s 77) (.c (.bool true)), none⟩])
  (.seq (.reg [⟨some 4, .mv (.c (.int .i64 0)), none⟩])
  .ret)))))⟩

/-- (*sumpter/loss.Ledger).Len -/
def sf110 : SF :=
  ⟨1, 10, [.t 2],
  (.seq (.reg [⟨some 2, .mv (.c (.int .i64 0)), none⟩])
  (.seq (.seq (.reg [⟨some 3, .mv (.s 0), none⟩,
    ⟨some 4, .eq .ptr false (.s 3) (.c (.pointer none)), none⟩])
  (.cond (.s 4) (.seq (.reg [⟨some 2, .mv (.c (.int .i64 0)), none⟩])
  .ret)
  .skip))
  (.seq (.reg [⟨some 5, .mv (.s 0), none⟩,
    ⟨some 6, .nilc (.s 5), none⟩,
    ⟨some 7, .fld 0 (.s 6), none⟩,
    ⟨some 8, .load false 1 (.s 7), none⟩,
    ⟨some 9, .len (.s 8), none⟩,
    ⟨some 2, .mv (.s 9), none⟩])
  .ret)))⟩

/-- (*sumpter/loss.Ledger).Flying -/
def sf111 : SF :=
  ⟨1, 26, [.t 2],
  (.seq (.reg [⟨some 2, .mv (.c (.int .i64 0)), none⟩])
  (.seq (.reg [⟨some 3, .mv (.c (.int .i64 0)), none⟩])
  (.seq (.seq (.reg [⟨some 6, .mv (.s 0), none⟩,
    ⟨some 7, .eq .ptr false (.s 6) (.c (.pointer none)), none⟩])
  (.cond (.s 7) (.seq (.reg [⟨some 8, .mv (.s 3), none⟩,
    ⟨some 2, .mv (.s 8), none⟩])
  .ret)
  .skip))
  (.seq (.seq (.reg [⟨some 9, .mv (.s 0), none⟩,
    ⟨some 10, .nilc (.s 9), none⟩,
    ⟨some 11, .fld 0 (.s 10), none⟩,
    ⟨some 12, .load false 1 (.s 11), none⟩,
    ⟨some 13, .len (.s 12), none⟩,
    ⟨some 14, .mv (.c (.int .i64 0)), none⟩])
  (.block 0 (.loop (.seq (.reg [⟨some 15, .int .lss (.s 14) (.s 13), none⟩])
  (.seq (.cond (.s 15) .skip
  (.exit 0))
  (.seq (.block 1 (.seq (.reg [⟨some 16, .idx 4 (.s 12) (.s 14), none⟩,
    ⟨some 17, .load true 4 (.s 16), none⟩,
    ⟨some 5, .alloc (some 0) [.v (.int .i64 0), .v (.int .i64 0), .v (.int .i64 0), .v (.bool false)], none⟩,
    ⟨none, .store 4 (.s 5) (.s 17), none⟩])
  (.seq (.reg [⟨some 18, .fld 3 (.s 5), none⟩,
    ⟨some 19, .load false 1 (.s 18), none⟩])
  (.cond (.s 19) (.reg [⟨some 20, .mv (.s 3), none⟩,
    ⟨some 21, .fld 2 (.s 5), none⟩,
    ⟨some 22, .load false 1 (.s 21), none⟩,
    ⟨some 23, .int .add (.s 20) (.s 22), none⟩,
    ⟨some 3, .mv (.s 23), none⟩])
  .skip))))
  (.reg [⟨some 24, .int .add (.s 14) (.c (.int .i64 1)), none⟩,
    ⟨some 14, .mv (.s 24), none⟩])))))))
  (.seq (.reg [⟨some 25, .mv (.s 3), none⟩,
    ⟨some 2, .mv (.s 25), none⟩])
  .ret)))))⟩

/-- sumpter/sumpterlaw21.same -/
def sf112 : SF :=
  ⟨3, 89, [.t 6],
  (.seq (.reg [⟨some 4, .box (some 0) 7 (.s 1), none⟩,
    ⟨some 6, .mv (.c (.bool false)), none⟩])
  (.seq (.reg [⟨some 18, .mv (.s 0), none⟩,
    ⟨some 19, .mv (.s 2), none⟩,
    ⟨some 20, .call 107 [(.s 18), (.s 19)], none⟩,
    ⟨some 17, .mv (.s 20), none⟩,
    ⟨some 21, .ext (.s 17) 0, none⟩,
    ⟨some 22, .ext (.s 17) 1, none⟩,
    ⟨some 7, .mv (.s 21), none⟩,
    ⟨some 8, .mv (.s 22), none⟩])
  (.seq (.reg [⟨some 24, .load true 7 (.s 4), none⟩,
    ⟨some 25, .mv (.s 2), none⟩,
    ⟨some 26, .call 129 [(.s 24), (.s 25)], none⟩,
    ⟨some 23, .mv (.s 26), none⟩,
    ⟨some 27, .ext (.s 23) 0, none⟩,
    ⟨some 28, .ext (.s 23) 1, none⟩,
    ⟨some 9, .mv (.s 27), none⟩,
    ⟨some 10, .mv (.s 28), none⟩])
  (.seq (.reg [⟨some 30, .mv (.s 0), none⟩,
    ⟨some 31, .call 114 [(.s 30)], none⟩,
    ⟨some 29, .mv (.s 31), none⟩,
    ⟨some 32, .ext (.s 29) 0, none⟩,
    ⟨some 33, .ext (.s 29) 1, none⟩,
    ⟨some 11, .alloc (some 1) [.v (.int .i64 0), .v (.int .i64 0), .v (.int .i64 0), .v (.bool false)], none⟩,
    ⟨none, .store 4 (.s 11) (.s 32), none⟩,
    ⟨some 12, .mv (.s 33), none⟩])
  (.seq (.reg [⟨some 35, .load true 7 (.s 4), none⟩,
    ⟨some 36, .call 130 [(.s 35)], none⟩,
    ⟨some 34, .mv (.s 36), none⟩,
    ⟨some 37, .ext (.s 34) 0, none⟩,
    ⟨some 38, .ext (.s 34) 1, none⟩,
    ⟨some 13, .alloc (some 2) [.v (.int .i64 0), .v (.int .i64 0), .v (.int .i64 0), .v (.bool false)], none⟩,
    ⟨none, .store 4 (.s 13) (.s 37), none⟩,
    ⟨some 14, .mv (.s 38), none⟩])
  (.seq (.reg [⟨some 40, .mv (.s 0), none⟩,
    ⟨some 41, .call 115 [(.s 40)], none⟩,
    ⟨some 39, .mv (.s 41), none⟩,
    ⟨some 42, .ext (.s 39) 0, none⟩,
    ⟨some 43, .ext (.s 39) 1, none⟩,
    ⟨some 15, .mv (.s 42), none⟩,
    ⟨some 16, .mv (.s 43), none⟩])
  (.seq (.seq (.reg [⟨some 44, .mv (.s 16), none⟩,
    ⟨some 45, .fld 6 (.s 4), none⟩,
    ⟨some 46, .load false 1 (.s 45), none⟩,
    ⟨some 47, .int .geq (.s 46) (.c (.int .i64 0)), none⟩,
    ⟨some 48, .eq .bool true (.s 44) (.s 47), none⟩,
    ⟨some 49, .mv (.s 48), none⟩,
    ⟨some 50, .mv (.s 15), (some (49, false))⟩,
    ⟨some 51, .fld 6 (.s 4), (some (49, false))⟩,
    ⟨some 52, .load false 1 (.s 51), (some (49, false))⟩,
    ⟨some 53, .mm true (.c (.int .i64 0)) (.s 52), (some (49, false))⟩,
    ⟨some 54, .int .neq (.s 50) (.s 53), (some (49, false))⟩,
    ⟨some 55, .pick (.s 49) (.c (.bool true)) (.s 54), none⟩])
  (.cond (.s 55) (.seq (.reg [⟨some 6, .mv (.c (.bool false)), none⟩])
  .ret)
  .skip))
  (.seq (.dreg [0, 1, 2, 3, 4, 5, 6, 7, 8, 9, 10, 11, 12, 13, 14, 15, 16, 17, 18, 19, 21, 20, 22, 23, 24, 25, 26, 28, 29, 30, 27, 31, 32, 33] [⟨⟨some 56, .mv (.s 7), none⟩, []⟩,
    ⟨⟨some 57, .mv (.s 9), none⟩, []⟩,
    ⟨⟨some 58, .int .eql (.s 56) (.s 57), none⟩, []⟩,
    ⟨⟨some 59, .mv (.s 58), none⟩, []⟩,
    ⟨⟨some 60, .mv (.s 8), (some (59, true))⟩, []⟩,
    ⟨⟨some 61, .mv (.s 10), (some (59, true))⟩, []⟩,
    ⟨⟨some 62, .eq .bool false (.s 60) (.s 61), (some (59, true))⟩, []⟩,
    ⟨⟨some 63, .pick (.s 59) (.s 62) (.c (.bool false)), none⟩, []⟩,
    ⟨⟨some 64, .mv (.s 63), none⟩, []⟩,
    ⟨⟨some 65, .load true 4 (.s 11), (some (64, true))⟩, []⟩,
    ⟨⟨some 66, .load true 4 (.s 13), (some (64, true))⟩, []⟩,
    ⟨⟨some 67, .eq (.ag [.i, .i, .i, .b]) false (.s 65) (.s 66), (some (64, true))⟩, []⟩,
    ⟨⟨some 68, .pick (.s 64) (.s 67) (.c (.bool false)), none⟩, []⟩,
    ⟨⟨some 69, .mv (.s 68), none⟩, []⟩,
    ⟨⟨some 70, .mv (.s 12), (some (69, true))⟩, []⟩,
    ⟨⟨some 71, .mv (.s 14), (some (69, true))⟩, []⟩,
    ⟨⟨some 72, .eq .bool false (.s 70) (.s 71), (some (69, true))⟩, []⟩,
    ⟨⟨some 73, .pick (.s 69) (.s 72) (.c (.bool false)), none⟩, []⟩,
    ⟨⟨some 74, .mv (.s 73), none⟩, []⟩,
    ⟨⟨some 75, .mv (.s 0), (some (74, true))⟩, []⟩,
    ⟨⟨some 77, .load true 7 (.s 4), (some (74, true))⟩, []⟩,
    ⟨⟨some 76, .call 111 [(.s 75)], (some (74, true))⟩, [20]⟩,
    ⟨⟨some 78, .call 131 [(.s 77)], (some (74, true))⟩, []⟩,
    ⟨⟨some 79, .int .eql (.s 76) (.s 78), (some (74, true))⟩, []⟩,
    ⟨⟨some 80, .pick (.s 74) (.s 79) (.c (.bool false)), none⟩, []⟩,
    ⟨⟨some 81, .mv (.s 80), none⟩, []⟩,
    ⟨⟨some 82, .mv (.s 0), (some (81, true))⟩, []⟩,
    ⟨⟨some 84, .fld 0 (.s 4), (some (81, true))⟩, []⟩,
    ⟨⟨some 85, .load false 1 (.s 84), (some (81, true))⟩, []⟩,
    ⟨⟨some 86, .len (.s 85), (some (81, true))⟩, []⟩,
    ⟨⟨some 83, .call 110 [(.s 82)], (some (81, true))⟩, [28]⟩,
    ⟨⟨some 87, .int .eql (.s 83) (.s 86), (some (81, true))⟩, []⟩,
    ⟨⟨some 88, .pick (.s 81) (.s 87) (.c (.bool false)), none⟩, []⟩,
    ⟨⟨some 6, .mv (.s 88), none⟩, []⟩])
  .ret))))))))⟩

/-- (*sumpter/loss.Ledger).Fork -/
def sf113 : SF :=
  ⟨1, 15, [.t 2],
  (.seq (.reg [⟨some 2, .mv (.c (.pointer none)), none⟩])
  (.seq (.seq (.reg [⟨some 4, .mv (.s 0), none⟩,
    ⟨some 5, .eq .ptr false (.s 4) (.c (.pointer none)), none⟩])
  (.cond (.s 5) (.seq (.reg [⟨some 2, .mv (.c (.pointer none)), none⟩])
  .ret)
  .skip))
  (.seq (.reg [⟨some 6, .mv (.s 0), none⟩,
    ⟨some 7, .nilc (.s 6), none⟩,
    ⟨some 8, .load true 7 (.s 7), none⟩,
    ⟨some 3, .alloc none [.v (.slice none 0 0), .v (.int .i64 0), .v (.int .i64 0), .v (.int .i64 0), .v (.bool false), .v (.bool false), .v (.int .i64 0)], none⟩,
    ⟨none, .store 7 (.s 3) (.s 8), none⟩])
  (.seq (.reg [⟨some 9, .mv (.s 0), none⟩,
    ⟨some 10, .nilc (.s 9), none⟩,
    ⟨some 11, .fld 0 (.s 10), none⟩,
    ⟨some 12, .load false 1 (.s 11), none⟩,
    ⟨some 13, .call 132 [(.s 12)], none⟩,
    ⟨some 14, .fld 0 (.s 3), none⟩,
    ⟨none, .store 1 (.s 14) (.s 13), none⟩])
  (.seq (.reg [⟨some 2, .mv (.s 3), none⟩])
  .ret)))))⟩

/-- (*sumpter/loss.Ledger).Oldest -/
def sf114 : SF :=
  ⟨1, 23, [.cell 2 true 4, .t 3],
  (.seq (.reg [⟨some 2, .alloc (some 0) [.v (.int .i64 0), .v (.int .i64 0), .v (.int .i64 0), .v (.bool false)], none⟩,
    ⟨some 3, .mv (.c (.bool false)), none⟩])
  (.seq (.seq (.reg [⟨some 5, .mv (.s 0), none⟩,
    ⟨some 6, .eq .ptr false (.s 5) (.c (.pointer none)), none⟩])
  (.cond (.s 6) (.seq (.reg [⟨some 7, .build [.v (.int .i64 0), .v (.int .i64 0), .v (.int .i64 0), .v (.bool false)] [], none⟩,
    ⟨none, .store 4 (.s 2) (.s 7), none⟩,
    ⟨some 3, .mv (.c (.bool false)), none⟩])
  .ret)
  .skip))
  (.seq (.reg [⟨some 8, .mv (.s 0), none⟩,
    ⟨some 9, .nilc (.s 8), none⟩,
    ⟨some 10, .fld 0 (.s 9), none⟩,
    ⟨some 11, .load false 1 (.s 10), none⟩,
    ⟨some 12, .call 124 [(.s 11), (.f 133)], none⟩,
    ⟨some 4, .mv (.s 12), none⟩])
  (.seq (.seq (.reg [⟨some 13, .mv (.s 4), none⟩,
    ⟨some 14, .int .lss (.s 13) (.c (.int .i64 0)), none⟩])
  (.cond (.s 14) (.seq (.reg [⟨some 15, .build [.v (.int .i64 0), .v (.int .i64 0), .v (.int .i64 0), .v (.bool false)] [], none⟩,
    ⟨none, .store 4 (.s 2) (.s 15), none⟩,
    ⟨some 3, .mv (.c (.bool false)), none⟩])
  .ret)
  .skip))
  (.seq (.reg [⟨some 16, .mv (.s 0), none⟩,
    ⟨some 17, .nilc (.s 16), none⟩,
    ⟨some 18, .fld 0 (.s 17), none⟩,
    ⟨some 19, .load false 1 (.s 18), none⟩,
    ⟨some 20, .mv (.s 4), none⟩,
    ⟨some 21, .idx 4 (.s 19) (.s 20), none⟩,
    ⟨some 22, .load true 4 (.s 21), none⟩,
    ⟨none, .store 4 (.s 2) (.s 22), none⟩,
    ⟨some 3, .mv (.c (.bool true)), none⟩])
  .ret)))))⟩

/-- (*sumpter/loss.Ledger).Largest -/
def sf115 : SF :=
  ⟨1, 17, [.t 2, .t 3],
  (.seq (.reg [⟨some 2, .mv (.c (.int .i64 0)), none⟩,
    ⟨some 3, .mv (.c (.bool false)), none⟩])
  (.seq (.seq (.reg [⟨some 4, .mv (.s 0), none⟩,
    ⟨some 5, .eq .ptr false (.s 4) (.c (.pointer none)), none⟩,
    ⟨some 6, .mv (.s 5), none⟩,
    ⟨some 7, .mv (.s 0), (some (6, false))⟩,
    ⟨some 8, .nilc (.s 7), (some (6, false))⟩,
    ⟨some 9, .fld 6 (.s 8), (some (6, false))⟩,
    ⟨some 10, .load false 1 (.s 9), (some (6, false))⟩,
    ⟨some 11, .int .eql (.s 10) (.c (.int .i64 (-1))), (some (6, false))⟩,
    ⟨some 12, .pick (.s 6) (.c (.bool true)) (.s 11), none⟩])
  (.cond (.s 12) (.seq (.reg [⟨some 2, .mv (.c (.int .i64 0)), none⟩,
    ⟨some 3, .mv (.c (.bool false)), none⟩])
  .ret)
  .skip))
  (.seq (.reg [⟨some 13, .mv (.s 0), none⟩,
    ⟨some 14, .nilc (.s 13), none⟩,
    ⟨some 15, .fld 6 (.s 14), none⟩,
    ⟨some 16, .load false 1 (.s 15), none⟩,
    ⟨some 2, .mv (.s 16), none⟩,
    ⟨some 3, .mv (.c (.bool true)), none⟩])
  .ret)))⟩

/-- (sumpter/sumpterref21.Ledger).Ack -/
def sf116 : SF :=
  ⟨3, 120, [.cell 6 true 7, .t 7, .t 8, .t 9, .t 10],
  (.seq (.reg [⟨some 3, .box (some 0) 7 (.s 0), none⟩,
    ⟨some 6, .alloc (some 1) [.v (.slice none 0 0), .v (.int .i64 0), .v (.int .i64 0), .v (.int .i64 0), .v (.int .i64 0), .v (.bool false), .v (.int .i64 0)], none⟩,
    ⟨some 7, .mv (.c (.slice none 0 0)), none⟩,
    ⟨some 8, .mv (.c (.int .i64 0)), none⟩,
    ⟨some 9, .mv (.c (.bool false)), none⟩,
    ⟨some 10, .mv (.c (.int .i64 0)), none⟩])
  (.seq (.reg [⟨some 21, .mv (.s 1), none⟩,
    ⟨some 22, .call 134 [(.s 21)], none⟩,
    ⟨some 11, .mv (.s 22), none⟩])
  (.seq (.seq (.reg [⟨some 23, .mv (.s 11), none⟩,
    ⟨some 24, .int .neq (.s 23) (.c (.int .i64 0)), none⟩])
  (.cond (.s 24) (.seq (.reg [⟨some 25, .load true 7 (.s 3), none⟩,
    ⟨some 26, .mv (.s 11), none⟩,
    ⟨none, .store 7 (.s 6) (.s 25), none⟩,
    ⟨some 7, .mv (.c (.slice none 0 0)), none⟩,
    ⟨some 8, .mv (.c (.int .i64 0)), none⟩,
    ⟨some 9, .mv (.c (.bool false)), none⟩,
    ⟨some 10, .mv (.s 26), none⟩])
  .ret)
  .skip))
  (.seq (.reg [⟨some 27, .mv (.s 1), none⟩,
    ⟨some 28, .mv (.s 1), none⟩,
    ⟨some 29, .len (.s 28), none⟩,
    ⟨some 30, .int .sub (.s 29) (.c (.int .i64 1)), none⟩,
    ⟨some 31, .idx 2 (.s 27) (.s 30), none⟩,
    ⟨some 32, .fld 1 (.s 31), none⟩,
    ⟨some 33, .load false 1 (.s 32), none⟩,
    ⟨some 12, .mv (.s 33), none⟩])
  (.seq (.block 0 (.seq (.reg [⟨some 35, .fld 1 (.s 3), none⟩,
    ⟨some 36, .load false 1 (.s 35), none⟩,
    ⟨some 37, .int .eql (.s 36) (.c (.int .i64 0)), none⟩,
    ⟨some 38, .mv (.s 37), none⟩,
    ⟨some 39, .mv (.s 12), (some (38, false))⟩,
    ⟨some 40, .fld 2 (.s 3), (some (38, false))⟩,
    ⟨some 41, .fld 0 (.s 40), (some (38, false))⟩,
    ⟨some 42, .load false 1 (.s 41), (some (38, false))⟩,
    ⟨some 43, .int .gtr (.s 39) (.s 42), (some (38, false))⟩,
    ⟨some 44, .pick (.s 38) (.c (.bool true)) (.s 43), none⟩,
    ⟨some 34, .mv (.s 44), none⟩])
  (.cond (.s 34) (.seq (.reg [⟨some 45, .load true 7 (.s 3), none⟩,
    ⟨none, .store 7 (.s 6) (.s 45), none⟩,
    ⟨some 7, .mv (.c (.slice none 0 0)), none⟩,
    ⟨some 8, .mv (.c (.int .i64 0)), none⟩,
    ⟨some 9, .mv (.c (.bool false)), none⟩,
    ⟨some 10, .mv (.c (.int .i64 16)), none⟩])
  .ret)
  (.seq (.reg [⟨some 47, .mv (.s 2), none⟩,
    ⟨some 48, .fld 2 (.s 3), none⟩,
    ⟨some 49, .fld 1 (.s 48), none⟩,
    ⟨some 50, .load false 1 (.s 49), none⟩,
    ⟨some 51, .int .lss (.s 47) (.s 50), none⟩,
    ⟨some 52, .mv (.s 51), none⟩,
    ⟨some 53, .mv (.s 2), (some (52, false))⟩,
    ⟨some 54, .int .gtr (.s 53) (.c (.int .i64 1099511627776)), (some (52, false))⟩,
    ⟨some 55, .pick (.s 52) (.c (.bool true)) (.s 54), none⟩,
    ⟨some 46, .mv (.s 55), none⟩])
  (.cond (.s 46) (.seq (.reg [⟨some 56, .load true 7 (.s 3), none⟩,
    ⟨none, .store 7 (.s 6) (.s 56), none⟩,
    ⟨some 7, .mv (.c (.slice none 0 0)), none⟩,
    ⟨some 8, .mv (.c (.int .i64 0)), none⟩,
    ⟨some 9, .mv (.c (.bool false)), none⟩,
    ⟨some 10, .mv (.c (.int .i64 21)), none⟩])
  .ret)
  .skip)))))
  (.seq (.reg [⟨some 13, .mv (.c (.slice none 0 0)), none⟩,
    ⟨some 14, .mv (.c (.slice none 0 0)), none⟩])
  (.seq (.reg [⟨some 57, .mv (.s 1), none⟩,
    ⟨some 58, .build [.v (.slice none 0 0)] [(0, 1, (.s 57))], none⟩,
    ⟨some 15, .alloc (some 2) [.v (.slice none 0 0)], none⟩,
    ⟨none, .store 1 (.s 15) (.s 58), none⟩])
  (.seq (.reg [⟨some 16, .mv (.c (.bool false)), none⟩,
    ⟨some 17, .mv (.c (.int .i64 0)), none⟩,
    ⟨some 18, .mv (.c (.bool false)), none⟩])
  (.seq (.seq (.reg [⟨some 19, .mv (.c (.int .i64 0)), none⟩])
  (.block 1 (.loop (.seq (.seq (.reg [⟨some 59, .mv (.s 19), none⟩,
    ⟨some 60, .fld 0 (.s 3), none⟩,
    ⟨some 61, .load false 1 (.s 60), none⟩,
    ⟨some 62, .len (.s 61), none⟩,
    ⟨some 63, .int .lss (.s 59) (.s 62), none⟩])
  (.cond (.s 63) .skip
  (.exit 1)))
  (.seq (.block 2 (.seq (.reg [⟨some 66, .fld 0 (.s 3), none⟩,
    ⟨some 67, .load false 1 (.s 66), none⟩,
    ⟨some 68, .mv (.s 19), none⟩,
    ⟨some 69, .idx 4 (.s 67) (.s 68), none⟩,
    ⟨some 70, .load true 4 (.s 69), none⟩,
    ⟨some 20, .alloc (some 3) [.v (.int .i64 0), .v (.int .i64 0), .v (.int .i64 0), .v (.bool false)], none⟩,
    ⟨none, .store 4 (.s 20) (.s 70), none⟩])
  (.seq (.seq (.reg [⟨some 71, .load true 1 (.s 15), none⟩,
    ⟨some 72, .fld 0 (.s 20), none⟩,
    ⟨some 73, .load false 1 (.s 72), none⟩,
    ⟨some 74, .call 135 [(.s 71), (.s 73)], none⟩,
    ⟨some 75, .not (.s 74), none⟩])
  (.cond (.s 75) (.seq (.reg [⟨some 76, .mv (.s 13), none⟩,
    ⟨some 77, .load true 4 (.s 20), none⟩,
    ⟨some 78, .bslice 4 [(.s 77)], none⟩,
    ⟨some 79, .app 4 32 (.s 76) (.s 78), none⟩,
    ⟨some 13, .mv (.s 79), none⟩])
  (.exit 2))
  .skip))
  (.seq (.reg [⟨some 80, .mv (.s 14), none⟩,
    ⟨some 81, .load true 4 (.s 20), none⟩,
    ⟨some 82, .bslice 4 [(.s 81)], none⟩,
    ⟨some 83, .app 4 32 (.s 80) (.s 82), none⟩,
    ⟨some 14, .mv (.s 83), none⟩])
  (.seq (.reg [⟨some 84, .mv (.s 16), none⟩,
    ⟨some 85, .mv (.s 84), none⟩,
    ⟨some 86, .fld 3 (.s 20), (some (85, false))⟩,
    ⟨some 87, .load false 1 (.s 86), (some (85, false))⟩,
    ⟨some 88, .pick (.s 85) (.c (.bool true)) (.s 87), none⟩,
    ⟨some 16, .mv (.s 88), none⟩])
  (.seq (.reg [⟨some 89, .fld 0 (.s 20), none⟩,
    ⟨some 90, .load false 1 (.s 89), none⟩,
    ⟨some 91, .mv (.s 12), none⟩,
    ⟨some 92, .int .eql (.s 90) (.s 91), none⟩,
    ⟨some 93, .mv (.s 92), none⟩,
    ⟨some 94, .mv (.s 12), (some (93, true))⟩,
    ⟨some 95, .fld 6 (.s 3), (some (93, true))⟩,
    ⟨some 96, .load false 1 (.s 95), (some (93, true))⟩,
    ⟨some 97, .int .gtr (.s 94) (.s 96), (some (93, true))⟩,
    ⟨some 98, .pick (.s 93) (.s 97) (.c (.bool false)), none⟩])
  (.cond (.s 98) (.reg [⟨some 99, .mv (.s 2), none⟩,
    ⟨some 100, .fld 1 (.s 20), none⟩,
    ⟨some 101, .load false 1 (.s 100), none⟩,
    ⟨some 102, .int .sub (.s 99) (.s 101), none⟩,
    ⟨some 17, .mv (.s 102), none⟩,
    ⟨some 18, .mv (.c (.bool true)), none⟩])
  .skip)))))))
  (.reg [⟨some 64, .mv (.s 19), none⟩,
    ⟨some 65, .int .add (.s 64) (.c (.int .i64 1)), none⟩,
    ⟨some 19, .mv (.s 65), none⟩]))))))
  (.seq (.seq (.reg [⟨some 103, .mv (.s 18), none⟩,
    ⟨some 104, .not (.s 103), none⟩,
    ⟨some 105, .mv (.s 104), none⟩,
    ⟨some 106, .mv (.s 16), (some (105, false))⟩,
    ⟨some 107, .not (.s 106), (some (105, false))⟩,
    ⟨some 108, .pick (.s 105) (.c (.bool true)) (.s 107), none⟩])
  (.cond (.s 108) (.reg [⟨some 17, .mv (.c (.int .i64 0)), none⟩,
    ⟨some 18, .mv (.c (.bool false)), none⟩])
  .skip))
  (.seq (.reg [⟨some 109, .mv (.s 13), none⟩,
    ⟨some 110, .fld 6 (.s 3), none⟩,
    ⟨some 111, .load false 1 (.s 110), none⟩,
    ⟨some 112, .mv (.s 12), none⟩,
    ⟨some 113, .mm true (.s 111) (.s 112), none⟩,
    ⟨some 114, .fld 0 (.s 3), none⟩,
    ⟨none, .store 1 (.s 114) (.s 109), none⟩,
    ⟨some 115, .fld 6 (.s 3), none⟩,
    ⟨none, .store 1 (.s 115) (.s 113), none⟩])
  (.seq (.reg [⟨some 116, .load true 7 (.s 3), none⟩,
    ⟨some 117, .mv (.s 14), none⟩,
    ⟨some 118, .mv (.s 17), none⟩,
    ⟨some 119, .mv (.s 18), none⟩,
    ⟨none, .store 7 (.s 6) (.s 116), none⟩,
    ⟨some 7, .mv (.s 117), none⟩,
    ⟨some 8, .mv (.s 118), none⟩,
    ⟨some 9, .mv (.s 119), none⟩,
    ⟨some 10, .mv (.c (.int .i64 0)), none⟩])
  .ret))))))))))))⟩

/-- sumpter/sumpterlaw21.samePackets -/
def sf117 : SF :=
  ⟨2, 26, [.t 4],
  (.seq (.reg [⟨some 4, .mv (.c (.bool false)), none⟩])
  (.seq (.seq (.reg [⟨some 6, .mv (.s 0), none⟩,
    ⟨some 7, .len (.s 6), none⟩,
    ⟨some 8, .mv (.s 1), none⟩,
    ⟨some 9, .len (.s 8), none⟩,
    ⟨some 10, .int .neq (.s 7) (.s 9), none⟩])
  (.cond (.s 10) (.seq (.reg [⟨some 4, .mv (.c (.bool false)), none⟩])
  .ret)
  .skip))
  (.seq (.seq (.reg [⟨some 5, .mv (.c (.int .i64 0)), none⟩])
  (.block 0 (.loop (.seq (.seq (.reg [⟨some 11, .mv (.s 5), none⟩,
    ⟨some 12, .mv (.s 0), none⟩,
    ⟨some 13, .len (.s 12), none⟩,
    ⟨some 14, .int .lss (.s 11) (.s 13), none⟩])
  (.cond (.s 14) .skip
  (.exit 0)))
  (.seq (.block 1 (.seq (.dreg [0, 1, 2, 4, 5, 6, 3, 7, 8] [⟨⟨some 17, .mv (.s 0), none⟩, []⟩,
    ⟨⟨some 18, .mv (.s 5), none⟩, []⟩,
    ⟨⟨some 19, .idx 4 (.s 17) (.s 18), none⟩, []⟩,
    ⟨⟨some 21, .mv (.s 1), none⟩, []⟩,
    ⟨⟨some 22, .mv (.s 5), none⟩, []⟩,
    ⟨⟨some 23, .idx 4 (.s 21) (.s 22), none⟩, []⟩,
    ⟨⟨some 20, .load true 4 (.s 19), none⟩, []⟩,
    ⟨⟨some 24, .load true 4 (.s 23), none⟩, []⟩,
    ⟨⟨some 25, .eq (.ag [.i, .i, .i, .b]) true (.s 20) (.s 24), none⟩, []⟩])
  (.cond (.s 25) (.seq (.reg [⟨some 4, .mv (.c (.bool false)), none⟩])
  .ret)
  .skip)))
  (.reg [⟨some 15, .mv (.s 5), none⟩,
    ⟨some 16, .int .add (.s 15) (.c (.int .i64 1)), none⟩,
    ⟨some 5, .mv (.s 16), none⟩]))))))
  (.seq (.reg [⟨some 4, .mv (.c (.bool true)), none⟩])
  .ret))))⟩

/-- (sumpter/sumpterref21.Ledger).Lost -/
def sf118 : SF :=
  ⟨3, 66, [.cell 6 true 7, .t 7],
  (.seq (.reg [⟨some 3, .box (some 0) 7 (.s 0), none⟩,
    ⟨some 6, .alloc (some 1) [.v (.slice none 0 0), .v (.int .i64 0), .v (.int .i64 0), .v (.int .i64 0), .v (.int .i64 0), .v (.bool false), .v (.int .i64 0)], none⟩,
    ⟨some 7, .mv (.c (.slice none 0 0)), none⟩])
  (.seq (.seq (.reg [⟨some 12, .mv (.s 1), none⟩,
    ⟨some 13, .call 136 [(.s 12)], none⟩,
    ⟨some 14, .not (.s 13), none⟩,
    ⟨some 15, .mv (.s 14), none⟩,
    ⟨some 16, .mv (.s 2), (some (15, false))⟩,
    ⟨some 17, .call 136 [(.s 16)], (some (15, false))⟩,
    ⟨some 18, .not (.s 17), (some (15, false))⟩,
    ⟨some 19, .pick (.s 15) (.c (.bool true)) (.s 18), none⟩])
  (.cond (.s 19) (.seq (.reg [⟨some 20, .load true 7 (.s 3), none⟩,
    ⟨none, .store 7 (.s 6) (.s 20), none⟩,
    ⟨some 7, .mv (.c (.slice none 0 0)), none⟩])
  .ret)
  .skip))
  (.seq (.reg [⟨some 8, .mv (.c (.slice none 0 0)), none⟩,
    ⟨some 9, .mv (.c (.slice none 0 0)), none⟩])
  (.seq (.seq (.reg [⟨some 10, .mv (.c (.int .i64 0)), none⟩])
  (.block 0 (.loop (.seq (.seq (.reg [⟨some 21, .mv (.s 10), none⟩,
    ⟨some 22, .fld 0 (.s 3), none⟩,
    ⟨some 23, .load false 1 (.s 22), none⟩,
    ⟨some 24, .len (.s 23), none⟩,
    ⟨some 25, .int .lss (.s 21) (.s 24), none⟩])
  (.cond (.s 25) .skip
  (.exit 0)))
  (.seq (.block 1 (.seq (.reg [⟨some 28, .fld 0 (.s 3), none⟩,
    ⟨some 29, .load false 1 (.s 28), none⟩,
    ⟨some 30, .mv (.s 10), none⟩,
    ⟨some 31, .idx 4 (.s 29) (.s 30), none⟩,
    ⟨some 32, .load true 4 (.s 31), none⟩,
    ⟨some 11, .alloc (some 2) [.v (.int .i64 0), .v (.int .i64 0), .v (.int .i64 0), .v (.bool false)], none⟩,
    ⟨none, .store 4 (.s 11) (.s 32), none⟩])
  (.seq (.reg [⟨some 33, .fld 0 (.s 11), none⟩,
    ⟨some 34, .load false 1 (.s 33), none⟩,
    ⟨some 35, .fld 6 (.s 3), none⟩,
    ⟨some 36, .load false 1 (.s 35), none⟩,
    ⟨some 37, .int .lss (.s 34) (.s 36), none⟩,
    ⟨some 38, .mv (.s 37), none⟩,
    ⟨some 39, .fld 0 (.s 11), (some (38, true))⟩,
    ⟨some 40, .load false 1 (.s 39), (some (38, true))⟩,
    ⟨some 41, .fld 6 (.s 3), (some (38, true))⟩,
    ⟨some 42, .load false 1 (.s 41), (some (38, true))⟩,
    ⟨some 43, .int .sub (.s 42) (.c (.int .i64 3)), (some (38, true))⟩,
    ⟨some 44, .int .leq (.s 40) (.s 43), (some (38, true))⟩,
    ⟨some 45, .mv (.s 44), (some (38, true))⟩,
    ⟨some 46, .fld 1 (.s 11), (some (45, false))⟩,
    ⟨some 47, .load false 1 (.s 46), (some (45, false))⟩,
    ⟨some 48, .mv (.s 1), (some (45, false))⟩,
    ⟨some 49, .mv (.s 2), (some (45, false))⟩,
    ⟨some 50, .int .sub (.s 48) (.s 49), (some (45, false))⟩,
    ⟨some 51, .int .leq (.s 47) (.s 50), (some (45, false))⟩,
    ⟨some 52, .pick (.s 45) (.c (.bool true)) (.s 51), (some (38, true))⟩,
    ⟨some 53, .pick (.s 38) (.s 52) (.c (.bool false)), none⟩])
  (.cond (.s 53) (.reg [⟨some 54, .mv (.s 9), none⟩,
    ⟨some 55, .load true 4 (.s 11), none⟩,
    ⟨some 56, .bslice 4 [(.s 55)], none⟩,
    ⟨some 57, .app 4 32 (.s 54) (.s 56), none⟩,
    ⟨some 9, .mv (.s 57), none⟩])
  (.reg [⟨some 58, .mv (.s 8), none⟩,
    ⟨some 59, .load true 4 (.s 11), none⟩,
    ⟨some 60, .bslice 4 [(.s 59)], none⟩,
    ⟨some 61, .app 4 32 (.s 58) (.s 60), none⟩,
    ⟨some 8, .mv (.s 61), none⟩])))))
  (.reg [⟨some 26, .mv (.s 10), none⟩,
    ⟨some 27, .int .add (.s 26) (.c (.int .i64 1)), none⟩,
    ⟨some 10, .mv (.s 27), none⟩]))))))
  (.seq (.reg [⟨some 62, .mv (.s 8), none⟩,
    ⟨some 63, .fld 0 (.s 3), none⟩,
    ⟨none, .store 1 (.s 63) (.s 62), none⟩])
  (.seq (.reg [⟨some 64, .load true 7 (.s 3), none⟩,
    ⟨some 65, .mv (.s 9), none⟩,
    ⟨none, .store 7 (.s 6) (.s 64), none⟩,
    ⟨some 7, .mv (.s 65), none⟩])
  .ret))))))⟩

/-- (sumpter/sumpterref21.Ledger).Sent -/
def sf119 : SF :=
  ⟨2, 69, [.cell 4 true 7, .t 5],
  (.seq (.reg [⟨some 2, .box (some 0) 7 (.s 0), none⟩,
    ⟨some 3, .box (some 1) 4 (.s 1), none⟩,
    ⟨some 4, .alloc (some 2) [.v (.slice none 0 0), .v (.int .i64 0), .v (.int .i64 0), .v (.int .i64 0), .v (.int .i64 0), .v (.bool false), .v (.int .i64 0)], none⟩,
    ⟨some 5, .mv (.c (.int .i64 0)), none⟩])
  (.seq (.seq (.reg [⟨some 7, .fld 0 (.s 3), none⟩,
    ⟨some 8, .load false 1 (.s 7), none⟩,
    ⟨some 9, .call 136 [(.s 8)], none⟩,
    ⟨some 10, .not (.s 9), none⟩,
    ⟨some 11, .mv (.s 10), none⟩,
    ⟨some 12, .fld 1 (.s 3), (some (11, false))⟩,
    ⟨some 13, .load false 1 (.s 12), (some (11, false))⟩,
    ⟨some 14, .call 136 [(.s 13)], (some (11, false))⟩,
    ⟨some 15, .not (.s 14), (some (11, false))⟩,
    ⟨some 16, .pick (.s 11) (.c (.bool true)) (.s 15), none⟩,
    ⟨some 17, .mv (.s 16), none⟩,
    ⟨some 18, .fld 1 (.s 2), (some (17, false))⟩,
    ⟨some 19, .load false 1 (.s 18), (some (17, false))⟩,
    ⟨some 20, .int .gtr (.s 19) (.c (.int .i64 0)), (some (17, false))⟩,
    ⟨some 21, .mv (.s 20), (some (17, false))⟩,
    ⟨some 22, .fld 0 (.s 3), (some (21, true))⟩,
    ⟨some 23, .load false 1 (.s 22), (some (21, true))⟩,
    ⟨some 24, .fld 2 (.s 2), (some (21, true))⟩,
    ⟨some 25, .fld 0 (.s 24), (some (21, true))⟩,
    ⟨some 26, .load false 1 (.s 25), (some (21, true))⟩,
    ⟨some 27, .int .leq (.s 23) (.s 26), (some (21, true))⟩,
    ⟨some 28, .mv (.s 27), (some (21, true))⟩,
    ⟨some 29, .fld 1 (.s 3), (some (28, false))⟩,
    ⟨some 30, .load false 1 (.s 29), (some (28, false))⟩,
    ⟨some 31, .fld 2 (.s 2), (some (28, false))⟩,
    ⟨some 32, .fld 1 (.s 31), (some (28, false))⟩,
    ⟨some 33, .load false 1 (.s 32), (some (28, false))⟩,
    ⟨some 34, .int .lss (.s 30) (.s 33), (some (28, false))⟩,
    ⟨some 35, .pick (.s 28) (.c (.bool true)) (.s 34), (some (21, true))⟩,
    ⟨some 36, .pick (.s 21) (.s 35) (.c (.bool false)), (some (17, false))⟩,
    ⟨some 37, .pick (.s 17) (.c (.bool true)) (.s 36), none⟩,
    ⟨some 38, .mv (.s 37), none⟩,
    ⟨some 39, .fld 2 (.s 3), (some (38, false))⟩,
    ⟨some 40, .load false 1 (.s 39), (some (38, false))⟩,
    ⟨some 41, .int .lss (.s 40) (.c (.int .i64 1)), (some (38, false))⟩,
    ⟨some 42, .pick (.s 38) (.c (.bool true)) (.s 41), none⟩,
    ⟨some 43, .mv (.s 42), none⟩,
    ⟨some 44, .fld 2 (.s 3), (some (43, false))⟩,
    ⟨some 45, .load false 1 (.s 44), (some (43, false))⟩,
    ⟨some 46, .int .gtr (.s 45) (.c (.int .i64 1200)), (some (43, false))⟩,
    ⟨some 47, .pick (.s 43) (.c (.bool true)) (.s 46), none⟩])
  (.cond (.s 47) (.seq (.reg [⟨some 48, .load true 7 (.s 2), none⟩,
    ⟨none, .store 7 (.s 4) (.s 48), none⟩,
    ⟨some 5, .mv (.c (.int .i64 2)), none⟩])
  .ret)
  .skip))
  (.seq (.seq (.reg [⟨some 49, .fld 0 (.s 2), none⟩,
    ⟨some 50, .load false 1 (.s 49), none⟩,
    ⟨some 51, .len (.s 50), none⟩,
    ⟨some 52, .int .geq (.s 51) (.c (.int .i64 1024)), none⟩])
  (.cond (.s 52) (.seq (.reg [⟨some 53, .load true 7 (.s 2), none⟩,
    ⟨none, .store 7 (.s 4) (.s 53), none⟩,
    ⟨some 5, .mv (.c (.int .i64 10)), none⟩])
  .ret)
  .skip))
  (.seq (.reg [⟨some 6, .mv (.c (.slice none 0 0)), none⟩])
  (.seq (.dreg [0, 1, 2, 4, 5, 3, 6, 7, 8] [⟨⟨some 54, .mv (.s 6), none⟩, []⟩,
    ⟨⟨some 55, .fld 0 (.s 2), none⟩, []⟩,
    ⟨⟨some 56, .load false 1 (.s 55), none⟩, []⟩,
    ⟨⟨some 58, .load true 4 (.s 3), none⟩, []⟩,
    ⟨⟨some 59, .bslice 4 [(.s 58)], none⟩, []⟩,
    ⟨⟨some 57, .app 4 32 (.s 54) (.s 56), none⟩, []⟩,
    ⟨⟨some 60, .app 4 32 (.s 57) (.s 59), none⟩, []⟩,
    ⟨⟨some 61, .fld 0 (.s 2), none⟩, []⟩,
    ⟨⟨none, .store 1 (.s 61) (.s 60), none⟩, []⟩])
  (.seq (.dreg [0, 1, 2, 4, 3, 5, 6, 7] [⟨⟨some 62, .fld 1 (.s 2), none⟩, []⟩,
    ⟨⟨some 63, .load false 1 (.s 62), none⟩, []⟩,
    ⟨⟨some 64, .int .add (.s 63) (.c (.int .i64 1)), none⟩, []⟩,
    ⟨⟨some 66, .fld 1 (.s 2), none⟩, []⟩,
    ⟨⟨some 65, .load true 4 (.s 3), none⟩, []⟩,
    ⟨⟨none, .store 1 (.s 66) (.s 64), none⟩, [4]⟩,
    ⟨⟨some 67, .fld 2 (.s 2), none⟩, []⟩,
    ⟨⟨none, .store 4 (.s 67) (.s 65), none⟩, []⟩])
  (.seq (.reg [⟨some 68, .load true 7 (.s 2), none⟩,
    ⟨none, .store 7 (.s 4) (.s 68), none⟩,
    ⟨some 5, .mv (.c (.int .i64 0)), none⟩])
  .ret)))))))⟩

/-- sumpter/loss.may -/
def sf120 : SF :=
  ⟨1, 9, [.t 2],
  (.seq (.reg [⟨some 2, .mv (.c (.bool false)), none⟩])
  (.seq (.reg [⟨some 3, .mv (.s 0), none⟩,
    ⟨some 4, .int .geq (.s 3) (.c (.int .i64 0)), none⟩,
    ⟨some 5, .mv (.s 4), none⟩,
    ⟨some 6, .mv (.s 0), (some (5, true))⟩,
    ⟨some 7, .int .leq (.s 6) (.c (.int .i64 1099511627776)), (some (5, true))⟩,
    ⟨some 8, .pick (.s 5) (.s 7) (.c (.bool false)), none⟩,
    ⟨some 2, .mv (.s 8), none⟩])
  .ret))⟩

/-- (*sumpter/loss.Ledger).Lost$1 -/
def sf121 : SF :=
  ⟨4, 31, [.t 5],
  (.seq (.reg [⟨some 4, .box (some 0) 4 (.s 0), none⟩,
    ⟨some 5, .mv (.c (.bool false)), none⟩])
  (.seq (.dreg [0, 1, 2, 3, 4, 5, 6, 7, 8, 9, 10, 11, 12, 13, 14, 15, 16, 17, 18, 19, 20, 21, 22, 23, 24, 25] [⟨⟨some 6, .fld 0 (.s 4), none⟩, []⟩,
    ⟨⟨some 7, .load false 1 (.s 6), none⟩, []⟩,
    ⟨⟨some 8, .load false 1 (.s 1), none⟩, []⟩,
    ⟨⟨some 9, .nilc (.s 8), none⟩, []⟩,
    ⟨⟨some 10, .fld 6 (.s 9), none⟩, []⟩,
    ⟨⟨some 11, .load false 1 (.s 10), none⟩, []⟩,
    ⟨⟨some 12, .int .lss (.s 7) (.s 11), none⟩, []⟩,
    ⟨⟨some 13, .mv (.s 12), none⟩, []⟩,
    ⟨⟨some 14, .fld 0 (.s 4), (some (13, true))⟩, []⟩,
    ⟨⟨some 15, .load false 1 (.s 14), (some (13, true))⟩, []⟩,
    ⟨⟨some 16, .load false 1 (.s 1), (some (13, true))⟩, []⟩,
    ⟨⟨some 17, .nilc (.s 16), (some (13, true))⟩, []⟩,
    ⟨⟨some 18, .fld 6 (.s 17), (some (13, true))⟩, []⟩,
    ⟨⟨some 19, .load false 1 (.s 18), (some (13, true))⟩, []⟩,
    ⟨⟨some 20, .int .sub (.s 19) (.c (.int .i64 3)), (some (13, true))⟩, []⟩,
    ⟨⟨some 21, .int .leq (.s 15) (.s 20), (some (13, true))⟩, []⟩,
    ⟨⟨some 22, .mv (.s 21), (some (13, true))⟩, []⟩,
    ⟨⟨some 23, .fld 1 (.s 4), (some (22, false))⟩, []⟩,
    ⟨⟨some 24, .load false 1 (.s 23), (some (22, false))⟩, []⟩,
    ⟨⟨some 25, .load false 1 (.s 2), (some (22, false))⟩, []⟩,
    ⟨⟨some 26, .load false 1 (.s 3), (some (22, false))⟩, []⟩,
    ⟨⟨some 27, .int .sub (.s 25) (.s 26), (some (22, false))⟩, []⟩,
    ⟨⟨some 28, .int .leq (.s 24) (.s 27), (some (22, false))⟩, []⟩,
    ⟨⟨some 29, .pick (.s 22) (.c (.bool true)) (.s 28), (some (13, true))⟩, []⟩,
    ⟨⟨some 30, .pick (.s 13) (.s 29) (.c (.bool false)), none⟩, []⟩,
    ⟨⟨some 5, .mv (.s 30), none⟩, []⟩])
  .ret))⟩

/-- (*sumpter/loss.Ledger).take -/
def sf122 : SF :=
  ⟨2, 35, [.t 4],
  (.seq (.reg [⟨some 4, .mv (.c (.slice none 0 0)), none⟩])
  (.seq (.reg [⟨some 5, .mv (.c (.slice none 0 0)), none⟩,
    ⟨some 6, .mv (.c (.slice none 0 0)), none⟩])
  (.seq (.seq (.reg [⟨some 9, .mv (.s 0), none⟩,
    ⟨some 10, .nilc (.s 9), none⟩,
    ⟨some 11, .fld 0 (.s 10), none⟩,
    ⟨some 12, .load false 1 (.s 11), none⟩,
    ⟨some 13, .len (.s 12), none⟩,
    ⟨some 14, .mv (.c (.int .i64 0)), none⟩])
  (.block 0 (.loop (.seq (.reg [⟨some 15, .int .lss (.s 14) (.s 13), none⟩])
  (.seq (.cond (.s 15) .skip
  (.exit 0))
  (.seq (.block 1 (.seq (.reg [⟨some 16, .idx 4 (.s 12) (.s 14), none⟩,
    ⟨some 17, .load true 4 (.s 16), none⟩,
    ⟨some 8, .alloc (some 0) [.v (.int .i64 0), .v (.int .i64 0), .v (.int .i64 0), .v (.bool false)], none⟩,
    ⟨none, .store 4 (.s 8) (.s 17), none⟩])
  (.seq (.reg [⟨some 18, .mv (.s 1), none⟩,
    ⟨some 19, .load true 4 (.s 8), none⟩,
    ⟨some 20, .callv (.s 18) [(.s 19)], none⟩])
  (.cond (.s 20) (.reg [⟨some 21, .mv (.s 5), none⟩,
    ⟨some 22, .load true 4 (.s 8), none⟩,
    ⟨some 23, .bslice 4 [(.s 22)], none⟩,
    ⟨some 24, .app 4 32 (.s 21) (.s 23), none⟩,
    ⟨some 5, .mv (.s 24), none⟩])
  (.reg [⟨some 25, .mv (.s 6), none⟩,
    ⟨some 26, .load true 4 (.s 8), none⟩,
    ⟨some 27, .bslice 4 [(.s 26)], none⟩,
    ⟨some 28, .app 4 32 (.s 25) (.s 27), none⟩,
    ⟨some 6, .mv (.s 28), none⟩])))))
  (.reg [⟨some 29, .int .add (.s 14) (.c (.int .i64 1)), none⟩,
    ⟨some 14, .mv (.s 29), none⟩])))))))
  (.seq (.reg [⟨some 30, .mv (.s 0), none⟩,
    ⟨some 31, .mv (.s 6), none⟩,
    ⟨some 32, .nilc (.s 30), none⟩,
    ⟨some 33, .fld 0 (.s 32), none⟩,
    ⟨none, .store 1 (.s 33) (.s 31), none⟩])
  (.seq (.reg [⟨some 34, .mv (.s 5), none⟩,
    ⟨some 4, .mv (.s 34), none⟩])
  .ret)))))⟩

/-- (*sumpter/loss.Ledger).Next$1 -/
def sf123 : SF :=
  ⟨2, 11, [.t 3],
  (.seq (.reg [⟨some 2, .box (some 0) 4 (.s 0), none⟩,
    ⟨some 3, .mv (.c (.bool false)), none⟩])
  (.seq (.dreg [0, 1, 2, 3, 4, 5, 6, 7] [⟨⟨some 4, .fld 0 (.s 2), none⟩, []⟩,
    ⟨⟨some 5, .load false 1 (.s 4), none⟩, []⟩,
    ⟨⟨some 6, .load false 1 (.s 1), none⟩, []⟩,
    ⟨⟨some 7, .nilc (.s 6), none⟩, []⟩,
    ⟨⟨some 8, .fld 6 (.s 7), none⟩, []⟩,
    ⟨⟨some 9, .load false 1 (.s 8), none⟩, []⟩,
    ⟨⟨some 10, .int .lss (.s 5) (.s 9), none⟩, []⟩,
    ⟨⟨some 3, .mv (.s 10), none⟩, []⟩])
  .ret))⟩

/-- slices.IndexFunc[[]sumpter/loss.Packet,sumpter/loss.Packet] -/
def sf124 : SF :=
  ⟨2, 19, [.t 4],
  (.seq (.reg [⟨some 4, .mv (.c (.int .i64 0)), none⟩])
  (.seq (.seq (.reg [⟨some 6, .mv (.s 0), none⟩,
    ⟨some 7, .len (.s 6), none⟩,
    ⟨some 8, .mv (.c (.int .i64 0)), none⟩])
  (.block 0 (.loop (.seq (.reg [⟨some 9, .int .lss (.s 8) (.s 7), none⟩])
  (.seq (.cond (.s 9) .skip
  (.exit 0))
  (.seq (.block 1 (.seq (.reg [⟨some 10, .mv (.s 8), none⟩,
    ⟨some 5, .mv (.s 10), none⟩])
  (.seq (.reg [⟨some 11, .mv (.s 1), none⟩,
    ⟨some 12, .mv (.s 0), none⟩,
    ⟨some 13, .mv (.s 5), none⟩,
    ⟨some 14, .idx 4 (.s 12) (.s 13), none⟩,
    ⟨some 15, .load true 4 (.s 14), none⟩,
    ⟨some 16, .callv (.s 11) [(.s 15)], none⟩])
  (.cond (.s 16) (.seq (.reg [⟨some 17, .mv (.s 5), none⟩,
    ⟨some 4, .mv (.s 17), none⟩])
  .ret)
  .skip))))
  (.reg [⟨some 18, .int .add (.s 8) (.c (.int .i64 1)), none⟩,
    ⟨some 8, .mv (.s 18), none⟩])))))))
  (.seq (.reg [⟨some 4, .mv (.c (.int .i64 (-1))), none⟩])
  .ret)))⟩

/-- sumpter/ranges.Check -/
def sf125 : SF :=
  ⟨1, 34, [.t 2],
  (.seq (.reg [⟨some 2, .mv (.c (.int .i64 0)), none⟩])
  (.seq (.seq (.reg [⟨some 6, .mv (.s 0), none⟩,
    ⟨some 7, .len (.s 6), none⟩,
    ⟨some 8, .int .gtr (.s 7) (.c (.int .i64 64)), none⟩])
  (.cond (.s 8) (.seq (.reg [⟨some 2, .mv (.c (.int .i64 5)), none⟩])
  .ret)
  .skip))
  (.seq (.reg [⟨some 3, .mv (.c (.int .i64 (-2))), none⟩])
  (.seq (.seq (.reg [⟨some 9, .mv (.s 0), none⟩,
    ⟨some 10, .len (.s 9), none⟩,
    ⟨some 11, .mv (.c (.int .i64 0)), none⟩])
  (.block 0 (.loop (.seq (.reg [⟨some 12, .int .lss (.s 11) (.s 10), none⟩])
  (.seq (.cond (.s 12) .skip
  (.exit 0))
  (.seq (.block 1 (.seq (.reg [⟨some 13, .idx 2 (.s 9) (.s 11), none⟩,
    ⟨some 14, .load true 2 (.s 13), none⟩,
    ⟨some 5, .alloc (some 0) [.v (.int .i64 0), .v (.int .i64 0)], none⟩,
    ⟨none, .store 2 (.s 5) (.s 14), none⟩])
  (.seq (.seq (.reg [⟨some 15, .fld 0 (.s 5), none⟩,
    ⟨some 16, .load false 1 (.s 15), none⟩,
    ⟨some 17, .fld 1 (.s 5), none⟩,
    ⟨some 18, .load false 1 (.s 17), none⟩,
    ⟨some 19, .call 137 [(.s 16), (.s 18)], none⟩,
    ⟨some 20, .not (.s 19), none⟩,
    ⟨some 21, .mv (.s 20), none⟩,
    ⟨some 22, .fld 0 (.s 5), (some (21, false))⟩,
    ⟨some 23, .load false 1 (.s 22), (some (21, false))⟩,
    ⟨some 24, .mv (.s 3), (some (21, false))⟩,
    ⟨some 25, .int .add (.s 24) (.c (.int .i64 2)), (some (21, false))⟩,
    ⟨some 26, .int .lss (.s 23) (.s 25), (some (21, false))⟩,
    ⟨some 27, .pick (.s 21) (.c (.bool true)) (.s 26), none⟩])
  (.cond (.s 27) (.seq (.reg [⟨some 2, .mv (.c (.int .i64 4)), none⟩])
  .ret)
  .skip))
  (.reg [⟨some 28, .fld 1 (.s 5), none⟩,
    ⟨some 29, .load false 1 (.s 28), none⟩,
    ⟨some 3, .mv (.s 29), none⟩]))))
  (.reg [⟨some 30, .int .add (.s 11) (.c (.int .i64 1)), none⟩,
    ⟨some 11, .mv (.s 30), none⟩])))))))
  (.seq (.seq (.reg [⟨some 31, .mv (.s 0), none⟩,
    ⟨some 32, .len (.s 31), none⟩,
    ⟨some 33, .int .eql (.s 32) (.c (.int .i64 0)), none⟩])
  (.cond (.s 33) (.seq (.reg [⟨some 2, .mv (.c (.int .i64 4)), none⟩])
  .ret)
  .skip))
  (.seq (.reg [⟨some 2, .mv (.c (.int .i64 0)), none⟩])
  .ret))))))⟩

/-- (*sumpter/loss.Ledger).Ack$1 -/
def sf126 : SF :=
  ⟨2, 8, [.t 3],
  (.seq (.reg [⟨some 2, .box (some 0) 4 (.s 0), none⟩,
    ⟨some 3, .mv (.c (.bool false)), none⟩])
  (.seq (.reg [⟨some 4, .load false 1 (.s 1), none⟩,
    ⟨some 5, .fld 0 (.s 2), none⟩,
    ⟨some 6, .load false 1 (.s 5), none⟩,
    ⟨some 7, .call 138 [(.s 4), (.s 6)], none⟩,
    ⟨some 3, .mv (.s 7), none⟩])
  .ret))⟩

/-- slices.ContainsFunc[[]sumpter/loss.Packet,sumpter/loss.Packet] -/
def sf127 : SF :=
  ⟨2, 9, [.t 4],
  (.seq (.reg [⟨some 4, .mv (.c (.bool false)), none⟩])
  (.seq (.reg [⟨some 5, .mv (.s 0), none⟩,
    ⟨some 6, .mv (.s 1), none⟩,
    ⟨some 7, .call 124 [(.s 5), (.s 6)], none⟩,
    ⟨some 8, .int .geq (.s 7) (.c (.int .i64 0)), none⟩,
    ⟨some 4, .mv (.s 8), none⟩])
  .ret))⟩

/-- (*sumpter/loss.Ledger).Ack$2 -/
def sf128 : SF :=
  ⟨1, 5, [.t 2],
  (.seq (.reg [⟨some 1, .box (some 0) 4 (.s 0), none⟩,
    ⟨some 2, .mv (.c (.bool false)), none⟩])
  (.seq (.reg [⟨some 3, .fld 3 (.s 1), none⟩,
    ⟨some 4, .load false 1 (.s 3), none⟩,
    ⟨some 2, .mv (.s 4), none⟩])
  .ret))⟩

/-- (sumpter/sumpterref21.Ledger).Next -/
def sf129 : SF :=
  ⟨2, 49, [.t 4, .t 5],
  (.seq (.reg [⟨some 2, .box (some 0) 7 (.s 0), none⟩,
    ⟨some 4, .mv (.c (.int .i64 0)), none⟩,
    ⟨some 5, .mv (.c (.bool false)), none⟩])
  (.seq (.reg [⟨some 6, .mv (.c (.int .i64 0)), none⟩,
    ⟨some 7, .mv (.c (.bool false)), none⟩])
  (.seq (.seq (.reg [⟨some 8, .mv (.c (.int .i64 0)), none⟩])
  (.block 0 (.loop (.seq (.seq (.reg [⟨some 10, .mv (.s 8), none⟩,
    ⟨some 11, .fld 0 (.s 2), none⟩,
    ⟨some 12, .load false 1 (.s 11), none⟩,
    ⟨some 13, .len (.s 12), none⟩,
    ⟨some 14, .int .lss (.s 10) (.s 13), none⟩,
    ⟨some 15, .mv (.s 14), none⟩,
    ⟨some 16, .mv (.s 1), (some (15, true))⟩,
    ⟨some 17, .call 136 [(.s 16)], (some (15, true))⟩,
    ⟨some 18, .pick (.s 15) (.s 17) (.c (.bool false)), none⟩])
  (.cond (.s 18) .skip
  (.exit 0)))
  (.seq (.block 1 (.seq (.reg [⟨some 21, .fld 0 (.s 2), none⟩,
    ⟨some 22, .load false 1 (.s 21), none⟩,
    ⟨some 23, .mv (.s 8), none⟩,
    ⟨some 24, .idx 4 (.s 22) (.s 23), none⟩,
    ⟨some 25, .load true 4 (.s 24), none⟩,
    ⟨some 9, .alloc (some 1) [.v (.int .i64 0), .v (.int .i64 0), .v (.int .i64 0), .v (.bool false)], none⟩,
    ⟨none, .store 4 (.s 9) (.s 25), none⟩])
  (.seq (.reg [⟨some 26, .fld 0 (.s 9), none⟩,
    ⟨some 27, .load false 1 (.s 26), none⟩,
    ⟨some 28, .fld 6 (.s 2), none⟩,
    ⟨some 29, .load false 1 (.s 28), none⟩,
    ⟨some 30, .int .lss (.s 27) (.s 29), none⟩,
    ⟨some 31, .mv (.s 30), none⟩,
    ⟨some 32, .mv (.s 7), (some (31, true))⟩,
    ⟨some 33, .not (.s 32), (some (31, true))⟩,
    ⟨some 34, .mv (.s 33), (some (31, true))⟩,
    ⟨some 35, .fld 1 (.s 9), (some (34, false))⟩,
    ⟨some 36, .load false 1 (.s 35), (some (34, false))⟩,
    ⟨some 37, .mv (.s 1), (some (34, false))⟩,
    ⟨some 38, .int .add (.s 36) (.s 37), (some (34, false))⟩,
    ⟨some 39, .mv (.s 6), (some (34, false))⟩,
    ⟨some 40, .int .lss (.s 38) (.s 39), (some (34, false))⟩,
    ⟨some 41, .pick (.s 34) (.c (.bool true)) (.s 40), (some (31, true))⟩,
    ⟨some 42, .pick (.s 31) (.s 41) (.c (.bool false)), none⟩])
  (.cond (.s 42) (.reg [⟨some 43, .fld 1 (.s 9), none⟩,
    ⟨some 44, .load false 1 (.s 43), none⟩,
    ⟨some 45, .mv (.s 1), none⟩,
    ⟨some 46, .int .add (.s 44) (.s 45), none⟩,
    ⟨some 6, .mv (.s 46), none⟩,
    ⟨some 7, .mv (.c (.bool true)), none⟩])
  .skip))))
  (.reg [⟨some 19, .mv (.s 8), none⟩,
    ⟨some 20, .int .add (.s 19) (.c (.int .i64 1)), none⟩,
    ⟨some 8, .mv (.s 20), none⟩]))))))
  (.seq (.reg [⟨some 47, .mv (.s 6), none⟩,
    ⟨some 48, .mv (.s 7), none⟩,
    ⟨some 4, .mv (.s 47), none⟩,
    ⟨some 5, .mv (.s 48), none⟩])
  .ret))))⟩

/-- (sumpter/sumpterref21.Ledger).Oldest -/
def sf130 : SF :=
  ⟨1, 24, [.cell 2 true 4, .t 3],
  (.seq (.reg [⟨some 1, .box (some 0) 7 (.s 0), none⟩,
    ⟨some 2, .alloc (some 1) [.v (.int .i64 0), .v (.int .i64 0), .v (.int .i64 0), .v (.bool false)], none⟩,
    ⟨some 3, .mv (.c (.bool false)), none⟩])
  (.seq (.seq (.reg [⟨some 4, .mv (.c (.int .i64 0)), none⟩])
  (.block 0 (.loop (.seq (.seq (.reg [⟨some 5, .mv (.s 4), none⟩,
    ⟨some 6, .fld 0 (.s 1), none⟩,
    ⟨some 7, .load false 1 (.s 6), none⟩,
    ⟨some 8, .len (.s 7), none⟩,
    ⟨some 9, .int .lss (.s 5) (.s 8), none⟩])
  (.cond (.s 9) .skip
  (.exit 0)))
  (.seq (.block 1 (.seq (.reg [⟨some 12, .fld 0 (.s 1), none⟩,
    ⟨some 13, .load false 1 (.s 12), none⟩,
    ⟨some 14, .mv (.s 4), none⟩,
    ⟨some 15, .idx 4 (.s 13) (.s 14), none⟩,
    ⟨some 16, .fld 3 (.s 15), none⟩,
    ⟨some 17, .load false 1 (.s 16), none⟩])
  (.cond (.s 17) (.seq (.reg [⟨some 18, .fld 0 (.s 1), none⟩,
    ⟨some 19, .load false 1 (.s 18), none⟩,
    ⟨some 20, .mv (.s 4), none⟩,
    ⟨some 21, .idx 4 (.s 19) (.s 20), none⟩,
    ⟨some 22, .load true 4 (.s 21), none⟩,
    ⟨none, .store 4 (.s 2) (.s 22), none⟩,
    ⟨some 3, .mv (.c (.bool true)), none⟩])
  .ret)
  .skip)))
  (.reg [⟨some 10, .mv (.s 4), none⟩,
    ⟨some 11, .int .add (.s 10) (.c (.int .i64 1)), none⟩,
    ⟨some 4, .mv (.s 11), none⟩]))))))
  (.seq (.reg [⟨some 23, .build [.v (.int .i64 0), .v (.int .i64 0), .v (.int .i64 0), .v (.bool false)] [], none⟩,
    ⟨none, .store 4 (.s 2) (.s 23), none⟩,
    ⟨some 3, .mv (.c (.bool false)), none⟩])
  .ret)))⟩

/-- (sumpter/sumpterref21.Ledger).Flying -/
def sf131 : SF :=
  ⟨1, 27, [.t 2],
  (.seq (.reg [⟨some 1, .box (some 0) 7 (.s 0), none⟩,
    ⟨some 2, .mv (.c (.int .i64 0)), none⟩])
  (.seq (.reg [⟨some 3, .mv (.c (.int .i64 0)), none⟩])
  (.seq (.seq (.reg [⟨some 4, .mv (.c (.int .i64 0)), none⟩])
  (.block 0 (.loop (.seq (.seq (.reg [⟨some 5, .mv (.s 4), none⟩,
    ⟨some 6, .fld 0 (.s 1), none⟩,
    ⟨some 7, .load false 1 (.s 6), none⟩,
    ⟨some 8, .len (.s 7), none⟩,
    ⟨some 9, .int .lss (.s 5) (.s 8), none⟩])
  (.cond (.s 9) .skip
  (.exit 0)))
  (.seq (.block 1 (.seq (.reg [⟨some 12, .fld 0 (.s 1), none⟩,
    ⟨some 13, .load false 1 (.s 12), none⟩,
    ⟨some 14, .mv (.s 4), none⟩,
    ⟨some 15, .idx 4 (.s 13) (.s 14), none⟩,
    ⟨some 16, .fld 3 (.s 15), none⟩,
    ⟨some 17, .load false 1 (.s 16), none⟩])
  (.cond (.s 17) (.reg [⟨some 18, .mv (.s 3), none⟩,
    ⟨some 19, .fld 0 (.s 1), none⟩,
    ⟨some 20, .load false 1 (.s 19), none⟩,
    ⟨some 21, .mv (.s 4), none⟩,
    ⟨some 22, .idx 4 (.s 20) (.s 21), none⟩,
    ⟨some 23, .fld 2 (.s 22), none⟩,
    ⟨some 24, .load false 1 (.s 23), none⟩,
    ⟨some 25, .int .add (.s 18) (.s 24), none⟩,
    ⟨some 3, .mv (.s 25), none⟩])
  .skip)))
  (.reg [⟨some 10, .mv (.s 4), none⟩,
    ⟨some 11, .int .add (.s 10) (.c (.int .i64 1)), none⟩,
    ⟨some 4, .mv (.s 11), none⟩]))))))
  (.seq (.reg [⟨some 26, .mv (.s 3), none⟩,
    ⟨some 2, .mv (.s 26), none⟩])
  .ret))))⟩

/-- slices.Clone[[]sumpter/loss.Packet,sumpter/loss.Packet] -/
def sf132 : SF :=
  ⟨1, 8, [.t 2],
  (.seq (.reg [⟨some 2, .mv (.c (.slice none 0 0)), none⟩])
  (.seq (.seq (.reg [⟨some 3, .mv (.s 0), none⟩,
    ⟨some 4, .nd (.isnil false) [(.s 3)], none⟩])
  (.cond (.s 4) (.seq (.reg [⟨some 2, .mv (.c (.slice none 0 0)), none⟩])
  .ret)
  .skip))
  (.seq (.reg [⟨some 5, .bslice 4 [], none⟩,
    ⟨some 6, .mv (.s 0), none⟩,
    ⟨some 7, .app 4 32 (.s 5) (.s 6), none⟩,
    ⟨some 2, .mv (.s 7), none⟩])
  .ret)))⟩

/-- (*sumpter/loss.Ledger).Oldest$1 -/
def sf133 : SF :=
  ⟨1, 5, [.t 2],
  (.seq (.reg [⟨some 1, .box (some 0) 4 (.s 0), none⟩,
    ⟨some 2, .mv (.c (.bool false)), none⟩])
  (.seq (.reg [⟨some 3, .fld 3 (.s 1), none⟩,
    ⟨some 4, .load false 1 (.s 3), none⟩,
    ⟨some 2, .mv (.s 4), none⟩])
  .ret))⟩

/-- sumpter/sumpterref17.Check -/
def sf134 : SF :=
  ⟨1, 47, [.t 2],
  (.seq (.reg [⟨some 2, .mv (.c (.int .i64 0)), none⟩])
  (.seq (.seq (.reg [⟨some 4, .mv (.s 0), none⟩,
    ⟨some 5, .len (.s 4), none⟩,
    ⟨some 6, .int .gtr (.s 5) (.c (.int .i64 64)), none⟩])
  (.cond (.s 6) (.seq (.reg [⟨some 2, .mv (.c (.int .i64 5)), none⟩])
  .ret)
  .skip))
  (.seq (.seq (.reg [⟨some 3, .mv (.c (.int .i64 0)), none⟩])
  (.block 0 (.loop (.seq (.seq (.reg [⟨some 7, .mv (.s 3), none⟩,
    ⟨some 8, .mv (.s 0), none⟩,
    ⟨some 9, .len (.s 8), none⟩,
    ⟨some 10, .int .lss (.s 7) (.s 9), none⟩])
  (.cond (.s 10) .skip
  (.exit 0)))
  (.seq (.block 1 (.seq (.dreg [0, 1, 2, 3, 5, 6, 7, 8, 4, 9, 10, 11, 12, 13, 14, 15, 16, 17, 18, 19, 21, 22, 23, 24, 25, 20, 26, 27, 28, 29, 30] [⟨⟨some 13, .mv (.s 0), none⟩, []⟩,
    ⟨⟨some 14, .mv (.s 3), none⟩, []⟩,
    ⟨⟨some 15, .idx 2 (.s 13) (.s 14), none⟩, []⟩,
    ⟨⟨some 16, .fld 0 (.s 15), none⟩, []⟩,
    ⟨⟨some 18, .mv (.s 0), none⟩, []⟩,
    ⟨⟨some 19, .mv (.s 3), none⟩, []⟩,
    ⟨⟨some 20, .idx 2 (.s 18) (.s 19), none⟩, []⟩,
    ⟨⟨some 21, .fld 1 (.s 20), none⟩, []⟩,
    ⟨⟨some 17, .load false 1 (.s 16), none⟩, []⟩,
    ⟨⟨some 22, .load false 1 (.s 21), none⟩, []⟩,
    ⟨⟨some 23, .call 139 [(.s 17), (.s 22)], none⟩, []⟩,
    ⟨⟨some 24, .not (.s 23), none⟩, []⟩,
    ⟨⟨some 25, .mv (.s 24), none⟩, []⟩,
    ⟨⟨some 26, .mv (.s 3), (some (25, false))⟩, []⟩,
    ⟨⟨some 27, .int .gtr (.s 26) (.c (.int .i64 0)), (some (25, false))⟩, []⟩,
    ⟨⟨some 28, .mv (.s 27), (some (25, false))⟩, []⟩,
    ⟨⟨some 29, .mv (.s 0), (some (28, true))⟩, []⟩,
    ⟨⟨some 30, .mv (.s 3), (some (28, true))⟩, []⟩,
    ⟨⟨some 31, .idx 2 (.s 29) (.s 30), (some (28, true))⟩, []⟩,
    ⟨⟨some 32, .fld 0 (.s 31), (some (28, true))⟩, []⟩,
    ⟨⟨some 34, .mv (.s 0), (some (28, true))⟩, []⟩,
    ⟨⟨some 35, .mv (.s 3), (some (28, true))⟩, []⟩,
    ⟨⟨some 36, .int .sub (.s 35) (.c (.int .i64 1)), (some (28, true))⟩, []⟩,
    ⟨⟨some 37, .idx 2 (.s 34) (.s 36), (some (28, true))⟩, []⟩,
    ⟨⟨some 38, .fld 1 (.s 37), (some (28, true))⟩, []⟩,
    ⟨⟨some 33, .load false 1 (.s 32), (some (28, true))⟩, []⟩,
    ⟨⟨some 39, .load false 1 (.s 38), (some (28, true))⟩, []⟩,
    ⟨⟨some 40, .int .add (.s 39) (.c (.int .i64 2)), (some (28, true))⟩, []⟩,
    ⟨⟨some 41, .int .lss (.s 33) (.s 40), (some (28, true))⟩, []⟩,
    ⟨⟨some 42, .pick (.s 28) (.s 41) (.c (.bool false)), (some (25, false))⟩, []⟩,
    ⟨⟨some 43, .pick (.s 25) (.c (.bool true)) (.s 42), none⟩, []⟩])
  (.cond (.s 43) (.seq (.reg [⟨some 2, .mv (.c (.int .i64 4)), none⟩])
  .ret)
  .skip)))
  (.reg [⟨some 11, .mv (.s 3), none⟩,
    ⟨some 12, .int .add (.s 11) (.c (.int .i64 1)), none⟩,
    ⟨some 3, .mv (.s 12), none⟩]))))))
  (.seq (.seq (.reg [⟨some 44, .mv (.s 0), none⟩,
    ⟨some 45, .len (.s 44), none⟩,
    ⟨some 46, .int .eql (.s 45) (.c (.int .i64 0)), none⟩])
  (.cond (.s 46) (.seq (.reg [⟨some 2, .mv (.c (.int .i64 4)), none⟩])
  .ret)
  .skip))
  (.seq (.reg [⟨some 2, .mv (.c (.int .i64 0)), none⟩])
  .ret)))))⟩

/-- (sumpter/sumpterref17.Set).Has -/
def sf135 : SF :=
  ⟨2, 31, [.t 4],
  (.seq (.reg [⟨some 2, .box (some 0) 1 (.s 0), none⟩,
    ⟨some 4, .mv (.c (.bool false)), none⟩])
  (.seq (.seq (.reg [⟨some 5, .mv (.c (.int .i64 0)), none⟩])
  (.block 0 (.loop (.seq (.seq (.reg [⟨some 6, .mv (.s 5), none⟩,
    ⟨some 7, .fld 0 (.s 2), none⟩,
    ⟨some 8, .load false 1 (.s 7), none⟩,
    ⟨some 9, .len (.s 8), none⟩,
    ⟨some 10, .int .lss (.s 6) (.s 9), none⟩])
  (.cond (.s 10) .skip
  (.exit 0)))
  (.seq (.block 1 (.seq (.reg [⟨some 13, .fld 0 (.s 2), none⟩,
    ⟨some 14, .load false 1 (.s 13), none⟩,
    ⟨some 15, .mv (.s 5), none⟩,
    ⟨some 16, .idx 2 (.s 14) (.s 15), none⟩,
    ⟨some 17, .fld 0 (.s 16), none⟩,
    ⟨some 18, .load false 1 (.s 17), none⟩,
    ⟨some 19, .mv (.s 1), none⟩,
    ⟨some 20, .int .leq (.s 18) (.s 19), none⟩,
    ⟨some 21, .mv (.s 20), none⟩,
    ⟨some 22, .mv (.s 1), (some (21, true))⟩,
    ⟨some 23, .fld 0 (.s 2), (some (21, true))⟩,
    ⟨some 24, .load false 1 (.s 23), (some (21, true))⟩,
    ⟨some 25, .mv (.s 5), (some (21, true))⟩,
    ⟨some 26, .idx 2 (.s 24) (.s 25), (some (21, true))⟩,
    ⟨some 27, .fld 1 (.s 26), (some (21, true))⟩,
    ⟨some 28, .load false 1 (.s 27), (some (21, true))⟩,
    ⟨some 29, .int .leq (.s 22) (.s 28), (some (21, true))⟩,
    ⟨some 30, .pick (.s 21) (.s 29) (.c (.bool false)), none⟩])
  (.cond (.s 30) (.seq (.reg [⟨some 4, .mv (.c (.bool true)), none⟩])
  .ret)
  .skip)))
  (.reg [⟨some 11, .mv (.s 5), none⟩,
    ⟨some 12, .int .add (.s 11) (.c (.int .i64 1)), none⟩,
    ⟨some 5, .mv (.s 12), none⟩]))))))
  (.seq (.reg [⟨some 4, .mv (.c (.bool false)), none⟩])
  .ret)))⟩

/-- sumpter/sumpterref21.time -/
def sf136 : SF :=
  ⟨1, 9, [.t 2],
  (.seq (.reg [⟨some 2, .mv (.c (.bool false)), none⟩])
  (.seq (.reg [⟨some 3, .mv (.s 0), none⟩,
    ⟨some 4, .int .geq (.s 3) (.c (.int .i64 0)), none⟩,
    ⟨some 5, .mv (.s 4), none⟩,
    ⟨some 6, .mv (.s 0), (some (5, true))⟩,
    ⟨some 7, .int .leq (.s 6) (.c (.int .i64 1099511627776)), (some (5, true))⟩,
    ⟨some 8, .pick (.s 5) (.s 7) (.c (.bool false)), none⟩,
    ⟨some 2, .mv (.s 8), none⟩])
  .ret))⟩

/-- sumpter/ranges.may -/
def sf137 : SF :=
  ⟨2, 16, [.t 4],
  (.seq (.reg [⟨some 4, .mv (.c (.bool false)), none⟩])
  (.seq (.reg [⟨some 5, .mv (.s 0), none⟩,
    ⟨some 6, .int .geq (.s 5) (.c (.int .i64 0)), none⟩,
    ⟨some 7, .mv (.s 6), none⟩,
    ⟨some 8, .mv (.s 0), (some (7, true))⟩,
    ⟨some 9, .mv (.s 1), (some (7, true))⟩,
    ⟨some 10, .int .leq (.s 8) (.s 9), (some (7, true))⟩,
    ⟨some 11, .pick (.s 7) (.s 10) (.c (.bool false)), none⟩,
    ⟨some 12, .mv (.s 11), none⟩,
    ⟨some 13, .mv (.s 1), (some (12, true))⟩,
    ⟨some 14, .int .leq (.s 13) (.c (.int .i64 1099511627776)), (some (12, true))⟩,
    ⟨some 15, .pick (.s 12) (.s 14) (.c (.bool false)), none⟩,
    ⟨some 4, .mv (.s 15), none⟩])
  .ret))⟩

/-- sumpter/loss.in -/
def sf138 : SF :=
  ⟨2, 8, [.t 4],
  (.seq (.reg [⟨some 3, .box none 1 (.s 1), none⟩,
    ⟨some 4, .mv (.c (.bool false)), none⟩])
  (.seq (.reg [⟨some 5, .mv (.s 0), none⟩,
    ⟨some 6, .mkfn 140 [(.s 3)], none⟩,
    ⟨some 7, .call 141 [(.s 5), (.s 6)], none⟩,
    ⟨some 4, .mv (.s 7), none⟩])
  .ret))⟩

/-- sumpter/sumpterref17.May -/
def sf139 : SF :=
  ⟨2, 16, [.t 4],
  (.seq (.reg [⟨some 4, .mv (.c (.bool false)), none⟩])
  (.seq (.reg [⟨some 5, .mv (.s 0), none⟩,
    ⟨some 6, .int .geq (.s 5) (.c (.int .i64 0)), none⟩,
    ⟨some 7, .mv (.s 6), none⟩,
    ⟨some 8, .mv (.s 0), (some (7, true))⟩,
    ⟨some 9, .mv (.s 1), (some (7, true))⟩,
    ⟨some 10, .int .leq (.s 8) (.s 9), (some (7, true))⟩,
    ⟨some 11, .pick (.s 7) (.s 10) (.c (.bool false)), none⟩,
    ⟨some 12, .mv (.s 11), none⟩,
    ⟨some 13, .mv (.s 1), (some (12, true))⟩,
    ⟨some 14, .int .leq (.s 13) (.c (.int .i64 1099511627776)), (some (12, true))⟩,
    ⟨some 15, .pick (.s 12) (.s 14) (.c (.bool false)), none⟩,
    ⟨some 4, .mv (.s 15), none⟩])
  .ret))⟩

/-- sumpter/loss.in$1 -/
def sf140 : SF :=
  ⟨2, 14, [.t 3],
  (.seq (.reg [⟨some 2, .box (some 0) 2 (.s 0), none⟩,
    ⟨some 3, .mv (.c (.bool false)), none⟩])
  (.seq (.reg [⟨some 4, .fld 0 (.s 2), none⟩,
    ⟨some 5, .load false 1 (.s 4), none⟩,
    ⟨some 6, .load false 1 (.s 1), none⟩,
    ⟨some 7, .int .leq (.s 5) (.s 6), none⟩,
    ⟨some 8, .mv (.s 7), none⟩,
    ⟨some 9, .load false 1 (.s 1), (some (8, true))⟩,
    ⟨some 10, .fld 1 (.s 2), (some (8, true))⟩,
    ⟨some 11, .load false 1 (.s 10), (some (8, true))⟩,
    ⟨some 12, .int .leq (.s 9) (.s 11), (some (8, true))⟩,
    ⟨some 13, .pick (.s 8) (.s 12) (.c (.bool false)), none⟩,
    ⟨some 3, .mv (.s 13), none⟩])
  .ret))⟩

/-- slices.ContainsFunc[[]sumpter/api.Span,sumpter/api.Span] -/
def sf141 : SF :=
  ⟨2, 9, [.t 4],
  (.seq (.reg [⟨some 4, .mv (.c (.bool false)), none⟩])
  (.seq (.reg [⟨some 5, .mv (.s 0), none⟩,
    ⟨some 6, .mv (.s 1), none⟩,
    ⟨some 7, .call 142 [(.s 5), (.s 6)], none⟩,
    ⟨some 8, .int .geq (.s 7) (.c (.int .i64 0)), none⟩,
    ⟨some 4, .mv (.s 8), none⟩])
  .ret))⟩

/-- slices.IndexFunc[[]sumpter/api.Span,sumpter/api.Span] -/
def sf142 : SF :=
  ⟨2, 19, [.t 4],
  (.seq (.reg [⟨some 4, .mv (.c (.int .i64 0)), none⟩])
  (.seq (.seq (.reg [⟨some 6, .mv (.s 0), none⟩,
    ⟨some 7, .len (.s 6), none⟩,
    ⟨some 8, .mv (.c (.int .i64 0)), none⟩])
  (.block 0 (.loop (.seq (.reg [⟨some 9, .int .lss (.s 8) (.s 7), none⟩])
  (.seq (.cond (.s 9) .skip
  (.exit 0))
  (.seq (.block 1 (.seq (.reg [⟨some 10, .mv (.s 8), none⟩,
    ⟨some 5, .mv (.s 10), none⟩])
  (.seq (.reg [⟨some 11, .mv (.s 1), none⟩,
    ⟨some 12, .mv (.s 0), none⟩,
    ⟨some 13, .mv (.s 5), none⟩,
    ⟨some 14, .idx 2 (.s 12) (.s 13), none⟩,
    ⟨some 15, .load true 2 (.s 14), none⟩,
    ⟨some 16, .callv (.s 11) [(.s 15)], none⟩])
  (.cond (.s 16) (.seq (.reg [⟨some 17, .mv (.s 5), none⟩,
    ⟨some 4, .mv (.s 17), none⟩])
  .ret)
  .skip))))
  (.reg [⟨some 18, .int .add (.s 8) (.c (.int .i64 1)), none⟩,
    ⟨some 8, .mv (.s 18), none⟩])))))))
  (.seq (.reg [⟨some 4, .mv (.c (.int .i64 (-1))), none⟩])
  .ret)))⟩

/-- sumpter/sumpterlaw21.LossNext -/
def sf143 : SF :=
  ⟨2, 80, [.t 4],
  (.seq (.reg [⟨some 4, .mv (.c (.bool false)), none⟩])
  (.seq (.seq (.reg [⟨some 11, .mv (.s 0), none⟩,
    ⟨some 12, .call 101 [(.s 11)], none⟩,
    ⟨some 13, .not (.s 12), none⟩])
  (.cond (.s 13) (.seq (.reg [⟨some 14, .call 102 [], none⟩,
    ⟨some 4, .mv (.s 14), none⟩])
  .ret)
  .skip))
  (.seq (.reg [⟨some 15, .call 103 [], none⟩,
    ⟨some 16, .call 104 [], none⟩,
    ⟨some 6, .alloc (some 0) [.v (.slice none 0 0), .v (.int .i64 0), .v (.int .i64 0), .v (.int .i64 0), .v (.int .i64 0), .v (.bool false), .v (.int .i64 0)], none⟩,
    ⟨some 5, .mv (.s 15), none⟩,
    ⟨none, .store 7 (.s 6) (.s 16), none⟩])
  (.seq (.seq (.reg [⟨some 7, .mv (.c (.int .i64 0)), none⟩])
  (.block 0 (.loop (.seq (.seq (.reg [⟨some 17, .mv (.s 7), none⟩,
    ⟨some 18, .mv (.s 0), none⟩,
    ⟨some 19, .len (.s 18), none⟩,
    ⟨some 20, .int .lss (.s 17) (.s 19), none⟩])
  (.cond (.s 20) .skip
  (.exit 0)))
  (.seq (.block 1 (.dreg [0, 2, 3, 4, 1, 5, 6, 7, 8, 9, 10] [⟨⟨some 24, .mv (.s 5), none⟩, []⟩,
    ⟨⟨some 26, .mv (.s 0), none⟩, []⟩,
    ⟨⟨some 27, .mv (.s 7), none⟩, []⟩,
    ⟨⟨some 28, .idx 8 (.s 26) (.s 27), none⟩, []⟩,
    ⟨⟨some 25, .load true 7 (.s 6), none⟩, []⟩,
    ⟨⟨some 29, .load true 8 (.s 28), none⟩, []⟩,
    ⟨⟨some 30, .call 105 [(.s 24), (.s 25), (.s 29)], none⟩, []⟩,
    ⟨⟨some 23, .mv (.s 30), none⟩, []⟩,
    ⟨⟨some 31, .ext (.s 23) 0, none⟩, []⟩,
    ⟨⟨some 32, .ext (.s 23) 1, none⟩, []⟩,
    ⟨⟨none, .store 7 (.s 6) (.s 31), none⟩, []⟩]))
  (.reg [⟨some 21, .mv (.s 7), none⟩,
    ⟨some 22, .int .add (.s 21) (.c (.int .i64 1)), none⟩,
    ⟨some 7, .mv (.s 22), none⟩]))))))
  (.seq (.reg [⟨some 33, .mv (.s 1), none⟩,
    ⟨some 34, .conv .i64 (.s 33), none⟩,
    ⟨some 35, .int .rem (.s 34) (.c (.int .i64 1048576)), none⟩,
    ⟨some 8, .mv (.s 35), none⟩])
  (.seq (.reg [⟨some 36, .mv (.s 5), none⟩,
    ⟨some 37, .call 106 [(.s 36), (.c (.int .i64 0)), (.c (.int .i64 1099511627776))], none⟩])
  (.seq (.reg [⟨some 39, .mv (.s 5), none⟩,
    ⟨some 40, .mv (.s 8), none⟩,
    ⟨some 41, .call 107 [(.s 39), (.s 40)], none⟩,
    ⟨some 38, .mv (.s 41), none⟩,
    ⟨some 42, .ext (.s 38) 0, none⟩,
    ⟨some 43, .ext (.s 38) 1, none⟩,
    ⟨some 9, .mv (.s 42), none⟩,
    ⟨some 10, .mv (.s 43), none⟩])
  (.seq (.seq (.reg [⟨some 44, .mv (.s 10), none⟩,
    ⟨some 45, .not (.s 44), none⟩])
  (.cond (.s 45) (.seq (.reg [⟨some 46, .mv (.s 5), none⟩,
    ⟨some 47, .eq .ptr true (.s 46) (.c (.pointer none)), none⟩,
    ⟨some 48, .mv (.s 47), none⟩,
    ⟨some 49, .mv (.s 5), (some (48, true))⟩,
    ⟨some 50, .call 106 [(.s 49), (.c (.int .i64 1099511627776)), (.c (.int .i64 0))], (some (48, true))⟩,
    ⟨some 51, .len (.s 50), (some (48, true))⟩,
    ⟨some 52, .int .eql (.s 51) (.c (.int .i64 0)), (some (48, true))⟩,
    ⟨some 53, .pick (.s 48) (.s 52) (.c (.bool false)), none⟩,
    ⟨some 54, .mv (.s 53), none⟩,
    ⟨some 55, .call 102 [], (some (54, true))⟩,
    ⟨some 56, .pick (.s 54) (.s 55) (.c (.bool false)), none⟩,
    ⟨some 4, .mv (.s 56), none⟩])
  .ret)
  .skip))
  (.seq (.seq (.reg [⟨some 57, .mv (.s 9), none⟩,
    ⟨some 58, .int .gtr (.s 57) (.c (.int .i64 1099511627776)), none⟩])
  (.cond (.s 58) (.seq (.reg [⟨some 59, .call 102 [], none⟩,
    ⟨some 4, .mv (.s 59), none⟩])
  .ret)
  .skip))
  (.seq (.seq (.reg [⟨some 60, .mv (.s 9), none⟩,
    ⟨some 61, .int .gtr (.s 60) (.c (.int .i64 0)), none⟩,
    ⟨some 62, .mv (.s 61), none⟩,
    ⟨some 63, .mv (.s 5), (some (62, true))⟩,
    ⟨some 64, .mv (.s 9), (some (62, true))⟩,
    ⟨some 65, .int .sub (.s 64) (.c (.int .i64 1)), (some (62, true))⟩,
    ⟨some 66, .mv (.s 8), (some (62, true))⟩,
    ⟨some 67, .call 106 [(.s 63), (.s 65), (.s 66)], (some (62, true))⟩,
    ⟨some 68, .len (.s 67), (some (62, true))⟩,
    ⟨some 69, .int .neq (.s 68) (.c (.int .i64 0)), (some (62, true))⟩,
    ⟨some 70, .pick (.s 62) (.s 69) (.c (.bool false)), none⟩])
  (.cond (.s 70) (.seq (.reg [⟨some 4, .mv (.c (.bool false)), none⟩])
  .ret)
  .skip))
  (.seq (.reg [⟨some 71, .mv (.s 5), none⟩,
    ⟨some 72, .mv (.s 9), none⟩,
    ⟨some 73, .mv (.s 8), none⟩,
    ⟨some 74, .call 106 [(.s 71), (.s 72), (.s 73)], none⟩,
    ⟨some 75, .len (.s 74), none⟩,
    ⟨some 76, .int .gtr (.s 75) (.c (.int .i64 0)), none⟩,
    ⟨some 77, .mv (.s 76), none⟩,
    ⟨some 78, .call 102 [], (some (77, true))⟩,
    ⟨some 79, .pick (.s 77) (.s 78) (.c (.bool false)), none⟩,
    ⟨some 4, .mv (.s 79), none⟩])
  .ret)))))))))))⟩

/-- sumpter/sumpterlaw21.LossOnce -/
def sf144 : SF :=
  ⟨1, 132, [.t 2],
  (.seq (.reg [⟨some 2, .mv (.c (.bool false)), none⟩])
  (.seq (.seq (.reg [⟨some 14, .mv (.s 0), none⟩,
    ⟨some 15, .call 101 [(.s 14)], none⟩,
    ⟨some 16, .not (.s 15), none⟩])
  (.cond (.s 16) (.seq (.reg [⟨some 17, .call 102 [], none⟩,
    ⟨some 2, .mv (.s 17), none⟩])
  .ret)
  .skip))
  (.seq (.reg [⟨some 18, .call 103 [], none⟩,
    ⟨some 3, .mv (.s 18), none⟩])
  (.seq (.reg [⟨some 4, .mv (.c (.slice none 0 0)), none⟩,
    ⟨some 5, .mv (.c (.slice none 0 0)), none⟩])
  (.seq (.seq (.reg [⟨some 6, .mv (.c (.int .i64 0)), none⟩])
  (.block 0 (.loop (.seq (.seq (.reg [⟨some 19, .mv (.s 6), none⟩,
    ⟨some 20, .mv (.s 0), none⟩,
    ⟨some 21, .len (.s 20), none⟩,
    ⟨some 22, .int .lss (.s 19) (.s 21), none⟩])
  (.cond (.s 22) .skip
  (.exit 0)))
  (.seq (.block 1 (.seq (.reg [⟨some 25, .mv (.s 0), none⟩,
    ⟨some 26, .mv (.s 6), none⟩,
    ⟨some 27, .idx 8 (.s 25) (.s 26), none⟩,
    ⟨some 28, .load true 8 (.s 27), none⟩,
    ⟨some 7, .alloc (some 0) [.v (.int .u8 0), .v (.int .i64 0), .v (.int .i64 0), .v (.int .i64 0), .v (.bool false), .v (.slice none 0 0), .v (.int .i64 0), .v (.int .i64 0)], none⟩,
    ⟨none, .store 8 (.s 7) (.s 28), none⟩])
  (.seq (.reg [⟨some 8, .mv (.c (.slice none 0 0)), none⟩])
  (.seq (.seq (.reg [⟨some 29, .fld 0 (.s 7), none⟩,
    ⟨some 30, .load false 1 (.s 29), none⟩,
    ⟨some 31, .int .rem (.s 30) (.c (.int .u8 5)), none⟩])
  (.block 2 (.seq (.reg [⟨some 44, .int .eql (.s 31) (.c (.int .u8 3)), none⟩,
    ⟨some 43, .mv (.s 44), none⟩])
  (.cond (.s 43) (.reg [⟨some 46, .mv (.s 3), none⟩,
    ⟨some 47, .fld 5 (.s 7), none⟩,
    ⟨some 48, .load false 1 (.s 47), none⟩,
    ⟨some 49, .fld 6 (.s 7), none⟩,
    ⟨some 50, .load false 1 (.s 49), none⟩,
    ⟨some 51, .call 108 [(.s 46), (.s 48), (.s 50)], none⟩,
    ⟨some 45, .mv (.s 51), none⟩,
    ⟨some 52, .ext (.s 45) 0, none⟩,
    ⟨some 53, .ext (.s 45) 1, none⟩,
    ⟨some 54, .ext (.s 45) 2, none⟩,
    ⟨some 55, .ext (.s 45) 3, none⟩,
    ⟨some 8, .mv (.s 52), none⟩])
  (.seq (.reg [⟨some 57, .int .eql (.s 31) (.c (.int .u8 4)), none⟩,
    ⟨some 56, .mv (.s 57), none⟩])
  (.cond (.s 56) (.reg [⟨some 58, .mv (.s 3), none⟩,
    ⟨some 59, .fld 6 (.s 7), none⟩,
    ⟨some 60, .load false 1 (.s 59), none⟩,
    ⟨some 61, .fld 7 (.s 7), none⟩,
    ⟨some 62, .load false 1 (.s 61), none⟩,
    ⟨some 63, .call 106 [(.s 58), (.s 60), (.s 62)], none⟩,
    ⟨some 8, .mv (.s 63), none⟩])
  (.seq (.reg [⟨some 32, .mv (.s 3), none⟩,
    ⟨some 33, .fld 1 (.s 7), none⟩,
    ⟨some 34, .load true 4 (.s 33), none⟩,
    ⟨some 35, .call 109 [(.s 32), (.s 34)], none⟩,
    ⟨some 36, .int .eql (.s 35) (.c (.int .i64 0)), none⟩])
  (.cond (.s 36) (.reg [⟨some 37, .mv (.s 4), none⟩,
    ⟨some 38, .fld 1 (.s 7), none⟩,
    ⟨some 39, .fld 0 (.s 38), none⟩,
    ⟨some 40, .load false 1 (.s 39), none⟩,
    ⟨some 41, .bslice 1 [(.s 40)], none⟩,
    ⟨some 42, .app 1 8 (.s 37) (.s 41), none⟩,
    ⟨some 4, .mv (.s 42), none⟩])
  .skip))))))))
  (.seq (.reg [⟨some 9, .mv (.c (.int .i64 0)), none⟩])
  (.block 3 (.loop (.seq (.seq (.reg [⟨some 64, .mv (.s 9), none⟩,
    ⟨some 65, .mv (.s 8), none⟩,
    ⟨some 66, .len (.s 65), none⟩,
    ⟨some 67, .int .lss (.s 64) (.s 66), none⟩])
  (.cond (.s 67) .skip
  (.exit 3)))
  (.seq (.block 4 (.reg [⟨some 70, .mv (.s 5), none⟩,
    ⟨some 71, .mv (.s 8), none⟩,
    ⟨some 72, .mv (.s 9), none⟩,
    ⟨some 73, .idx 4 (.s 71) (.s 72), none⟩,
    ⟨some 74, .fld 0 (.s 73), none⟩,
    ⟨some 75, .load false 1 (.s 74), none⟩,
    ⟨some 76, .bslice 1 [(.s 75)], none⟩,
    ⟨some 77, .app 1 8 (.s 70) (.s 76), none⟩,
    ⟨some 5, .mv (.s 77), none⟩]))
  (.reg [⟨some 68, .mv (.s 9), none⟩,
    ⟨some 69, .int .add (.s 68) (.c (.int .i64 1)), none⟩,
    ⟨some 9, .mv (.s 69), none⟩]))))))))))
  (.reg [⟨some 23, .mv (.s 6), none⟩,
    ⟨some 24, .int .add (.s 23) (.c (.int .i64 1)), none⟩,
    ⟨some 6, .mv (.s 24), none⟩]))))))
  (.seq (.seq (.reg [⟨some 10, .mv (.c (.int .i64 0)), none⟩])
  (.block 5 (.loop (.seq (.seq (.reg [⟨some 78, .mv (.s 10), none⟩,
    ⟨some 79, .mv (.s 5), none⟩,
    ⟨some 80, .len (.s 79), none⟩,
    ⟨some 81, .int .lss (.s 78) (.s 80), none⟩])
  (.cond (.s 81) .skip
  (.exit 5)))
  (.seq (.block 6 (.seq (.reg [⟨some 11, .mv (.c (.int .i64 0)), none⟩])
  (.seq (.seq (.reg [⟨some 12, .mv (.c (.int .i64 0)), none⟩])
  (.block 7 (.loop (.seq (.seq (.reg [⟨some 84, .mv (.s 12), none⟩,
    ⟨some 85, .mv (.s 4), none⟩,
    ⟨some 86, .len (.s 85), none⟩,
    ⟨some 87, .int .lss (.s 84) (.s 86), none⟩])
  (.cond (.s 87) .skip
  (.exit 7)))
  (.seq (.block 8 (.seq (.dreg [0, 1, 2, 4, 5, 6, 3, 7, 8] [⟨⟨some 90, .mv (.s 4), none⟩, []⟩,
    ⟨⟨some 91, .mv (.s 12), none⟩, []⟩,
    ⟨⟨some 92, .idx 1 (.s 90) (.s 91), none⟩, []⟩,
    ⟨⟨some 94, .mv (.s 5), none⟩, []⟩,
    ⟨⟨some 95, .mv (.s 10), none⟩, []⟩,
    ⟨⟨some 96, .idx 1 (.s 94) (.s 95), none⟩, []⟩,
    ⟨⟨some 93, .load false 1 (.s 92), none⟩, []⟩,
    ⟨⟨some 97, .load false 1 (.s 96), none⟩, []⟩,
    ⟨⟨some 98, .int .eql (.s 93) (.s 97), none⟩, []⟩])
  (.cond (.s 98) (.reg [⟨some 99, .mv (.s 11), none⟩,
    ⟨some 100, .int .add (.s 99) (.c (.int .i64 1)), none⟩,
    ⟨some 11, .mv (.s 100), none⟩])
  .skip)))
  (.reg [⟨some 88, .mv (.s 12), none⟩,
    ⟨some 89, .int .add (.s 88) (.c (.int .i64 1)), none⟩,
    ⟨some 12, .mv (.s 89), none⟩]))))))
  (.seq (.seq (.reg [⟨some 13, .mv (.c (.int .i64 0)), none⟩])
  (.block 9 (.loop (.seq (.seq (.reg [⟨some 101, .mv (.s 13), none⟩,
    ⟨some 102, .mv (.s 10), none⟩,
    ⟨some 103, .int .lss (.s 101) (.s 102), none⟩])
  (.cond (.s 103) .skip
  (.exit 9)))
  (.seq (.block 10 (.seq (.dreg [0, 1, 2, 4, 5, 6, 3, 7, 8] [⟨⟨some 106, .mv (.s 5), none⟩, []⟩,
    ⟨⟨some 107, .mv (.s 13), none⟩, []⟩,
    ⟨⟨some 108, .idx 1 (.s 106) (.s 107), none⟩, []⟩,
    ⟨⟨some 110, .mv (.s 5), none⟩, []⟩,
    ⟨⟨some 111, .mv (.s 10), none⟩, []⟩,
    ⟨⟨some 112, .idx 1 (.s 110) (.s 111), none⟩, []⟩,
    ⟨⟨some 109, .load false 1 (.s 108), none⟩, []⟩,
    ⟨⟨some 113, .load false 1 (.s 112), none⟩, []⟩,
    ⟨⟨some 114, .int .eql (.s 109) (.s 113), none⟩, []⟩])
  (.cond (.s 114) (.seq (.reg [⟨some 2, .mv (.c (.bool false)), none⟩])
  .ret)
  .skip)))
  (.reg [⟨some 104, .mv (.s 13), none⟩,
    ⟨some 105, .int .add (.s 104) (.c (.int .i64 1)), none⟩,
    ⟨some 13, .mv (.s 105), none⟩]))))))
  (.seq (.reg [⟨some 115, .mv (.s 11), none⟩,
    ⟨some 116, .int .neq (.s 115) (.c (.int .i64 1)), none⟩])
  (.cond (.s 116) (.seq (.reg [⟨some 2, .mv (.c (.bool false)), none⟩])
  .ret)
  .skip))))))
  (.reg [⟨some 82, .mv (.s 10), none⟩,
    ⟨some 83, .int .add (.s 82) (.c (.int .i64 1)), none⟩,
    ⟨some 10, .mv (.s 83), none⟩]))))))
  (.seq (.reg [⟨some 117, .mv (.s 3), none⟩,
    ⟨some 118, .eq .ptr true (.s 117) (.c (.pointer none)), none⟩,
    ⟨some 119, .mv (.s 118), none⟩,
    ⟨some 120, .mv (.s 3), (some (119, true))⟩,
    ⟨some 121, .call 110 [(.s 120)], (some (119, true))⟩,
    ⟨some 122, .mv (.s 4), (some (119, true))⟩,
    ⟨some 123, .len (.s 122), (some (119, true))⟩,
    ⟨some 124, .mv (.s 5), (some (119, true))⟩,
    ⟨some 125, .len (.s 124), (some (119, true))⟩,
    ⟨some 126, .int .sub (.s 123) (.s 125), (some (119, true))⟩,
    ⟨some 127, .int .eql (.s 121) (.s 126), (some (119, true))⟩,
    ⟨some 128, .pick (.s 119) (.s 127) (.c (.bool false)), none⟩,
    ⟨some 129, .mv (.s 128), none⟩,
    ⟨some 130, .call 102 [], (some (129, true))⟩,
    ⟨some 131, .pick (.s 129) (.s 130) (.c (.bool false)), none⟩,
    ⟨some 2, .mv (.s 131), none⟩])
  .ret)))))))⟩

/-- sumpter/sumpterlaw21.LossThree -/
def sf145 : SF :=
  ⟨3, 119, [.t 6],
  (.seq (.reg [⟨some 6, .mv (.c (.bool false)), none⟩])
  (.seq (.reg [⟨some 19, .mv (.s 0), none⟩,
    ⟨some 20, .conv .i64 (.s 19), none⟩,
    ⟨some 21, .int .rem (.s 20) (.c (.int .i64 60)), none⟩,
    ⟨some 22, .int .add (.c (.int .i64 1)) (.s 21), none⟩,
    ⟨some 7, .mv (.s 22), none⟩])
  (.seq (.reg [⟨some 23, .mv (.s 1), none⟩,
    ⟨some 24, .conv .i64 (.s 23), none⟩,
    ⟨some 25, .mv (.s 7), none⟩,
    ⟨some 26, .int .rem (.s 24) (.s 25), none⟩,
    ⟨some 8, .mv (.s 26), none⟩])
  (.seq (.reg [⟨some 27, .mv (.s 2), none⟩,
    ⟨some 28, .conv .i64 (.s 27), none⟩,
    ⟨some 29, .int .rem (.s 28) (.c (.int .i64 1000)), none⟩,
    ⟨some 30, .int .add (.c (.int .i64 1)) (.s 29), none⟩,
    ⟨some 9, .mv (.s 30), none⟩])
  (.seq (.reg [⟨some 31, .call 103 [], none⟩,
    ⟨some 10, .mv (.s 31), none⟩])
  (.seq (.seq (.reg [⟨some 11, .mv (.c (.int .i64 0)), none⟩])
  (.block 0 (.loop (.seq (.seq (.reg [⟨some 32, .mv (.s 11), none⟩,
    ⟨some 33, .mv (.s 7), none⟩,
    ⟨some 34, .int .lss (.s 32) (.s 33), none⟩])
  (.cond (.s 34) .skip
  (.exit 0)))
  (.seq (.block 1 (.seq (.reg [⟨some 37, .mv (.s 10), none⟩,
    ⟨some 38, .mv (.s 11), none⟩,
    ⟨some 39, .build [.v (.int .i64 0), .v (.int .i64 0), .v (.int .i64 0), .v (.bool false)] [(0, 1, (.s 38)), (1, 1, (.c (.int .i64 5))), (2, 1, (.c (.int .i64 10))), (3, 1, (.c (.bool true)))], none⟩,
    ⟨some 40, .call 109 [(.s 37), (.s 39)], none⟩,
    ⟨some 41, .int .neq (.s 40) (.c (.int .i64 0)), none⟩])
  (.cond (.s 41) (.seq (.reg [⟨some 6, .mv (.c (.bool false)), none⟩])
  .ret)
  .skip)))
  (.reg [⟨some 35, .mv (.s 11), none⟩,
    ⟨some 36, .int .add (.s 35) (.c (.int .i64 1)), none⟩,
    ⟨some 11, .mv (.s 36), none⟩]))))))
  (.seq (.reg [⟨some 43, .mv (.s 10), none⟩,
    ⟨some 44, .mv (.s 8), none⟩,
    ⟨some 45, .mv (.s 8), none⟩,
    ⟨some 46, .build [.v (.int .i64 0), .v (.int .i64 0)] [(0, 1, (.s 44)), (1, 1, (.s 45))], none⟩,
    ⟨some 47, .bslice 2 [(.s 46)], none⟩,
    ⟨some 48, .call 108 [(.s 43), (.s 47), (.c (.int .i64 5))], none⟩,
    ⟨some 42, .mv (.s 48), none⟩,
    ⟨some 49, .ext (.s 42) 0, none⟩,
    ⟨some 50, .ext (.s 42) 1, none⟩,
    ⟨some 51, .ext (.s 42) 2, none⟩,
    ⟨some 52, .ext (.s 42) 3, none⟩,
    ⟨some 12, .mv (.s 49), none⟩,
    ⟨some 13, .mv (.s 50), none⟩,
    ⟨some 14, .mv (.s 51), none⟩,
    ⟨some 15, .mv (.s 52), none⟩])
  (.seq (.seq (.reg [⟨some 53, .mv (.s 12), none⟩,
    ⟨some 54, .len (.s 53), none⟩,
    ⟨some 55, .int .neq (.s 54) (.c (.int .i64 1)), none⟩,
    ⟨some 56, .mv (.s 55), none⟩,
    ⟨some 57, .mv (.s 14), (some (56, false))⟩,
    ⟨some 58, .not (.s 57), (some (56, false))⟩,
    ⟨some 59, .pick (.s 56) (.c (.bool true)) (.s 58), none⟩,
    ⟨some 60, .mv (.s 59), none⟩,
    ⟨some 61, .mv (.s 13), (some (60, false))⟩,
    ⟨some 62, .int .neq (.s 61) (.c (.int .i64 0)), (some (60, false))⟩,
    ⟨some 63, .pick (.s 60) (.c (.bool true)) (.s 62), none⟩,
    ⟨some 64, .mv (.s 63), none⟩,
    ⟨some 65, .mv (.s 15), (some (64, false))⟩,
    ⟨some 66, .int .neq (.s 65) (.c (.int .i64 0)), (some (64, false))⟩,
    ⟨some 67, .pick (.s 64) (.c (.bool true)) (.s 66), none⟩])
  (.cond (.s 67) (.seq (.reg [⟨some 6, .mv (.c (.bool false)), none⟩])
  .ret)
  .skip))
  (.seq (.reg [⟨some 68, .mv (.s 10), none⟩,
    ⟨some 69, .mv (.s 9), none⟩,
    ⟨some 70, .call 106 [(.s 68), (.c (.int .i64 5)), (.s 69)], none⟩,
    ⟨some 16, .mv (.s 70), none⟩])
  (.seq (.reg [⟨some 71, .mv (.s 10), none⟩,
    ⟨some 72, .mv (.s 9), none⟩,
    ⟨some 73, .int .add (.c (.int .i64 4)) (.s 72), none⟩,
    ⟨some 74, .mv (.s 9), none⟩,
    ⟨some 75, .call 106 [(.s 71), (.s 73), (.s 74)], none⟩,
    ⟨some 17, .mv (.s 75), none⟩])
  (.seq (.reg [⟨some 76, .mv (.s 10), none⟩,
    ⟨some 77, .mv (.s 9), none⟩,
    ⟨some 78, .int .add (.c (.int .i64 5)) (.s 77), none⟩,
    ⟨some 79, .mv (.s 9), none⟩,
    ⟨some 80, .call 106 [(.s 76), (.s 78), (.s 79)], none⟩,
    ⟨some 18, .mv (.s 80), none⟩])
  (.seq (.reg [⟨some 81, .mv (.s 16), none⟩,
    ⟨some 82, .len (.s 81), none⟩,
    ⟨some 83, .mv (.s 8), none⟩,
    ⟨some 84, .int .sub (.s 83) (.c (.int .i64 2)), none⟩,
    ⟨some 85, .mm true (.c (.int .i64 0)) (.s 84), none⟩,
    ⟨some 86, .int .eql (.s 82) (.s 85), none⟩,
    ⟨some 87, .mv (.s 86), none⟩,
    ⟨some 88, .mv (.s 17), (some (87, true))⟩,
    ⟨some 89, .len (.s 88), (some (87, true))⟩,
    ⟨some 90, .int .eql (.s 89) (.c (.int .i64 0)), (some (87, true))⟩,
    ⟨some 91, .pick (.s 87) (.s 90) (.c (.bool false)), none⟩,
    ⟨some 92, .mv (.s 91), none⟩,
    ⟨some 93, .mv (.s 18), (some (92, true))⟩,
    ⟨some 94, .len (.s 93), (some (92, true))⟩,
    ⟨some 95, .mv (.s 8), (some (92, true))⟩,
    ⟨some 96, .mm false (.s 95) (.c (.int .i64 2)), (some (92, true))⟩,
    ⟨some 97, .int .eql (.s 94) (.s 96), (some (92, true))⟩,
    ⟨some 98, .pick (.s 92) (.s 97) (.c (.bool false)), none⟩,
    ⟨some 99, .mv (.s 98), none⟩,
    ⟨some 100, .mv (.s 10), (some (99, true))⟩,
    ⟨some 101, .call 110 [(.s 100)], (some (99, true))⟩,
    ⟨some 102, .mv (.s 7), (some (99, true))⟩,
    ⟨some 103, .int .sub (.s 102) (.c (.int .i64 1)), (some (99, true))⟩,
    ⟨some 104, .mv (.s 8), (some (99, true))⟩,
    ⟨some 105, .int .sub (.s 103) (.s 104), (some (99, true))⟩,
    ⟨some 106, .int .eql (.s 101) (.s 105), (some (99, true))⟩,
    ⟨some 107, .pick (.s 99) (.s 106) (.c (.bool false)), none⟩,
    ⟨some 108, .mv (.s 107), none⟩,
    ⟨some 109, .mv (.s 10), (some (108, true))⟩,
    ⟨some 110, .call 111 [(.s 109)], (some (108, true))⟩,
    ⟨some 111, .mv (.s 10), (some (108, true))⟩,
    ⟨some 112, .call 110 [(.s 111)], (some (108, true))⟩,
    ⟨some 113, .int .mul (.c (.int .i64 10)) (.s 112), (some (108, true))⟩,
    ⟨some 114, .int .eql (.s 110) (.s 113), (some (108, true))⟩,
    ⟨some 115, .pick (.s 108) (.s 114) (.c (.bool false)), none⟩,
    ⟨some 116, .mv (.s 115), none⟩,
    ⟨some 117, .call 102 [], (some (116, true))⟩,
    ⟨some 118, .pick (.s 116) (.s 117) (.c (.bool false)), none⟩,
    ⟨some 6, .mv (.s 118), none⟩])
  .ret))))))))))))⟩

/-- sumpter/sumpterlaw21.LossPlays -/
def sf146 : SF :=
  ⟨2, 55, [.t 4],
  (.seq (.reg [⟨some 4, .mv (.c (.bool false)), none⟩])
  (.seq (.seq (.reg [⟨some 9, .mv (.s 0), none⟩,
    ⟨some 10, .call 101 [(.s 9)], none⟩,
    ⟨some 11, .not (.s 10), none⟩])
  (.cond (.s 11) (.seq (.reg [⟨some 12, .call 102 [], none⟩,
    ⟨some 4, .mv (.s 12), none⟩])
  .ret)
  .skip))
  (.seq (.reg [⟨some 13, .call 103 [], none⟩,
    ⟨some 14, .call 104 [], none⟩,
    ⟨some 6, .alloc (some 0) [.v (.slice none 0 0), .v (.int .i64 0), .v (.int .i64 0), .v (.int .i64 0), .v (.int .i64 0), .v (.bool false), .v (.int .i64 0)], none⟩,
    ⟨some 5, .mv (.s 13), none⟩,
    ⟨none, .store 7 (.s 6) (.s 14), none⟩])
  (.seq (.reg [⟨some 7, .mv (.c (.bool true)), none⟩])
  (.seq (.seq (.reg [⟨some 8, .mv (.c (.int .i64 0)), none⟩])
  (.block 0 (.loop (.seq (.seq (.reg [⟨some 15, .mv (.s 8), none⟩,
    ⟨some 16, .mv (.s 0), none⟩,
    ⟨some 17, .len (.s 16), none⟩,
    ⟨some 18, .int .lss (.s 15) (.s 17), none⟩])
  (.cond (.s 18) .skip
  (.exit 0)))
  (.seq (.block 1 (.seq (.dreg [0, 2, 3, 4, 1, 5, 6, 7, 8, 9, 10, 11] [⟨⟨some 22, .mv (.s 5), none⟩, []⟩,
    ⟨⟨some 24, .mv (.s 0), none⟩, []⟩,
    ⟨⟨some 25, .mv (.s 8), none⟩, []⟩,
    ⟨⟨some 26, .idx 8 (.s 24) (.s 25), none⟩, []⟩,
    ⟨⟨some 23, .load true 7 (.s 6), none⟩, []⟩,
    ⟨⟨some 27, .load true 8 (.s 26), none⟩, []⟩,
    ⟨⟨some 28, .call 105 [(.s 22), (.s 23), (.s 27)], none⟩, []⟩,
    ⟨⟨some 21, .mv (.s 28), none⟩, []⟩,
    ⟨⟨some 29, .ext (.s 21) 0, none⟩, []⟩,
    ⟨⟨some 30, .ext (.s 21) 1, none⟩, []⟩,
    ⟨⟨none, .store 7 (.s 6) (.s 29), none⟩, []⟩,
    ⟨⟨some 7, .mv (.s 30), none⟩, []⟩])
  (.seq (.dreg [0, 1, 2, 3, 5, 6, 7, 8, 4, 9, 10, 11, 12] [⟨⟨some 31, .mv (.s 7), none⟩, []⟩,
    ⟨⟨some 32, .not (.s 31), none⟩, []⟩,
    ⟨⟨some 33, .mv (.s 32), none⟩, []⟩,
    ⟨⟨some 34, .mv (.s 5), (some (33, false))⟩, []⟩,
    ⟨⟨some 36, .mv (.s 0), (some (33, false))⟩, []⟩,
    ⟨⟨some 37, .mv (.s 8), (some (33, false))⟩, []⟩,
    ⟨⟨some 38, .idx 8 (.s 36) (.s 37), (some (33, false))⟩, []⟩,
    ⟨⟨some 39, .fld 7 (.s 38), (some (33, false))⟩, []⟩,
    ⟨⟨some 35, .load true 7 (.s 6), (some (33, false))⟩, []⟩,
    ⟨⟨some 40, .load false 1 (.s 39), (some (33, false))⟩, []⟩,
    ⟨⟨some 41, .call 112 [(.s 34), (.s 35), (.s 40)], (some (33, false))⟩, []⟩,
    ⟨⟨some 42, .not (.s 41), (some (33, false))⟩, []⟩,
    ⟨⟨some 43, .pick (.s 33) (.c (.bool true)) (.s 42), none⟩, []⟩])
  (.cond (.s 43) (.seq (.reg [⟨some 4, .mv (.c (.bool false)), none⟩])
  .ret)
  .skip))))
  (.reg [⟨some 19, .mv (.s 8), none⟩,
    ⟨some 20, .int .add (.s 19) (.c (.int .i64 1)), none⟩,
    ⟨some 8, .mv (.s 20), none⟩]))))))
  (.seq (.reg [⟨some 44, .mv (.s 5), none⟩,
    ⟨some 45, .eq .ptr true (.s 44) (.c (.pointer none)), none⟩,
    ⟨some 46, .mv (.s 45), none⟩,
    ⟨some 47, .mv (.s 5), (some (46, true))⟩,
    ⟨some 48, .load true 7 (.s 6), (some (46, true))⟩,
    ⟨some 49, .mv (.s 1), (some (46, true))⟩,
    ⟨some 50, .call 112 [(.s 47), (.s 48), (.s 49)], (some (46, true))⟩,
    ⟨some 51, .pick (.s 46) (.s 50) (.c (.bool false)), none⟩,
    ⟨some 52, .mv (.s 51), none⟩,
    ⟨some 53, .call 102 [], (some (52, true))⟩,
    ⟨some 54, .pick (.s 52) (.s 53) (.c (.bool false)), none⟩,
    ⟨some 4, .mv (.s 54), none⟩])
  .ret))))))⟩

/-- sumpter/sumpterlaw21.LossForks -/
def sf147 : SF :=
  ⟨2, 153, [.t 4],
  (.seq (.reg [⟨some 4, .mv (.c (.bool false)), none⟩])
  (.seq (.seq (.reg [⟨some 24, .mv (.s 0), none⟩,
    ⟨some 25, .call 101 [(.s 24)], none⟩,
    ⟨some 26, .not (.s 25), none⟩,
    ⟨some 27, .mv (.s 26), none⟩,
    ⟨some 28, .mv (.s 1), (some (27, false))⟩,
    ⟨some 29, .call 101 [(.s 28)], (some (27, false))⟩,
    ⟨some 30, .not (.s 29), (some (27, false))⟩,
    ⟨some 31, .pick (.s 27) (.c (.bool true)) (.s 30), none⟩])
  (.cond (.s 31) (.seq (.reg [⟨some 32, .call 102 [], none⟩,
    ⟨some 4, .mv (.s 32), none⟩])
  .ret)
  .skip))
  (.seq (.reg [⟨some 33, .call 103 [], none⟩,
    ⟨some 34, .call 104 [], none⟩,
    ⟨some 6, .alloc (some 0) [.v (.slice none 0 0), .v (.int .i64 0), .v (.int .i64 0), .v (.int .i64 0), .v (.int .i64 0), .v (.bool false), .v (.int .i64 0)], none⟩,
    ⟨some 5, .mv (.s 33), none⟩,
    ⟨none, .store 7 (.s 6) (.s 34), none⟩])
  (.seq (.seq (.reg [⟨some 7, .mv (.c (.int .i64 0)), none⟩])
  (.block 0 (.loop (.seq (.seq (.reg [⟨some 35, .mv (.s 7), none⟩,
    ⟨some 36, .mv (.s 0), none⟩,
    ⟨some 37, .len (.s 36), none⟩,
    ⟨some 38, .int .lss (.s 35) (.s 37), none⟩])
  (.cond (.s 38) .skip
  (.exit 0)))
  (.seq (.block 1 (.dreg [0, 2, 3, 4, 1, 5, 6, 7, 8, 9, 10] [⟨⟨some 42, .mv (.s 5), none⟩, []⟩,
    ⟨⟨some 44, .mv (.s 0), none⟩, []⟩,
    ⟨⟨some 45, .mv (.s 7), none⟩, []⟩,
    ⟨⟨some 46, .idx 8 (.s 44) (.s 45), none⟩, []⟩,
    ⟨⟨some 43, .load true 7 (.s 6), none⟩, []⟩,
    ⟨⟨some 47, .load true 8 (.s 46), none⟩, []⟩,
    ⟨⟨some 48, .call 105 [(.s 42), (.s 43), (.s 47)], none⟩, []⟩,
    ⟨⟨some 41, .mv (.s 48), none⟩, []⟩,
    ⟨⟨some 49, .ext (.s 41) 0, none⟩, []⟩,
    ⟨⟨some 50, .ext (.s 41) 1, none⟩, []⟩,
    ⟨⟨none, .store 7 (.s 6) (.s 49), none⟩, []⟩]))
  (.reg [⟨some 39, .mv (.s 7), none⟩,
    ⟨some 40, .int .add (.s 39) (.c (.int .i64 1)), none⟩,
    ⟨some 7, .mv (.s 40), none⟩]))))))
  (.seq (.dreg [0, 2, 3, 1, 4, 5, 6] [⟨⟨some 51, .mv (.s 5), none⟩, []⟩,
    ⟨⟨some 53, .load true 7 (.s 6), none⟩, []⟩,
    ⟨⟨some 9, .alloc (some 1) [.v (.slice none 0 0), .v (.int .i64 0), .v (.int .i64 0), .v (.int .i64 0), .v (.int .i64 0), .v (.bool false), .v (.int .i64 0)], none⟩, []⟩,
    ⟨⟨some 52, .call 113 [(.s 51)], none⟩, [1]⟩,
    ⟨⟨some 8, .mv (.s 52), none⟩, []⟩,
    ⟨⟨none, .store 7 (.s 9) (.s 53), none⟩, []⟩,
    ⟨⟨some 10, .mv (.c (.bool true)), none⟩, []⟩])
  (.seq (.seq (.reg [⟨some 54, .mv (.s 8), none⟩,
    ⟨some 55, .eq .ptr false (.s 54) (.c (.pointer none)), none⟩])
  (.cond (.s 55) (.seq (.reg [⟨some 4, .mv (.c (.bool false)), none⟩])
  .ret)
  .skip))
  (.seq (.seq (.reg [⟨some 11, .mv (.c (.int .i64 0)), none⟩])
  (.block 2 (.loop (.seq (.seq (.reg [⟨some 56, .mv (.s 11), none⟩,
    ⟨some 57, .mv (.s 1), none⟩,
    ⟨some 58, .len (.s 57), none⟩,
    ⟨some 59, .int .lss (.s 56) (.s 58), none⟩])
  (.cond (.s 59) .skip
  (.exit 2)))
  (.seq (.block 3 (.seq (.dreg [0, 2, 3, 4, 1, 5, 6, 7, 8, 9, 10, 11] [⟨⟨some 63, .mv (.s 8), none⟩, []⟩,
    ⟨⟨some 65, .mv (.s 1), none⟩, []⟩,
    ⟨⟨some 66, .mv (.s 11), none⟩, []⟩,
    ⟨⟨some 67, .idx 8 (.s 65) (.s 66), none⟩, []⟩,
    ⟨⟨some 64, .load true 7 (.s 9), none⟩, []⟩,
    ⟨⟨some 68, .load true 8 (.s 67), none⟩, []⟩,
    ⟨⟨some 69, .call 105 [(.s 63), (.s 64), (.s 68)], none⟩, []⟩,
    ⟨⟨some 62, .mv (.s 69), none⟩, []⟩,
    ⟨⟨some 70, .ext (.s 62) 0, none⟩, []⟩,
    ⟨⟨some 71, .ext (.s 62) 1, none⟩, []⟩,
    ⟨⟨none, .store 7 (.s 9) (.s 70), none⟩, []⟩,
    ⟨⟨some 10, .mv (.s 71), none⟩, []⟩])
  (.seq (.reg [⟨some 72, .mv (.s 10), none⟩,
    ⟨some 73, .not (.s 72), none⟩])
  (.cond (.s 73) (.seq (.reg [⟨some 4, .mv (.c (.bool false)), none⟩])
  .ret)
  .skip))))
  (.reg [⟨some 60, .mv (.s 11), none⟩,
    ⟨some 61, .int .add (.s 60) (.c (.int .i64 1)), none⟩,
    ⟨some 11, .mv (.s 61), none⟩]))))))
  (.seq (.reg [⟨some 12, .mv (.c (.pointer none)), none⟩])
  (.seq (.reg [⟨some 75, .mv (.s 12), none⟩,
    ⟨some 76, .build [.v (.int .i64 0), .v (.int .i64 0)] [(0, 1, (.c (.int .i64 1))), (1, 1, (.c (.int .i64 1)))], none⟩,
    ⟨some 77, .bslice 2 [(.s 76)], none⟩,
    ⟨some 78, .call 108 [(.s 75), (.s 77), (.c (.int .i64 1))], none⟩,
    ⟨some 74, .mv (.s 78), none⟩,
    ⟨some 79, .ext (.s 74) 0, none⟩,
    ⟨some 80, .ext (.s 74) 1, none⟩,
    ⟨some 81, .ext (.s 74) 2, none⟩,
    ⟨some 82, .ext (.s 74) 3, none⟩,
    ⟨some 13, .mv (.s 79), none⟩,
    ⟨some 14, .mv (.s 80), none⟩,
    ⟨some 15, .mv (.s 81), none⟩,
    ⟨some 16, .mv (.s 82), none⟩])
  (.seq (.reg [⟨some 84, .mv (.s 12), none⟩,
    ⟨some 85, .call 107 [(.s 84), (.c (.int .i64 1))], none⟩,
    ⟨some 83, .mv (.s 85), none⟩,
    ⟨some 86, .ext (.s 83) 0, none⟩,
    ⟨some 87, .ext (.s 83) 1, none⟩,
    ⟨some 17, .mv (.s 86), none⟩,
    ⟨some 18, .mv (.s 87), none⟩])
  (.seq (.reg [⟨some 89, .mv (.s 12), none⟩,
    ⟨some 90, .call 114 [(.s 89)], none⟩,
    ⟨some 88, .mv (.s 90), none⟩,
    ⟨some 91, .ext (.s 88) 0, none⟩,
    ⟨some 92, .ext (.s 88) 1, none⟩,
    ⟨some 19, .alloc (some 2) [.v (.int .i64 0), .v (.int .i64 0), .v (.int .i64 0), .v (.bool false)], none⟩,
    ⟨none, .store 4 (.s 19) (.s 91), none⟩,
    ⟨some 20, .mv (.s 92), none⟩])
  (.seq (.reg [⟨some 94, .mv (.s 12), none⟩,
    ⟨some 95, .call 115 [(.s 94)], none⟩,
    ⟨some 93, .mv (.s 95), none⟩,
    ⟨some 96, .ext (.s 93) 0, none⟩,
    ⟨some 97, .ext (.s 93) 1, none⟩,
    ⟨some 21, .mv (.s 96), none⟩,
    ⟨some 22, .mv (.s 97), none⟩])
  (.seq (.reg [⟨some 98, .mv (.s 16), none⟩,
    ⟨some 99, .int .eql (.s 98) (.c (.int .i64 1)), none⟩,
    ⟨some 100, .mv (.s 99), none⟩,
    ⟨some 101, .mv (.s 12), (some (100, true))⟩,
    ⟨some 102, .build [.v (.int .i64 0), .v (.int .i64 0), .v (.int .i64 0), .v (.bool false)] [(2, 1, (.c (.int .i64 1)))], (some (100, true))⟩,
    ⟨some 103, .call 109 [(.s 101), (.s 102)], (some (100, true))⟩,
    ⟨some 104, .int .eql (.s 103) (.c (.int .i64 1)), (some (100, true))⟩,
    ⟨some 105, .pick (.s 100) (.s 104) (.c (.bool false)), none⟩,
    ⟨some 106, .mv (.s 105), none⟩,
    ⟨some 107, .mv (.s 12), (some (106, true))⟩,
    ⟨some 108, .call 106 [(.s 107), (.c (.int .i64 1)), (.c (.int .i64 1))], (some (106, true))⟩,
    ⟨some 109, .len (.s 108), (some (106, true))⟩,
    ⟨some 110, .int .eql (.s 109) (.c (.int .i64 0)), (some (106, true))⟩,
    ⟨some 111, .pick (.s 106) (.s 110) (.c (.bool false)), none⟩,
    ⟨some 112, .mv (.s 111), none⟩,
    ⟨some 113, .mv (.s 18), (some (112, true))⟩,
    ⟨some 114, .not (.s 113), (some (112, true))⟩,
    ⟨some 115, .pick (.s 112) (.s 114) (.c (.bool false)), none⟩,
    ⟨some 116, .mv (.s 115), none⟩,
    ⟨some 117, .mv (.s 20), (some (116, true))⟩,
    ⟨some 118, .not (.s 117), (some (116, true))⟩,
    ⟨some 119, .pick (.s 116) (.s 118) (.c (.bool false)), none⟩,
    ⟨some 120, .mv (.s 119), none⟩,
    ⟨some 121, .mv (.s 22), (some (120, true))⟩,
    ⟨some 122, .not (.s 121), (some (120, true))⟩,
    ⟨some 123, .pick (.s 120) (.s 122) (.c (.bool false)), none⟩,
    ⟨some 124, .mv (.s 123), none⟩,
    ⟨some 125, .mv (.s 12), (some (124, true))⟩,
    ⟨some 126, .call 111 [(.s 125)], (some (124, true))⟩,
    ⟨some 127, .int .eql (.s 126) (.c (.int .i64 0)), (some (124, true))⟩,
    ⟨some 128, .pick (.s 124) (.s 127) (.c (.bool false)), none⟩,
    ⟨some 129, .mv (.s 128), none⟩,
    ⟨some 130, .mv (.s 12), (some (129, true))⟩,
    ⟨some 131, .call 110 [(.s 130)], (some (129, true))⟩,
    ⟨some 132, .int .eql (.s 131) (.c (.int .i64 0)), (some (129, true))⟩,
    ⟨some 133, .pick (.s 129) (.s 132) (.c (.bool false)), none⟩,
    ⟨some 134, .mv (.s 133), none⟩,
    ⟨some 135, .mv (.s 12), (some (134, true))⟩,
    ⟨some 136, .call 113 [(.s 135)], (some (134, true))⟩,
    ⟨some 137, .eq .ptr false (.s 136) (.c (.pointer none)), (some (134, true))⟩,
    ⟨some 138, .pick (.s 134) (.s 137) (.c (.bool false)), none⟩,
    ⟨some 23, .mv (.s 138), none⟩])
  (.seq (.reg [⟨some 139, .mv (.s 8), none⟩,
    ⟨some 140, .load true 7 (.s 9), none⟩,
    ⟨some 141, .call 112 [(.s 139), (.s 140), (.c (.int .i64 9))], none⟩,
    ⟨some 142, .mv (.s 141), none⟩,
    ⟨some 143, .mv (.s 5), (some (142, true))⟩,
    ⟨some 144, .load true 7 (.s 6), (some (142, true))⟩,
    ⟨some 145, .call 112 [(.s 143), (.s 144), (.c (.int .i64 9))], (some (142, true))⟩,
    ⟨some 146, .pick (.s 142) (.s 145) (.c (.bool false)), none⟩,
    ⟨some 147, .mv (.s 146), none⟩,
    ⟨some 148, .mv (.s 23), (some (147, true))⟩,
    ⟨some 149, .pick (.s 147) (.s 148) (.c (.bool false)), none⟩,
    ⟨some 150, .mv (.s 149), none⟩,
    ⟨some 151, .call 102 [], (some (150, true))⟩,
    ⟨some 152, .pick (.s 150) (.s 151) (.c (.bool false)), none⟩,
    ⟨some 4, .mv (.s 152), none⟩])
  .ret))))))))))))))⟩

def sfTab : List (Nat × SF) := [(101, sf101), (102, sf102), (103, sf103), (104, sf104), (105, sf105), (106, sf106), (107, sf107), (108, sf108), (109, sf109), (110, sf110), (111, sf111), (112, sf112), (113, sf113), (114, sf114), (115, sf115), (116, sf116), (117, sf117), (118, sf118), (119, sf119), (120, sf120), (121, sf121), (122, sf122), (123, sf123), (124, sf124), (125, sf125), (126, sf126), (127, sf127), (128, sf128), (129, sf129), (130, sf130), (131, sf131), (132, sf132), (133, sf133), (134, sf134), (135, sf135), (136, sf136), (137, sf137), (138, sf138), (139, sf139), (140, sf140), (141, sf141), (142, sf142), (143, sf143), (144, sf144), (145, sf145), (146, sf146), (147, sf147)]
def code (g : Nat) : SF := (lk sfTab g).getD ⟨0, 0, [], .skip⟩

theorem code101 : code 101 = sf101 := rfl
theorem code102 : code 102 = sf102 := rfl
theorem code103 : code 103 = sf103 := rfl
theorem code104 : code 104 = sf104 := rfl
theorem code105 : code 105 = sf105 := rfl
theorem code106 : code 106 = sf106 := rfl
theorem code107 : code 107 = sf107 := rfl
theorem code108 : code 108 = sf108 := rfl
theorem code109 : code 109 = sf109 := rfl
theorem code110 : code 110 = sf110 := rfl
theorem code111 : code 111 = sf111 := rfl
theorem code112 : code 112 = sf112 := rfl
theorem code113 : code 113 = sf113 := rfl
theorem code114 : code 114 = sf114 := rfl
theorem code115 : code 115 = sf115 := rfl
theorem code116 : code 116 = sf116 := rfl
theorem code117 : code 117 = sf117 := rfl
theorem code118 : code 118 = sf118 := rfl
theorem code119 : code 119 = sf119 := rfl
theorem code120 : code 120 = sf120 := rfl
theorem code121 : code 121 = sf121 := rfl
theorem code122 : code 122 = sf122 := rfl
theorem code123 : code 123 = sf123 := rfl
theorem code124 : code 124 = sf124 := rfl
theorem code125 : code 125 = sf125 := rfl
theorem code126 : code 126 = sf126 := rfl
theorem code127 : code 127 = sf127 := rfl
theorem code128 : code 128 = sf128 := rfl
theorem code129 : code 129 = sf129 := rfl
theorem code130 : code 130 = sf130 := rfl
theorem code131 : code 131 = sf131 := rfl
theorem code132 : code 132 = sf132 := rfl
theorem code133 : code 133 = sf133 := rfl
theorem code134 : code 134 = sf134 := rfl
theorem code135 : code 135 = sf135 := rfl
theorem code136 : code 136 = sf136 := rfl
theorem code137 : code 137 = sf137 := rfl
theorem code138 : code 138 = sf138 := rfl
theorem code139 : code 139 = sf139 := rfl
theorem code140 : code 140 = sf140 := rfl
theorem code141 : code 141 = sf141 := rfl
theorem code142 : code 142 = sf142 := rfl
theorem code143 : code 143 = sf143 := rfl
theorem code144 : code 144 = sf144 := rfl
theorem code145 : code 145 = sf145 := rfl
theorem code146 : code 146 = sf146 := rfl
theorem code147 : code 147 = sf147 := rfl

end Sm
