/-
  A layer of one's own: texts Sf.
-/
import Derived.Test.YtekgdfpcbcmlgaaDoorSmLA
set_option linter.unusedVariables false
set_option maxRecDepth 100000
namespace Sm
open Go

/-- sumpter/sumpterref08.Light -/
def sf148 : SF :=
  ⟨3, 40, [.t 6],
  (.seq (.reg [⟨some 6, .mv (.c (.bool false)), none⟩])
  (.seq (.seq (.reg [⟨some 9, .mv (.s 0), none⟩,
    ⟨some 10, .len (.s 9), none⟩,
    ⟨some 11, .mv (.s 1), none⟩,
    ⟨some 12, .int .gtr (.s 10) (.s 11), none⟩])
  (.cond (.s 12) (.seq (.reg [⟨some 6, .mv (.c (.bool false)), none⟩])
  .ret)
  .skip))
  (.seq (.reg [⟨some 7, .mv (.c (.int .i64 0)), none⟩])
  (.seq (.seq (.reg [⟨some 8, .mv (.c (.int .i64 0)), none⟩])
  (.block 0 (.loop (.seq (.seq (.reg [⟨some 13, .mv (.s 8), none⟩,
    ⟨some 14, .mv (.s 0), none⟩,
    ⟨some 15, .len (.s 14), none⟩,
    ⟨some 16, .int .lss (.s 13) (.s 15), none⟩])
  (.cond (.s 16) .skip
  (.exit 0)))
  (.seq (.block 1 (.seq (.seq (.reg [⟨some 19, .mv (.s 0), none⟩,
    ⟨some 20, .mv (.s 8), none⟩,
    ⟨some 21, .idx 3 (.s 19) (.s 20), none⟩,
    ⟨some 22, .fld 0 (.s 21), none⟩,
    ⟨some 23, .load false 1 (.s 22), none⟩,
    ⟨some 24, .slen (.s 23), none⟩,
    ⟨some 25, .int .gtr (.s 24) (.c (.int .i64 1000)), none⟩])
  (.cond (.s 25) (.seq (.reg [⟨some 6, .mv (.c (.bool false)), none⟩])
  .ret)
  .skip))
  (.seq (.reg [⟨some 26, .mv (.s 7), none⟩,
    ⟨some 27, .mv (.s 0), none⟩,
    ⟨some 28, .mv (.s 8), none⟩,
    ⟨some 29, .idx 3 (.s 27) (.s 28), none⟩,
    ⟨some 30, .fld 2 (.s 29), none⟩,
    ⟨some 31, .load false 1 (.s 30), none⟩,
    ⟨some 32, .len (.s 31), none⟩,
    ⟨some 33, .mv (.s 2), none⟩,
    ⟨some 34, .int .add (.s 33) (.c (.int .i64 1)), none⟩,
    ⟨some 35, .mm false (.s 32) (.s 34), none⟩,
    ⟨some 36, .int .add (.s 26) (.s 35), none⟩,
    ⟨some 7, .mv (.s 36), none⟩])
  (.seq (.reg [⟨some 37, .mv (.s 7), none⟩,
    ⟨some 38, .mv (.s 2), none⟩,
    ⟨some 39, .int .gtr (.s 37) (.s 38), none⟩])
  (.cond (.s 39) (.seq (.reg [⟨some 6, .mv (.c (.bool false)), none⟩])
  .ret)
  .skip)))))
  (.reg [⟨some 17, .mv (.s 8), none⟩,
    ⟨some 18, .int .add (.s 17) (.c (.int .i64 1)), none⟩,
    ⟨some 8, .mv (.s 18), none⟩]))))))
  (.seq (.reg [⟨some 6, .mv (.c (.bool true)), none⟩])
  .ret)))))⟩

/-- sumpter/sumpterlaw08.awake -/
def sf149 : SF :=
  ⟨0, 83, [.t 0],
  (.seq (.reg [⟨some 0, .mv (.c (.bool false)), none⟩])
  (.seq (.reg [⟨some 10, .build [.v (.string ⟨#[]⟩), .v (.bool false), .v (.slice none 0 0)] [(0, 1, (.c (.string ⟨#[97, 47, 98]⟩)))], none⟩,
    ⟨some 11, .call 156 [(.c (.slice none 0 0)), (.s 10)], none⟩,
    ⟨some 9, .mv (.s 11), none⟩,
    ⟨some 12, .ext (.s 9) 0, none⟩,
    ⟨some 13, .ext (.s 9) 1, none⟩,
    ⟨some 1, .mv (.s 12), none⟩,
    ⟨some 2, .mv (.s 13), none⟩])
  (.seq (.reg [⟨some 15, .build [.v (.string ⟨#[]⟩), .v (.bool false), .v (.slice none 0 0)] [(0, 1, (.c (.string ⟨#[97]⟩))), (1, 1, (.c (.bool true)))], none⟩,
    ⟨some 16, .bslice 3 [(.s 15)], none⟩,
    ⟨some 17, .hop (.bsl 1) [(.c (.int .u8 120))], none⟩,
    ⟨some 18, .hop .mark [(.s 17)], none⟩,
    ⟨some 19, .build [.v (.string ⟨#[]⟩), .v (.bool false), .v (.slice none 0 0)] [(0, 1, (.c (.string ⟨#[97, 47, 98]⟩))), (2, 1, (.s 18))], none⟩,
    ⟨some 20, .call 156 [(.s 16), (.s 19)], none⟩,
    ⟨some 14, .mv (.s 20), none⟩,
    ⟨some 21, .ext (.s 14) 0, none⟩,
    ⟨some 22, .ext (.s 14) 1, none⟩,
    ⟨some 3, .mv (.s 21), none⟩,
    ⟨some 4, .mv (.s 22), none⟩])
  (.seq (.reg [⟨some 24, .mv (.s 3), none⟩,
    ⟨some 25, .call 158 [(.s 24), (.c (.string ⟨#[97]⟩))], none⟩,
    ⟨some 23, .mv (.s 25), none⟩,
    ⟨some 26, .ext (.s 23) 0, none⟩,
    ⟨some 27, .ext (.s 23) 1, none⟩,
    ⟨some 5, .mv (.s 26), none⟩,
    ⟨some 6, .mv (.s 27), none⟩])
  (.seq (.reg [⟨some 29, .mv (.s 3), none⟩,
    ⟨some 30, .call 150 [(.s 29), (.c (.string ⟨#[97, 47, 98]⟩))], none⟩,
    ⟨some 28, .mv (.s 30), none⟩,
    ⟨some 31, .ext (.s 28) 0, none⟩,
    ⟨some 32, .ext (.s 28) 1, none⟩,
    ⟨some 7, .alloc (some 0) [.v (.string ⟨#[]⟩), .v (.bool false), .v (.slice none 0 0)], none⟩,
    ⟨none, .store 3 (.s 7) (.s 31), none⟩,
    ⟨some 8, .mv (.s 32), none⟩])
  (.seq (.reg [⟨some 33, .mv (.s 2), none⟩,
    ⟨some 34, .int .eql (.s 33) (.c (.int .i64 8)), none⟩,
    ⟨some 35, .mv (.s 34), none⟩,
    ⟨some 36, .mv (.s 4), (some (35, true))⟩,
    ⟨some 37, .int .eql (.s 36) (.c (.int .i64 0)), (some (35, true))⟩,
    ⟨some 38, .pick (.s 35) (.s 37) (.c (.bool false)), none⟩,
    ⟨some 39, .mv (.s 38), none⟩,
    ⟨some 40, .mv (.s 6), (some (39, true))⟩,
    ⟨some 41, .int .eql (.s 40) (.c (.int .i64 10)), (some (39, true))⟩,
    ⟨some 42, .pick (.s 39) (.s 41) (.c (.bool false)), none⟩,
    ⟨some 43, .mv (.s 42), none⟩,
    ⟨some 44, .mv (.s 3), (some (43, true))⟩,
    ⟨some 45, .call 232 [], (some (43, true))⟩,
    ⟨some 46, .call 162 [(.s 44), (.s 45)], (some (43, true))⟩,
    ⟨some 47, .pick (.s 43) (.s 46) (.c (.bool false)), none⟩,
    ⟨some 48, .mv (.s 47), none⟩,
    ⟨some 49, .mv (.s 3), (some (48, true))⟩,
    ⟨some 50, .call 162 [(.s 49), (.c (.slice none 0 0))], (some (48, true))⟩,
    ⟨some 51, .not (.s 50), (some (48, true))⟩,
    ⟨some 52, .pick (.s 48) (.s 51) (.c (.bool false)), none⟩,
    ⟨some 53, .mv (.s 52), none⟩,
    ⟨some 54, .mv (.s 8), (some (53, true))⟩,
    ⟨some 55, .pick (.s 53) (.s 54) (.c (.bool false)), none⟩,
    ⟨some 56, .mv (.s 55), none⟩,
    ⟨some 57, .fld 2 (.s 7), (some (56, true))⟩,
    ⟨some 58, .load false 1 (.s 57), (some (56, true))⟩,
    ⟨some 59, .nd .b2s [(.s 58)], (some (56, true))⟩,
    ⟨some 60, .str .eql (.s 59) (.c (.string ⟨#[120]⟩)), (some (56, true))⟩,
    ⟨some 61, .pick (.s 56) (.s 60) (.c (.bool false)), none⟩,
    ⟨some 62, .mv (.s 61), none⟩,
    ⟨some 63, .mv (.s 3), (some (62, true))⟩,
    ⟨some 64, .call 161 [(.s 63)], (some (62, true))⟩,
    ⟨some 65, .int .eql (.s 64) (.c (.int .i64 0)), (some (62, true))⟩,
    ⟨some 66, .pick (.s 62) (.s 65) (.c (.bool false)), none⟩,
    ⟨some 67, .mv (.s 66), none⟩,
    ⟨some 68, .pick (.s 67) (.c (.bool true)) (.c (.bool false)), none⟩,
    ⟨some 69, .mv (.s 68), none⟩,
    ⟨some 70, .pick (.s 69) (.c (.bool true)) (.c (.bool false)), none⟩,
    ⟨some 71, .mv (.s 70), none⟩,
    ⟨some 72, .pick (.s 71) (.c (.bool true)) (.c (.bool false)), none⟩,
    ⟨some 73, .mv (.s 72), none⟩,
    ⟨some 74, .pick (.s 73) (.c (.bool true)) (.c (.bool false)), none⟩,
    ⟨some 75, .mv (.s 74), none⟩,
    ⟨some 76, .pick (.s 75) (.c (.bool true)) (.c (.bool false)), none⟩,
    ⟨some 77, .mv (.s 76), none⟩,
    ⟨some 78, .pick (.s 77) (.c (.bool true)) (.c (.bool false)), none⟩,
    ⟨some 79, .mv (.s 78), none⟩,
    ⟨some 80, .pick (.s 79) (.c (.bool true)) (.c (.bool false)), none⟩,
    ⟨some 81, .mv (.s 80), none⟩,
    ⟨some 82, .pick (.s 81) (.c (.bool true)) (.c (.bool false)), none⟩,
    ⟨some 0, .mv (.s 82), none⟩])
  .ret))))))⟩

/-- sumpter/tree.Get -/
def sf150 : SF :=
  ⟨2, 18, [.cell 4 true 3, .t 5],
  (.seq (.reg [⟨some 4, .alloc (some 0) [.v (.string ⟨#[]⟩), .v (.bool false), .v (.slice none 0 0)], none⟩,
    ⟨some 5, .mv (.c (.bool false)), none⟩])
  (.seq (.reg [⟨some 7, .mv (.s 0), none⟩,
    ⟨some 8, .mv (.s 1), none⟩,
    ⟨some 9, .call 166 [(.s 7), (.s 8)], none⟩,
    ⟨some 6, .mv (.s 9), none⟩])
  (.seq (.seq (.reg [⟨some 10, .mv (.s 6), none⟩,
    ⟨some 11, .int .lss (.s 10) (.c (.int .i64 0)), none⟩])
  (.cond (.s 11) (.seq (.reg [⟨some 12, .build [.v (.string ⟨#[]⟩), .v (.bool false), .v (.slice none 0 0)] [], none⟩,
    ⟨none, .store 3 (.s 4) (.s 12), none⟩,
    ⟨some 5, .mv (.c (.bool false)), none⟩])
  .ret)
  .skip))
  (.seq (.reg [⟨some 13, .mv (.s 0), none⟩,
    ⟨some 14, .mv (.s 6), none⟩,
    ⟨some 15, .idx 3 (.s 13) (.s 14), none⟩,
    ⟨some 16, .load true 3 (.s 15), none⟩,
    ⟨some 17, .call 167 [(.s 16)], none⟩,
    ⟨none, .store 3 (.s 4) (.s 17), none⟩,
    ⟨some 5, .mv (.c (.bool true)), none⟩])
  .ret))))⟩

/-- sumpter/sumpterref08.Get -/
def sf151 : SF :=
  ⟨2, 25, [.cell 4 true 3, .t 5],
  (.seq (.reg [⟨some 4, .alloc (some 0) [.v (.string ⟨#[]⟩), .v (.bool false), .v (.slice none 0 0)], none⟩,
    ⟨some 5, .mv (.c (.bool false)), none⟩])
  (.seq (.seq (.reg [⟨some 6, .mv (.c (.int .i64 0)), none⟩])
  (.block 0 (.loop (.seq (.seq (.reg [⟨some 7, .mv (.s 6), none⟩,
    ⟨some 8, .mv (.s 0), none⟩,
    ⟨some 9, .len (.s 8), none⟩,
    ⟨some 10, .int .lss (.s 7) (.s 9), none⟩])
  (.cond (.s 10) .skip
  (.exit 0)))
  (.seq (.block 1 (.seq (.reg [⟨some 13, .mv (.s 0), none⟩,
    ⟨some 14, .mv (.s 6), none⟩,
    ⟨some 15, .idx 3 (.s 13) (.s 14), none⟩,
    ⟨some 16, .fld 0 (.s 15), none⟩,
    ⟨some 17, .load false 1 (.s 16), none⟩,
    ⟨some 18, .mv (.s 1), none⟩,
    ⟨some 19, .str .eql (.s 17) (.s 18), none⟩])
  (.cond (.s 19) (.seq (.reg [⟨some 20, .mv (.s 0), none⟩,
    ⟨some 21, .mv (.s 6), none⟩,
    ⟨some 22, .idx 3 (.s 20) (.s 21), none⟩,
    ⟨some 23, .load true 3 (.s 22), none⟩,
    ⟨none, .store 3 (.s 4) (.s 23), none⟩,
    ⟨some 5, .mv (.c (.bool true)), none⟩])
  .ret)
  .skip)))
  (.reg [⟨some 11, .mv (.s 6), none⟩,
    ⟨some 12, .int .add (.s 11) (.c (.int .i64 1)), none⟩,
    ⟨some 6, .mv (.s 12), none⟩]))))))
  (.seq (.reg [⟨some 24, .build [.v (.string ⟨#[]⟩), .v (.bool false), .v (.slice none 0 0)] [], none⟩,
    ⟨none, .store 3 (.s 4) (.s 24), none⟩,
    ⟨some 5, .mv (.c (.bool false)), none⟩])
  .ret)))⟩

/-- sumpter/tree.Children -/
def sf152 : SF :=
  ⟨2, 23, [.t 4],
  (.seq (.reg [⟨some 3, .box none 1 (.s 1), none⟩,
    ⟨some 4, .mv (.c (.slice none 0 0)), none⟩])
  (.seq (.reg [⟨some 5, .mv (.c (.slice none 0 0)), none⟩])
  (.seq (.seq (.reg [⟨some 8, .mv (.s 0), none⟩,
    ⟨some 9, .mkfn 168 [(.s 3)], none⟩,
    ⟨some 10, .call 169 [(.s 8), (.s 9)], none⟩,
    ⟨some 11, .len (.s 10), none⟩,
    ⟨some 12, .mv (.c (.int .i64 0)), none⟩])
  (.block 0 (.loop (.seq (.reg [⟨some 13, .int .lss (.s 12) (.s 11), none⟩])
  (.seq (.cond (.s 13) .skip
  (.exit 0))
  (.seq (.block 1 (.seq (.reg [⟨some 14, .idx 3 (.s 10) (.s 12), none⟩,
    ⟨some 15, .load true 3 (.s 14), none⟩,
    ⟨some 7, .alloc (some 1) [.v (.string ⟨#[]⟩), .v (.bool false), .v (.slice none 0 0)], none⟩,
    ⟨none, .store 3 (.s 7) (.s 15), none⟩])
  (.reg [⟨some 16, .mv (.s 5), none⟩,
    ⟨some 17, .fld 0 (.s 7), none⟩,
    ⟨some 18, .load false 1 (.s 17), none⟩,
    ⟨some 19, .bslice 1 [(.s 18)], none⟩,
    ⟨some 20, .app 1 16 (.s 16) (.s 19), none⟩,
    ⟨some 5, .mv (.s 20), none⟩])))
  (.reg [⟨some 21, .int .add (.s 12) (.c (.int .i64 1)), none⟩,
    ⟨some 12, .mv (.s 21), none⟩])))))))
  (.seq (.reg [⟨some 22, .mv (.s 5), none⟩,
    ⟨some 4, .mv (.s 22), none⟩])
  .ret))))⟩

/-- sumpter/sumpterref08.Children -/
def sf153 : SF :=
  ⟨2, 30, [.t 4],
  (.seq (.reg [⟨some 4, .mv (.c (.slice none 0 0)), none⟩])
  (.seq (.reg [⟨some 5, .mv (.c (.slice none 0 0)), none⟩])
  (.seq (.seq (.reg [⟨some 6, .mv (.c (.int .i64 0)), none⟩])
  (.block 0 (.loop (.seq (.seq (.reg [⟨some 7, .mv (.s 6), none⟩,
    ⟨some 8, .mv (.s 0), none⟩,
    ⟨some 9, .len (.s 8), none⟩,
    ⟨some 10, .int .lss (.s 7) (.s 9), none⟩])
  (.cond (.s 10) .skip
  (.exit 0)))
  (.seq (.block 1 (.seq (.reg [⟨some 13, .mv (.s 0), none⟩,
    ⟨some 14, .mv (.s 6), none⟩,
    ⟨some 15, .idx 3 (.s 13) (.s 14), none⟩,
    ⟨some 16, .fld 0 (.s 15), none⟩,
    ⟨some 17, .load false 1 (.s 16), none⟩,
    ⟨some 18, .call 170 [(.s 17)], none⟩,
    ⟨some 19, .mv (.s 1), none⟩,
    ⟨some 20, .str .eql (.s 18) (.s 19), none⟩])
  (.cond (.s 20) (.reg [⟨some 21, .mv (.s 5), none⟩,
    ⟨some 22, .mv (.s 0), none⟩,
    ⟨some 23, .mv (.s 6), none⟩,
    ⟨some 24, .idx 3 (.s 22) (.s 23), none⟩,
    ⟨some 25, .fld 0 (.s 24), none⟩,
    ⟨some 26, .load false 1 (.s 25), none⟩,
    ⟨some 27, .bslice 1 [(.s 26)], none⟩,
    ⟨some 28, .app 1 16 (.s 21) (.s 27), none⟩,
    ⟨some 5, .mv (.s 28), none⟩])
  .skip)))
  (.reg [⟨some 11, .mv (.s 6), none⟩,
    ⟨some 12, .int .add (.s 11) (.c (.int .i64 1)), none⟩,
    ⟨some 6, .mv (.s 12), none⟩]))))))
  (.seq (.reg [⟨some 29, .mv (.s 5), none⟩,
    ⟨some 4, .mv (.s 29), none⟩])
  .ret))))⟩

/-- sumpter/sumpterref08.SameEntry -/
def sf154 : SF :=
  ⟨2, 26, [.t 4],
  (.seq (.reg [⟨some 2, .box (some 0) 3 (.s 0), none⟩,
    ⟨some 3, .box (some 1) 3 (.s 1), none⟩,
    ⟨some 4, .mv (.c (.bool false)), none⟩])
  (.seq (.reg [⟨some 5, .fld 0 (.s 2), none⟩,
    ⟨some 6, .load false 1 (.s 5), none⟩,
    ⟨some 7, .fld 0 (.s 3), none⟩,
    ⟨some 8, .load false 1 (.s 7), none⟩,
    ⟨some 9, .str .eql (.s 6) (.s 8), none⟩,
    ⟨some 10, .mv (.s 9), none⟩,
    ⟨some 11, .fld 1 (.s 2), (some (10, true))⟩,
    ⟨some 12, .load false 1 (.s 11), (some (10, true))⟩,
    ⟨some 13, .fld 1 (.s 3), (some (10, true))⟩,
    ⟨some 14, .load false 1 (.s 13), (some (10, true))⟩,
    ⟨some 15, .eq .bool false (.s 12) (.s 14), (some (10, true))⟩,
    ⟨some 16, .pick (.s 10) (.s 15) (.c (.bool false)), none⟩,
    ⟨some 17, .mv (.s 16), none⟩,
    ⟨some 18, .fld 2 (.s 2), (some (17, true))⟩,
    ⟨some 19, .load false 1 (.s 18), (some (17, true))⟩,
    ⟨some 20, .nd .b2s [(.s 19)], (some (17, true))⟩,
    ⟨some 21, .fld 2 (.s 3), (some (17, true))⟩,
    ⟨some 22, .load false 1 (.s 21), (some (17, true))⟩,
    ⟨some 23, .nd .b2s [(.s 22)], (some (17, true))⟩,
    ⟨some 24, .str .eql (.s 20) (.s 23), (some (17, true))⟩,
    ⟨some 25, .pick (.s 17) (.s 24) (.c (.bool false)), none⟩,
    ⟨some 4, .mv (.s 25), none⟩])
  .ret))⟩

/-- sumpter/sumpterref08.Copy -/
def sf155 : SF :=
  ⟨1, 26, [.t 2],
  (.seq (.reg [⟨some 2, .mv (.c (.slice none 0 0)), none⟩])
  (.seq (.reg [⟨some 3, .mv (.c (.slice none 0 0)), none⟩])
  (.seq (.seq (.reg [⟨some 4, .mv (.c (.int .i64 0)), none⟩])
  (.block 0 (.loop (.seq (.seq (.reg [⟨some 6, .mv (.s 4), none⟩,
    ⟨some 7, .mv (.s 0), none⟩,
    ⟨some 8, .len (.s 7), none⟩,
    ⟨some 9, .int .lss (.s 6) (.s 8), none⟩])
  (.cond (.s 9) .skip
  (.exit 0)))
  (.seq (.block 1 (.seq (.reg [⟨some 12, .mv (.s 0), none⟩,
    ⟨some 13, .mv (.s 4), none⟩,
    ⟨some 14, .idx 3 (.s 12) (.s 13), none⟩,
    ⟨some 15, .load true 3 (.s 14), none⟩,
    ⟨some 5, .alloc (some 0) [.v (.string ⟨#[]⟩), .v (.bool false), .v (.slice none 0 0)], none⟩,
    ⟨none, .store 3 (.s 5) (.s 15), none⟩])
  (.seq (.reg [⟨some 16, .bslice 1 [], none⟩,
    ⟨some 17, .fld 2 (.s 5), none⟩,
    ⟨some 18, .load false 1 (.s 17), none⟩,
    ⟨some 19, .app 1 1 (.s 16) (.s 18), none⟩,
    ⟨some 20, .fld 2 (.s 5), none⟩,
    ⟨none, .store 1 (.s 20) (.s 19), none⟩])
  (.reg [⟨some 21, .mv (.s 3), none⟩,
    ⟨some 22, .load true 3 (.s 5), none⟩,
    ⟨some 23, .bslice 3 [(.s 22)], none⟩,
    ⟨some 24, .app 3 48 (.s 21) (.s 23), none⟩,
    ⟨some 3, .mv (.s 24), none⟩]))))
  (.reg [⟨some 10, .mv (.s 4), none⟩,
    ⟨some 11, .int .add (.s 10) (.c (.int .i64 1)), none⟩,
    ⟨some 4, .mv (.s 11), none⟩]))))))
  (.seq (.reg [⟨some 25, .mv (.s 3), none⟩,
    ⟨some 2, .mv (.s 25), none⟩])
  .ret))))⟩

/-- sumpter/tree.Put -/
def sf156 : SF :=
  ⟨2, 62, [.t 4, .t 5],
  (.seq (.reg [⟨some 3, .box none 3 (.s 1), none⟩,
    ⟨some 4, .mv (.c (.slice none 0 0)), none⟩,
    ⟨some 5, .mv (.c (.int .i64 0)), none⟩])
  (.seq (.seq (.reg [⟨some 11, .mv (.s 0), none⟩,
    ⟨some 12, .call 161 [(.s 11)], none⟩,
    ⟨some 6, .mv (.s 12), none⟩])
  (.seq (.reg [⟨some 13, .mv (.s 6), none⟩,
    ⟨some 14, .int .neq (.s 13) (.c (.int .i64 0)), none⟩])
  (.cond (.s 14) (.seq (.reg [⟨some 15, .mv (.s 6), none⟩,
    ⟨some 4, .mv (.c (.slice none 0 0)), none⟩,
    ⟨some 5, .mv (.s 15), none⟩])
  .ret)
  .skip)))
  (.seq (.reg [⟨some 16, .mv (.s 0), none⟩,
    ⟨some 17, .call 171 [(.s 16)], none⟩,
    ⟨some 7, .mv (.s 17), none⟩])
  (.seq (.seq (.reg [⟨some 18, .mv (.s 0), none⟩,
    ⟨some 19, .fld 0 (.s 3), none⟩,
    ⟨some 20, .load false 1 (.s 19), none⟩,
    ⟨some 21, .call 166 [(.s 18), (.s 20)], none⟩,
    ⟨some 8, .mv (.s 21), none⟩])
  (.block 0 (.seq (.dreg [0, 1, 2, 3, 4, 5, 6, 8, 7, 9, 10, 11, 12] [⟨⟨some 36, .mv (.s 8), none⟩, []⟩,
    ⟨⟨some 37, .int .geq (.s 36) (.c (.int .i64 0)), none⟩, []⟩,
    ⟨⟨some 38, .mv (.s 37), none⟩, []⟩,
    ⟨⟨some 39, .mv (.s 0), (some (38, true))⟩, []⟩,
    ⟨⟨some 40, .mv (.s 8), (some (38, true))⟩, []⟩,
    ⟨⟨some 41, .idx 3 (.s 39) (.s 40), (some (38, true))⟩, []⟩,
    ⟨⟨some 42, .fld 1 (.s 41), (some (38, true))⟩, []⟩,
    ⟨⟨some 44, .fld 1 (.s 3), (some (38, true))⟩, []⟩,
    ⟨⟨some 43, .load false 1 (.s 42), (some (38, true))⟩, []⟩,
    ⟨⟨some 45, .load false 1 (.s 44), (some (38, true))⟩, []⟩,
    ⟨⟨some 46, .eq .bool true (.s 43) (.s 45), (some (38, true))⟩, []⟩,
    ⟨⟨some 47, .pick (.s 38) (.s 46) (.c (.bool false)), none⟩, []⟩,
    ⟨⟨some 35, .mv (.s 47), none⟩, []⟩])
  (.cond (.s 35) (.seq (.reg [⟨some 4, .mv (.c (.slice none 0 0)), none⟩,
    ⟨some 5, .mv (.c (.int .i64 9)), none⟩])
  .ret)
  (.seq (.reg [⟨some 49, .mv (.s 8), none⟩,
    ⟨some 50, .int .geq (.s 49) (.c (.int .i64 0)), none⟩,
    ⟨some 48, .mv (.s 50), none⟩])
  (.cond (.s 48) (.reg [⟨some 51, .mv (.s 7), none⟩,
    ⟨some 52, .mv (.s 8), none⟩,
    ⟨some 53, .load true 3 (.s 3), none⟩,
    ⟨some 54, .call 167 [(.s 53)], none⟩,
    ⟨some 55, .idx 3 (.s 51) (.s 52), none⟩,
    ⟨none, .store 3 (.s 55) (.s 54), none⟩])
  (.seq (.reg [⟨some 22, .mv (.s 0), none⟩,
    ⟨some 23, .mkfn 172 [(.s 3)], none⟩,
    ⟨some 24, .call 173 [(.s 22), (.s 23)], none⟩,
    ⟨some 9, .mv (.s 24), none⟩])
  (.seq (.seq (.reg [⟨some 25, .mv (.s 9), none⟩,
    ⟨some 26, .int .lss (.s 25) (.c (.int .i64 0)), none⟩])
  (.cond (.s 26) (.reg [⟨some 27, .mv (.s 0), none⟩,
    ⟨some 28, .len (.s 27), none⟩,
    ⟨some 9, .mv (.s 28), none⟩])
  .skip))
  (.reg [⟨some 29, .mv (.s 7), none⟩,
    ⟨some 30, .mv (.s 9), none⟩,
    ⟨some 31, .load true 3 (.s 3), none⟩,
    ⟨some 32, .call 167 [(.s 31)], none⟩,
    ⟨some 33, .bslice 3 [(.s 32)], none⟩,
    ⟨some 34, .call 174 [(.s 29), (.s 30), (.s 33)], none⟩,
    ⟨some 7, .mv (.s 34), none⟩])))))))))
  (.seq (.seq (.reg [⟨some 56, .mv (.s 7), none⟩,
    ⟨some 57, .call 161 [(.s 56)], none⟩,
    ⟨some 10, .mv (.s 57), none⟩])
  (.seq (.reg [⟨some 58, .mv (.s 10), none⟩,
    ⟨some 59, .int .neq (.s 58) (.c (.int .i64 0)), none⟩])
  (.cond (.s 59) (.seq (.reg [⟨some 60, .mv (.s 10), none⟩,
    ⟨some 4, .mv (.c (.slice none 0 0)), none⟩,
    ⟨some 5, .mv (.s 60), none⟩])
  .ret)
  .skip)))
  (.seq (.reg [⟨some 61, .mv (.s 7), none⟩,
    ⟨some 4, .mv (.s 61), none⟩,
    ⟨some 5, .mv (.c (.int .i64 0)), none⟩])
  .ret))))))⟩

/-- sumpter/sumpterref08.Put -/
def sf157 : SF :=
  ⟨2, 82, [.t 4, .t 5],
  (.seq (.reg [⟨some 3, .box (some 0) 3 (.s 1), none⟩,
    ⟨some 4, .mv (.c (.slice none 0 0)), none⟩,
    ⟨some 5, .mv (.c (.int .i64 0)), none⟩])
  (.seq (.reg [⟨some 12, .mv (.s 0), none⟩,
    ⟨some 13, .call 175 [(.s 12)], none⟩,
    ⟨some 6, .mv (.s 13), none⟩])
  (.seq (.seq (.reg [⟨some 14, .mv (.s 6), none⟩,
    ⟨some 15, .int .neq (.s 14) (.c (.int .i64 0)), none⟩])
  (.cond (.s 15) (.seq (.reg [⟨some 16, .mv (.s 6), none⟩,
    ⟨some 4, .mv (.c (.slice none 0 0)), none⟩,
    ⟨some 5, .mv (.s 16), none⟩])
  .ret)
  .skip))
  (.seq (.reg [⟨some 18, .mv (.s 0), none⟩,
    ⟨some 19, .fld 0 (.s 3), none⟩,
    ⟨some 20, .load false 1 (.s 19), none⟩,
    ⟨some 21, .call 151 [(.s 18), (.s 20)], none⟩,
    ⟨some 17, .mv (.s 21), none⟩,
    ⟨some 22, .ext (.s 17) 0, none⟩,
    ⟨some 23, .ext (.s 17) 1, none⟩,
    ⟨some 7, .alloc (some 1) [.v (.string ⟨#[]⟩), .v (.bool false), .v (.slice none 0 0)], none⟩,
    ⟨none, .store 3 (.s 7) (.s 22), none⟩,
    ⟨some 8, .mv (.s 23), none⟩])
  (.seq (.seq (.reg [⟨some 24, .mv (.s 8), none⟩,
    ⟨some 25, .mv (.s 24), none⟩,
    ⟨some 26, .fld 1 (.s 7), (some (25, true))⟩,
    ⟨some 27, .load false 1 (.s 26), (some (25, true))⟩,
    ⟨some 28, .fld 1 (.s 3), (some (25, true))⟩,
    ⟨some 29, .load false 1 (.s 28), (some (25, true))⟩,
    ⟨some 30, .eq .bool true (.s 27) (.s 29), (some (25, true))⟩,
    ⟨some 31, .pick (.s 25) (.s 30) (.c (.bool false)), none⟩])
  (.cond (.s 31) (.seq (.reg [⟨some 4, .mv (.c (.slice none 0 0)), none⟩,
    ⟨some 5, .mv (.c (.int .i64 9)), none⟩])
  .ret)
  .skip))
  (.seq (.reg [⟨some 9, .mv (.c (.slice none 0 0)), none⟩])
  (.seq (.reg [⟨some 10, .mv (.c (.bool false)), none⟩])
  (.seq (.seq (.reg [⟨some 11, .mv (.c (.int .i64 0)), none⟩])
  (.block 0 (.loop (.seq (.seq (.reg [⟨some 32, .mv (.s 11), none⟩,
    ⟨some 33, .mv (.s 0), none⟩,
    ⟨some 34, .len (.s 33), none⟩,
    ⟨some 35, .int .lss (.s 32) (.s 34), none⟩])
  (.cond (.s 35) .skip
  (.exit 0)))
  (.seq (.block 1 (.seq (.seq (.dreg [0, 1, 2, 3, 4, 5, 6, 8, 7, 9, 10, 11, 12] [⟨⟨some 38, .mv (.s 10), none⟩, []⟩,
    ⟨⟨some 39, .not (.s 38), none⟩, []⟩,
    ⟨⟨some 40, .mv (.s 39), none⟩, []⟩,
    ⟨⟨some 41, .mv (.s 0), (some (40, true))⟩, []⟩,
    ⟨⟨some 42, .mv (.s 11), (some (40, true))⟩, []⟩,
    ⟨⟨some 43, .idx 3 (.s 41) (.s 42), (some (40, true))⟩, []⟩,
    ⟨⟨some 44, .fld 0 (.s 43), (some (40, true))⟩, []⟩,
    ⟨⟨some 46, .fld 0 (.s 3), (some (40, true))⟩, []⟩,
    ⟨⟨some 45, .load false 1 (.s 44), (some (40, true))⟩, []⟩,
    ⟨⟨some 47, .load false 1 (.s 46), (some (40, true))⟩, []⟩,
    ⟨⟨some 48, .call 176 [(.s 45), (.s 47)], (some (40, true))⟩, []⟩,
    ⟨⟨some 49, .not (.s 48), (some (40, true))⟩, []⟩,
    ⟨⟨some 50, .pick (.s 40) (.s 49) (.c (.bool false)), none⟩, []⟩])
  (.cond (.s 50) (.seq (.reg [⟨some 51, .mv (.s 9), none⟩,
    ⟨some 52, .load true 3 (.s 3), none⟩,
    ⟨some 53, .bslice 3 [(.s 52)], none⟩,
    ⟨some 54, .app 3 48 (.s 51) (.s 53), none⟩,
    ⟨some 9, .mv (.s 54), none⟩])
  (.reg [⟨some 10, .mv (.c (.bool true)), none⟩]))
  .skip))
  (.seq (.dreg [0, 1, 2, 3, 5, 4, 6, 7] [⟨⟨some 55, .mv (.s 0), none⟩, []⟩,
    ⟨⟨some 56, .mv (.s 11), none⟩, []⟩,
    ⟨⟨some 57, .idx 3 (.s 55) (.s 56), none⟩, []⟩,
    ⟨⟨some 58, .fld 0 (.s 57), none⟩, []⟩,
    ⟨⟨some 60, .fld 0 (.s 3), none⟩, []⟩,
    ⟨⟨some 59, .load false 1 (.s 58), none⟩, []⟩,
    ⟨⟨some 61, .load false 1 (.s 60), none⟩, []⟩,
    ⟨⟨some 62, .str .neq (.s 59) (.s 61), none⟩, []⟩])
  (.cond (.s 62) (.reg [⟨some 63, .mv (.s 9), none⟩,
    ⟨some 64, .mv (.s 0), none⟩,
    ⟨some 65, .mv (.s 11), none⟩,
    ⟨some 66, .idx 3 (.s 64) (.s 65), none⟩,
    ⟨some 67, .load true 3 (.s 66), none⟩,
    ⟨some 68, .bslice 3 [(.s 67)], none⟩,
    ⟨some 69, .app 3 48 (.s 63) (.s 68), none⟩,
    ⟨some 9, .mv (.s 69), none⟩])
  .skip))))
  (.reg [⟨some 36, .mv (.s 11), none⟩,
    ⟨some 37, .int .add (.s 36) (.c (.int .i64 1)), none⟩,
    ⟨some 11, .mv (.s 37), none⟩]))))))
  (.seq (.seq (.reg [⟨some 70, .mv (.s 10), none⟩,
    ⟨some 71, .not (.s 70), none⟩])
  (.cond (.s 71) (.reg [⟨some 72, .mv (.s 9), none⟩,
    ⟨some 73, .load true 3 (.s 3), none⟩,
    ⟨some 74, .bslice 3 [(.s 73)], none⟩,
    ⟨some 75, .app 3 48 (.s 72) (.s 74), none⟩,
    ⟨some 9, .mv (.s 75), none⟩])
  .skip))
  (.seq (.reg [⟨some 76, .mv (.s 9), none⟩,
    ⟨some 77, .call 175 [(.s 76)], none⟩,
    ⟨some 6, .mv (.s 77), none⟩])
  (.seq (.seq (.reg [⟨some 78, .mv (.s 6), none⟩,
    ⟨some 79, .int .neq (.s 78) (.c (.int .i64 0)), none⟩])
  (.cond (.s 79) (.seq (.reg [⟨some 80, .mv (.s 6), none⟩,
    ⟨some 4, .mv (.c (.slice none 0 0)), none⟩,
    ⟨some 5, .mv (.s 80), none⟩])
  .ret)
  .skip))
  (.seq (.reg [⟨some 81, .mv (.s 9), none⟩,
    ⟨some 4, .mv (.s 81), none⟩,
    ⟨some 5, .mv (.c (.int .i64 0)), none⟩])
  .ret))))))))))))⟩

/-- sumpter/tree.Remove -/
def sf158 : SF :=
  ⟨2, 38, [.t 4, .t 5],
  (.seq (.reg [⟨some 4, .mv (.c (.slice none 0 0)), none⟩,
    ⟨some 5, .mv (.c (.int .i64 0)), none⟩])
  (.seq (.seq (.reg [⟨some 8, .mv (.s 0), none⟩,
    ⟨some 9, .call 161 [(.s 8)], none⟩,
    ⟨some 6, .mv (.s 9), none⟩])
  (.seq (.reg [⟨some 10, .mv (.s 6), none⟩,
    ⟨some 11, .int .neq (.s 10) (.c (.int .i64 0)), none⟩])
  (.cond (.s 11) (.seq (.reg [⟨some 12, .mv (.s 6), none⟩,
    ⟨some 4, .mv (.c (.slice none 0 0)), none⟩,
    ⟨some 5, .mv (.s 12), none⟩])
  .ret)
  .skip)))
  (.seq (.reg [⟨some 13, .mv (.s 0), none⟩,
    ⟨some 14, .mv (.s 1), none⟩,
    ⟨some 15, .call 166 [(.s 13), (.s 14)], none⟩,
    ⟨some 7, .mv (.s 15), none⟩])
  (.seq (.block 0 (.seq (.reg [⟨some 17, .mv (.s 7), none⟩,
    ⟨some 18, .int .lss (.s 17) (.c (.int .i64 0)), none⟩,
    ⟨some 16, .mv (.s 18), none⟩])
  (.cond (.s 16) (.seq (.reg [⟨some 4, .mv (.c (.slice none 0 0)), none⟩,
    ⟨some 5, .mv (.c (.int .i64 8)), none⟩])
  .ret)
  (.seq (.reg [⟨some 20, .mv (.s 0), none⟩,
    ⟨some 21, .mv (.s 7), none⟩,
    ⟨some 22, .idx 3 (.s 20) (.s 21), none⟩,
    ⟨some 23, .fld 1 (.s 22), none⟩,
    ⟨some 24, .load false 1 (.s 23), none⟩,
    ⟨some 25, .mv (.s 24), none⟩,
    ⟨some 26, .mv (.s 0), (some (25, true))⟩,
    ⟨some 27, .mv (.s 1), (some (25, true))⟩,
    ⟨some 28, .call 152 [(.s 26), (.s 27)], (some (25, true))⟩,
    ⟨some 29, .len (.s 28), (some (25, true))⟩,
    ⟨some 30, .int .gtr (.s 29) (.c (.int .i64 0)), (some (25, true))⟩,
    ⟨some 31, .pick (.s 25) (.s 30) (.c (.bool false)), none⟩,
    ⟨some 19, .mv (.s 31), none⟩])
  (.cond (.s 19) (.seq (.reg [⟨some 4, .mv (.c (.slice none 0 0)), none⟩,
    ⟨some 5, .mv (.c (.int .i64 10)), none⟩])
  .ret)
  .skip)))))
  (.seq (.reg [⟨some 32, .mv (.s 0), none⟩,
    ⟨some 33, .call 171 [(.s 32)], none⟩,
    ⟨some 34, .mv (.s 7), none⟩,
    ⟨some 35, .mv (.s 7), none⟩,
    ⟨some 36, .int .add (.s 35) (.c (.int .i64 1)), none⟩,
    ⟨some 37, .call 177 [(.s 33), (.s 34), (.s 36)], none⟩,
    ⟨some 4, .mv (.s 37), none⟩,
    ⟨some 5, .mv (.c (.int .i64 0)), none⟩])
  .ret)))))⟩

/-- sumpter/sumpterref08.Remove -/
def sf159 : SF :=
  ⟨2, 56, [.t 4, .t 5],
  (.seq (.reg [⟨some 4, .mv (.c (.slice none 0 0)), none⟩,
    ⟨some 5, .mv (.c (.int .i64 0)), none⟩])
  (.seq (.reg [⟨some 11, .mv (.s 0), none⟩,
    ⟨some 12, .call 175 [(.s 11)], none⟩,
    ⟨some 6, .mv (.s 12), none⟩])
  (.seq (.seq (.reg [⟨some 13, .mv (.s 6), none⟩,
    ⟨some 14, .int .neq (.s 13) (.c (.int .i64 0)), none⟩])
  (.cond (.s 14) (.seq (.reg [⟨some 15, .mv (.s 6), none⟩,
    ⟨some 4, .mv (.c (.slice none 0 0)), none⟩,
    ⟨some 5, .mv (.s 15), none⟩])
  .ret)
  .skip))
  (.seq (.reg [⟨some 17, .mv (.s 0), none⟩,
    ⟨some 18, .mv (.s 1), none⟩,
    ⟨some 19, .call 151 [(.s 17), (.s 18)], none⟩,
    ⟨some 16, .mv (.s 19), none⟩,
    ⟨some 20, .ext (.s 16) 0, none⟩,
    ⟨some 21, .ext (.s 16) 1, none⟩,
    ⟨some 7, .alloc (some 0) [.v (.string ⟨#[]⟩), .v (.bool false), .v (.slice none 0 0)], none⟩,
    ⟨none, .store 3 (.s 7) (.s 20), none⟩,
    ⟨some 8, .mv (.s 21), none⟩])
  (.seq (.block 0 (.seq (.reg [⟨some 23, .mv (.s 8), none⟩,
    ⟨some 24, .not (.s 23), none⟩,
    ⟨some 22, .mv (.s 24), none⟩])
  (.cond (.s 22) (.seq (.reg [⟨some 4, .mv (.c (.slice none 0 0)), none⟩,
    ⟨some 5, .mv (.c (.int .i64 8)), none⟩])
  .ret)
  (.seq (.reg [⟨some 26, .fld 1 (.s 7), none⟩,
    ⟨some 27, .load false 1 (.s 26), none⟩,
    ⟨some 28, .mv (.s 27), none⟩,
    ⟨some 29, .mv (.s 0), (some (28, true))⟩,
    ⟨some 30, .mv (.s 1), (some (28, true))⟩,
    ⟨some 31, .call 153 [(.s 29), (.s 30)], (some (28, true))⟩,
    ⟨some 32, .len (.s 31), (some (28, true))⟩,
    ⟨some 33, .int .gtr (.s 32) (.c (.int .i64 0)), (some (28, true))⟩,
    ⟨some 34, .pick (.s 28) (.s 33) (.c (.bool false)), none⟩,
    ⟨some 25, .mv (.s 34), none⟩])
  (.cond (.s 25) (.seq (.reg [⟨some 4, .mv (.c (.slice none 0 0)), none⟩,
    ⟨some 5, .mv (.c (.int .i64 10)), none⟩])
  .ret)
  .skip)))))
  (.seq (.reg [⟨some 9, .mv (.c (.slice none 0 0)), none⟩])
  (.seq (.seq (.reg [⟨some 10, .mv (.c (.int .i64 0)), none⟩])
  (.block 1 (.loop (.seq (.seq (.reg [⟨some 35, .mv (.s 10), none⟩,
    ⟨some 36, .mv (.s 0), none⟩,
    ⟨some 37, .len (.s 36), none⟩,
    ⟨some 38, .int .lss (.s 35) (.s 37), none⟩])
  (.cond (.s 38) .skip
  (.exit 1)))
  (.seq (.block 2 (.seq (.reg [⟨some 41, .mv (.s 0), none⟩,
    ⟨some 42, .mv (.s 10), none⟩,
    ⟨some 43, .idx 3 (.s 41) (.s 42), none⟩,
    ⟨some 44, .fld 0 (.s 43), none⟩,
    ⟨some 45, .load false 1 (.s 44), none⟩,
    ⟨some 46, .mv (.s 1), none⟩,
    ⟨some 47, .str .neq (.s 45) (.s 46), none⟩])
  (.cond (.s 47) (.reg [⟨some 48, .mv (.s 9), none⟩,
    ⟨some 49, .mv (.s 0), none⟩,
    ⟨some 50, .mv (.s 10), none⟩,
    ⟨some 51, .idx 3 (.s 49) (.s 50), none⟩,
    ⟨some 52, .load true 3 (.s 51), none⟩,
    ⟨some 53, .bslice 3 [(.s 52)], none⟩,
    ⟨some 54, .app 3 48 (.s 48) (.s 53), none⟩,
    ⟨some 9, .mv (.s 54), none⟩])
  .skip)))
  (.reg [⟨some 39, .mv (.s 10), none⟩,
    ⟨some 40, .int .add (.s 39) (.c (.int .i64 1)), none⟩,
    ⟨some 10, .mv (.s 40), none⟩]))))))
  (.seq (.reg [⟨some 55, .mv (.s 9), none⟩,
    ⟨some 4, .mv (.s 55), none⟩,
    ⟨some 5, .mv (.c (.int .i64 0)), none⟩])
  .ret))))))))⟩

/-- sumpter/sumpterref08.Same -/
def sf160 : SF :=
  ⟨2, 27, [.t 4],
  (.seq (.reg [⟨some 4, .mv (.c (.bool false)), none⟩])
  (.seq (.seq (.reg [⟨some 6, .mv (.s 0), none⟩,
    ⟨some 7, .len (.s 6), none⟩,
    ⟨some 8, .mv (.s 1), none⟩,
    ⟨some 9, .len (.s 8), none⟩,
    ⟨some 10, .int .neq (.s 7) (.s 9), none⟩])
  (.cond (.s 10) (.seq (.reg [⟨some 4, .mv (.c (.bool false)), none⟩])
  .ret)
  .skip))
  (.seq (.seq (.reg [⟨some 5, .mv (.c (.int .i64 0)), none⟩])
  (.block 0 (.loop (.seq (.seq (.reg [⟨some 11, .mv (.s 5), none⟩,
    ⟨some 12, .mv (.s 0), none⟩,
    ⟨some 13, .len (.s 12), none⟩,
    ⟨some 14, .int .lss (.s 11) (.s 13), none⟩])
  (.cond (.s 14) .skip
  (.exit 0)))
  (.seq (.block 1 (.seq (.dreg [0, 1, 2, 4, 5, 6, 3, 7, 8, 9] [⟨⟨some 17, .mv (.s 0), none⟩, []⟩,
    ⟨⟨some 18, .mv (.s 5), none⟩, []⟩,
    ⟨⟨some 19, .idx 3 (.s 17) (.s 18), none⟩, []⟩,
    ⟨⟨some 21, .mv (.s 1), none⟩, []⟩,
    ⟨⟨some 22, .mv (.s 5), none⟩, []⟩,
    ⟨⟨some 23, .idx 3 (.s 21) (.s 22), none⟩, []⟩,
    ⟨⟨some 20, .load true 3 (.s 19), none⟩, []⟩,
    ⟨⟨some 24, .load true 3 (.s 23), none⟩, []⟩,
    ⟨⟨some 25, .call 154 [(.s 20), (.s 24)], none⟩, []⟩,
    ⟨⟨some 26, .not (.s 25), none⟩, []⟩])
  (.cond (.s 26) (.seq (.reg [⟨some 4, .mv (.c (.bool false)), none⟩])
  .ret)
  .skip)))
  (.reg [⟨some 15, .mv (.s 5), none⟩,
    ⟨some 16, .int .add (.s 15) (.c (.int .i64 1)), none⟩,
    ⟨some 5, .mv (.s 16), none⟩]))))))
  (.seq (.reg [⟨some 4, .mv (.c (.bool true)), none⟩])
  .ret))))⟩

/-- sumpter/tree.Check -/
def sf161 : SF :=
  ⟨1, 25, [.t 2],
  (.seq (.reg [⟨some 2, .mv (.c (.int .i64 0)), none⟩])
  (.seq (.seq (.reg [⟨some 6, .mv (.s 0), none⟩,
    ⟨some 7, .len (.s 6), none⟩,
    ⟨some 8, .int .gtr (.s 7) (.c (.int .i64 64)), none⟩])
  (.cond (.s 8) (.seq (.reg [⟨some 2, .mv (.c (.int .i64 5)), none⟩])
  .ret)
  .skip))
  (.seq (.seq (.reg [⟨some 9, .mv (.s 0), none⟩,
    ⟨some 10, .len (.s 9), none⟩,
    ⟨some 11, .mv (.c (.int .i64 0)), none⟩])
  (.block 0 (.loop (.seq (.reg [⟨some 12, .int .lss (.s 11) (.s 10), none⟩])
  (.seq (.cond (.s 12) .skip
  (.exit 0))
  (.seq (.block 1 (.seq (.reg [⟨some 13, .mv (.s 11), none⟩,
    ⟨some 14, .idx 3 (.s 9) (.s 11), none⟩,
    ⟨some 15, .load true 3 (.s 14), none⟩,
    ⟨some 4, .alloc (some 0) [.v (.string ⟨#[]⟩), .v (.bool false), .v (.slice none 0 0)], none⟩,
    ⟨some 3, .mv (.s 13), none⟩,
    ⟨none, .store 3 (.s 4) (.s 15), none⟩])
  (.seq (.dreg [0, 1, 2, 3, 4, 5] [⟨⟨some 16, .mv (.s 0), none⟩, []⟩,
    ⟨⟨some 17, .mv (.s 3), none⟩, []⟩,
    ⟨⟨some 18, .slc 3 (.s 16) none (some (.s 17)) none, none⟩, []⟩,
    ⟨⟨some 19, .load true 3 (.s 4), none⟩, []⟩,
    ⟨⟨some 20, .call 178 [(.s 18), (.s 19)], none⟩, []⟩,
    ⟨⟨some 5, .mv (.s 20), none⟩, []⟩])
  (.seq (.reg [⟨some 21, .mv (.s 5), none⟩,
    ⟨some 22, .int .neq (.s 21) (.c (.int .i64 0)), none⟩])
  (.cond (.s 22) (.seq (.reg [⟨some 23, .mv (.s 5), none⟩,
    ⟨some 2, .mv (.s 23), none⟩])
  .ret)
  .skip)))))
  (.reg [⟨some 24, .int .add (.s 11) (.c (.int .i64 1)), none⟩,
    ⟨some 11, .mv (.s 24), none⟩])))))))
  (.seq (.reg [⟨some 2, .mv (.c (.int .i64 0)), none⟩])
  .ret))))⟩

/-- sumpter/tree.Same -/
def sf162 : SF :=
  ⟨2, 8, [.t 4],
  (.seq (.reg [⟨some 4, .mv (.c (.bool false)), none⟩])
  (.seq (.reg [⟨some 5, .mv (.s 0), none⟩,
    ⟨some 6, .mv (.s 1), none⟩,
    ⟨some 7, .call 179 [(.s 5), (.s 6), (.f 180)], none⟩,
    ⟨some 4, .mv (.s 7), none⟩])
  .ret))⟩

/-- sumpter/path.Less -/
def sf163 : SF :=
  ⟨2, 11, [.t 4],
  (.seq (.reg [⟨some 4, .mv (.c (.bool false)), none⟩])
  (.seq (.reg [⟨some 5, .mv (.s 0), none⟩,
    ⟨some 6, .call 181 [(.s 5)], none⟩,
    ⟨some 7, .mv (.s 1), none⟩,
    ⟨some 8, .call 181 [(.s 7)], none⟩,
    ⟨some 9, .call 182 [(.s 6), (.s 8)], none⟩,
    ⟨some 10, .int .lss (.s 9) (.c (.int .i64 0)), none⟩,
    ⟨some 4, .mv (.s 10), none⟩])
  .ret))⟩

/-- sumpter/path.Parent -/
def sf164 : SF :=
  ⟨1, 11, [.t 2],
  (.seq (.reg [⟨some 2, .mv (.c (.string ⟨#[]⟩)), none⟩])
  (.seq (.reg [⟨some 6, .mv (.s 0), none⟩,
    ⟨some 7, .call 183 [(.s 6)], none⟩,
    ⟨some 5, .mv (.s 7), none⟩,
    ⟨some 8, .ext (.s 5) 0, none⟩,
    ⟨some 9, .ext (.s 5) 1, none⟩,
    ⟨some 3, .mv (.s 8), none⟩,
    ⟨some 4, .mv (.s 9), none⟩])
  (.seq (.reg [⟨some 10, .mv (.s 3), none⟩,
    ⟨some 2, .mv (.s 10), none⟩])
  .ret)))⟩

/-- sumpter/tree.Visible -/
def sf165 : SF :=
  ⟨1, 6, [.t 2],
  (.seq (.reg [⟨some 2, .mv (.c (.slice none 0 0)), none⟩])
  (.seq (.reg [⟨some 3, .mv (.s 0), none⟩,
    ⟨some 4, .call 169 [(.s 3), (.f 184)], none⟩,
    ⟨some 5, .call 171 [(.s 4)], none⟩,
    ⟨some 2, .mv (.s 5), none⟩])
  .ret))⟩

/-- sumpter/tree.find -/
def sf166 : SF :=
  ⟨2, 8, [.t 4],
  (.seq (.reg [⟨some 3, .box none 1 (.s 1), none⟩,
    ⟨some 4, .mv (.c (.int .i64 0)), none⟩])
  (.seq (.reg [⟨some 5, .mv (.s 0), none⟩,
    ⟨some 6, .mkfn 185 [(.s 3)], none⟩,
    ⟨some 7, .call 173 [(.s 5), (.s 6)], none⟩,
    ⟨some 4, .mv (.s 7), none⟩])
  .ret))⟩

/-- sumpter/tree.own -/
def sf167 : SF :=
  ⟨1, 8, [.cell 2 true 3],
  (.seq (.reg [⟨some 1, .box (some 0) 3 (.s 0), none⟩,
    ⟨some 2, .alloc (some 1) [.v (.string ⟨#[]⟩), .v (.bool false), .v (.slice none 0 0)], none⟩])
  (.seq (.reg [⟨some 3, .fld 2 (.s 1), none⟩,
    ⟨some 4, .load false 1 (.s 3), none⟩,
    ⟨some 5, .call 186 [(.s 4)], none⟩,
    ⟨some 6, .fld 2 (.s 1), none⟩,
    ⟨none, .store 1 (.s 6) (.s 5), none⟩])
  (.seq (.reg [⟨some 7, .load true 3 (.s 1), none⟩,
    ⟨none, .store 3 (.s 2) (.s 7), none⟩])
  .ret)))⟩

/-- sumpter/tree.Children$1 -/
def sf168 : SF :=
  ⟨2, 9, [.t 3],
  (.seq (.reg [⟨some 2, .box (some 0) 3 (.s 0), none⟩,
    ⟨some 3, .mv (.c (.bool false)), none⟩])
  (.seq (.dreg [0, 1, 3, 2, 4, 5] [⟨⟨some 4, .fld 0 (.s 2), none⟩, []⟩,
    ⟨⟨some 5, .load false 1 (.s 4), none⟩, []⟩,
    ⟨⟨some 7, .load false 1 (.s 1), none⟩, []⟩,
    ⟨⟨some 6, .call 164 [(.s 5)], none⟩, [2]⟩,
    ⟨⟨some 8, .str .eql (.s 6) (.s 7), none⟩, []⟩,
    ⟨⟨some 3, .mv (.s 8), none⟩, []⟩])
  .ret))⟩

/-- sumpter/tree.keep[sumpter/api.Entry] -/
def sf169 : SF :=
  ⟨2, 23, [.t 4],
  (.seq (.reg [⟨some 4, .mv (.c (.slice none 0 0)), none⟩])
  (.seq (.reg [⟨some 5, .mv (.c (.slice none 0 0)), none⟩])
  (.seq (.seq (.reg [⟨some 8, .mv (.s 0), none⟩,
    ⟨some 9, .len (.s 8), none⟩,
    ⟨some 10, .mv (.c (.int .i64 0)), none⟩])
  (.block 0 (.loop (.seq (.reg [⟨some 11, .int .lss (.s 10) (.s 9), none⟩])
  (.seq (.cond (.s 11) .skip
  (.exit 0))
  (.seq (.block 1 (.seq (.reg [⟨some 12, .idx 3 (.s 8) (.s 10), none⟩,
    ⟨some 13, .load true 3 (.s 12), none⟩,
    ⟨some 7, .alloc (some 0) [.v (.string ⟨#[]⟩), .v (.bool false), .v (.slice none 0 0)], none⟩,
    ⟨none, .store 3 (.s 7) (.s 13), none⟩])
  (.seq (.reg [⟨some 14, .mv (.s 1), none⟩,
    ⟨some 15, .load true 3 (.s 7), none⟩,
    ⟨some 16, .callv (.s 14) [(.s 15)], none⟩])
  (.cond (.s 16) (.reg [⟨some 17, .mv (.s 5), none⟩,
    ⟨some 18, .load true 3 (.s 7), none⟩,
    ⟨some 19, .bslice 3 [(.s 18)], none⟩,
    ⟨some 20, .app 3 48 (.s 17) (.s 19), none⟩,
    ⟨some 5, .mv (.s 20), none⟩])
  .skip))))
  (.reg [⟨some 21, .int .add (.s 10) (.c (.int .i64 1)), none⟩,
    ⟨some 10, .mv (.s 21), none⟩])))))))
  (.seq (.reg [⟨some 22, .mv (.s 5), none⟩,
    ⟨some 4, .mv (.s 22), none⟩])
  .ret))))⟩

/-- sumpter/sumpterref07.Parent -/
def sf170 : SF :=
  ⟨1, 10, [.t 2],
  (.seq (.reg [⟨some 2, .mv (.c (.string ⟨#[]⟩)), none⟩])
  (.seq (.seq (.reg [⟨some 3, .mv (.s 0), none⟩,
    ⟨some 4, .call 187 [(.s 3)], none⟩,
    ⟨some 5, .int .lss (.s 4) (.c (.int .i64 0)), none⟩])
  (.cond (.s 5) (.seq (.reg [⟨some 2, .mv (.c (.string ⟨#[]⟩)), none⟩])
  .ret)
  .skip))
  (.seq (.reg [⟨some 6, .mv (.s 0), none⟩,
    ⟨some 7, .mv (.s 0), none⟩,
    ⟨some 8, .call 187 [(.s 7)], none⟩,
    ⟨some 9, .ssl (.s 6) none (some (.s 8)), none⟩,
    ⟨some 2, .mv (.s 9), none⟩])
  .ret)))⟩

/-- sumpter/tree.Copy -/
def sf171 : SF :=
  ⟨1, 22, [.t 2],
  (.seq (.reg [⟨some 2, .mv (.c (.slice none 0 0)), none⟩])
  (.seq (.reg [⟨some 6, .mv (.s 0), none⟩,
    ⟨some 7, .call 188 [(.s 6)], none⟩,
    ⟨some 3, .mv (.s 7), none⟩])
  (.seq (.seq (.reg [⟨some 8, .mv (.s 3), none⟩,
    ⟨some 9, .len (.s 8), none⟩,
    ⟨some 10, .mv (.c (.int .i64 0)), none⟩])
  (.block 0 (.loop (.seq (.reg [⟨some 11, .int .lss (.s 10) (.s 9), none⟩])
  (.seq (.cond (.s 11) .skip
  (.exit 0))
  (.seq (.block 1 (.seq (.reg [⟨some 12, .mv (.s 10), none⟩,
    ⟨some 13, .idx 3 (.s 8) (.s 10), none⟩,
    ⟨some 14, .load true 3 (.s 13), none⟩,
    ⟨some 5, .alloc (some 0) [.v (.string ⟨#[]⟩), .v (.bool false), .v (.slice none 0 0)], none⟩,
    ⟨some 4, .mv (.s 12), none⟩,
    ⟨none, .store 3 (.s 5) (.s 14), none⟩])
  (.reg [⟨some 15, .mv (.s 3), none⟩,
    ⟨some 16, .mv (.s 4), none⟩,
    ⟨some 17, .load true 3 (.s 5), none⟩,
    ⟨some 18, .call 167 [(.s 17)], none⟩,
    ⟨some 19, .idx 3 (.s 15) (.s 16), none⟩,
    ⟨none, .store 3 (.s 19) (.s 18), none⟩])))
  (.reg [⟨some 20, .int .add (.s 10) (.c (.int .i64 1)), none⟩,
    ⟨some 10, .mv (.s 20), none⟩])))))))
  (.seq (.reg [⟨some 21, .mv (.s 3), none⟩,
    ⟨some 2, .mv (.s 21), none⟩])
  .ret))))⟩

/-- sumpter/tree.Put$1 -/
def sf172 : SF :=
  ⟨2, 9, [.t 3],
  (.seq (.reg [⟨some 2, .box (some 0) 3 (.s 0), none⟩,
    ⟨some 3, .mv (.c (.bool false)), none⟩])
  (.seq (.reg [⟨some 4, .fld 0 (.s 1), none⟩,
    ⟨some 5, .load false 1 (.s 4), none⟩,
    ⟨some 6, .fld 0 (.s 2), none⟩,
    ⟨some 7, .load false 1 (.s 6), none⟩,
    ⟨some 8, .call 163 [(.s 5), (.s 7)], none⟩,
    ⟨some 3, .mv (.s 8), none⟩])
  .ret))⟩

/-- sumpter/tree.where[sumpter/api.Entry] -/
def sf173 : SF :=
  ⟨2, 8, [.t 4],
  (.seq (.reg [⟨some 4, .mv (.c (.int .i64 0)), none⟩])
  (.seq (.reg [⟨some 5, .mv (.s 0), none⟩,
    ⟨some 6, .mv (.s 1), none⟩,
    ⟨some 7, .call 189 [(.s 5), (.s 6)], none⟩,
    ⟨some 4, .mv (.s 7), none⟩])
  .ret))⟩

/-- slices.Insert[[]sumpter/api.Entry,sumpter/api.Entry] -/
def sf174 : SF :=
  ⟨3, 95, [.t 6],
  (.seq (.reg [⟨some 6, .mv (.c (.slice none 0 0)), none⟩])
  (.seq (.reg [⟨some 10, .mv (.s 0), none⟩,
    ⟨some 11, .mv (.s 1), none⟩,
    ⟨some 12, .slc 3 (.s 10) (some (.s 11)) none none, none⟩])
  (.seq (.reg [⟨some 13, .mv (.s 2), none⟩,
    ⟨some 14, .len (.s 13), none⟩,
    ⟨some 7, .mv (.s 14), none⟩])
  (.seq (.seq (.reg [⟨some 15, .mv (.s 7), none⟩,
    ⟨some 16, .int .eql (.s 15) (.c (.int .i64 0)), none⟩])
  (.cond (.s 16) (.seq (.reg [⟨some 17, .mv (.s 0), none⟩,
    ⟨some 6, .mv (.s 17), none⟩])
  .ret)
  .skip))
  (.seq (.reg [⟨some 18, .mv (.s 0), none⟩,
    ⟨some 19, .len (.s 18), none⟩,
    ⟨some 8, .mv (.s 19), none⟩])
  (.seq (.seq (.reg [⟨some 20, .mv (.s 1), none⟩,
    ⟨some 21, .mv (.s 8), none⟩,
    ⟨some 22, .int .eql (.s 20) (.s 21), none⟩])
  (.cond (.s 22) (.seq (.reg [⟨some 23, .mv (.s 0), none⟩,
    ⟨some 24, .mv (.s 2), none⟩,
    ⟨some 25, .app 3 48 (.s 23) (.s 24), none⟩,
    ⟨some 6, .mv (.s 25), none⟩])
  .ret)
  .skip))
  (.seq (.seq (.reg [⟨some 26, .mv (.s 8), none⟩,
    ⟨some 27, .mv (.s 7), none⟩,
    ⟨some 28, .int .add (.s 26) (.s 27), none⟩,
    ⟨some 29, .mv (.s 0), none⟩,
    ⟨some 30, .nd .cap [(.s 29)], none⟩,
    ⟨some 31, .int .gtr (.s 28) (.s 30), none⟩])
  (.cond (.s 31) (.seq (.reg [⟨some 32, .mv (.s 0), none⟩,
    ⟨some 33, .mv (.s 1), none⟩,
    ⟨some 34, .slc 3 (.s 32) none (some (.s 33)) none, none⟩,
    ⟨some 35, .mv (.s 8), none⟩,
    ⟨some 36, .mv (.s 7), none⟩,
    ⟨some 37, .int .add (.s 35) (.s 36), none⟩,
    ⟨some 38, .mv (.s 1), none⟩,
    ⟨some 39, .int .sub (.s 37) (.s 38), none⟩,
    ⟨some 40, .hop (.appz 3 48 [.v (.string ⟨#[]⟩), .v (.bool false), .v (.slice none 0 0)]) [(.s 34), (.s 39)], none⟩,
    ⟨some 9, .mv (.s 40), none⟩])
  (.seq (.reg [⟨some 41, .mv (.s 9), none⟩,
    ⟨some 42, .mv (.s 1), none⟩,
    ⟨some 43, .slc 3 (.s 41) (some (.s 42)) none none, none⟩,
    ⟨some 44, .mv (.s 2), none⟩,
    ⟨some 45, .hop (.copy 3) [(.s 43), (.s 44)], none⟩])
  (.seq (.dreg [0, 1, 2, 3, 4, 5, 6, 7, 8] [⟨⟨some 46, .mv (.s 9), none⟩, []⟩,
    ⟨⟨some 47, .mv (.s 1), none⟩, []⟩,
    ⟨⟨some 48, .mv (.s 7), none⟩, []⟩,
    ⟨⟨some 49, .int .add (.s 47) (.s 48), none⟩, []⟩,
    ⟨⟨some 50, .slc 3 (.s 46) (some (.s 49)) none none, none⟩, []⟩,
    ⟨⟨some 51, .mv (.s 0), none⟩, []⟩,
    ⟨⟨some 52, .mv (.s 1), none⟩, []⟩,
    ⟨⟨some 53, .slc 3 (.s 51) (some (.s 52)) none none, none⟩, []⟩,
    ⟨⟨some 54, .hop (.copy 3) [(.s 50), (.s 53)], none⟩, []⟩])
  (.seq (.reg [⟨some 55, .mv (.s 9), none⟩,
    ⟨some 6, .mv (.s 55), none⟩])
  .ret))))
  .skip))
  (.seq (.reg [⟨some 56, .mv (.s 0), none⟩,
    ⟨some 57, .mv (.s 8), none⟩,
    ⟨some 58, .mv (.s 7), none⟩,
    ⟨some 59, .int .add (.s 57) (.s 58), none⟩,
    ⟨some 60, .slc 3 (.s 56) none (some (.s 59)) none, none⟩,
    ⟨some 0, .mv (.s 60), none⟩])
  (.seq (.seq (.reg [⟨some 61, .mv (.s 2), none⟩,
    ⟨some 62, .mv (.s 0), none⟩,
    ⟨some 63, .mv (.s 1), none⟩,
    ⟨some 64, .mv (.s 7), none⟩,
    ⟨some 65, .int .add (.s 63) (.s 64), none⟩,
    ⟨some 66, .slc 3 (.s 62) (some (.s 65)) none none, none⟩,
    ⟨some 67, .hop (.ovl 3) [(.s 61), (.s 66)], none⟩,
    ⟨some 68, .not (.s 67), none⟩])
  (.cond (.s 68) (.seq (.dreg [0, 1, 2, 3, 4, 5, 6, 7, 8] [⟨⟨some 69, .mv (.s 0), none⟩, []⟩,
    ⟨⟨some 70, .mv (.s 1), none⟩, []⟩,
    ⟨⟨some 71, .mv (.s 7), none⟩, []⟩,
    ⟨⟨some 72, .int .add (.s 70) (.s 71), none⟩, []⟩,
    ⟨⟨some 73, .slc 3 (.s 69) (some (.s 72)) none none, none⟩, []⟩,
    ⟨⟨some 74, .mv (.s 0), none⟩, []⟩,
    ⟨⟨some 75, .mv (.s 1), none⟩, []⟩,
    ⟨⟨some 76, .slc 3 (.s 74) (some (.s 75)) none none, none⟩, []⟩,
    ⟨⟨some 77, .hop (.copy 3) [(.s 73), (.s 76)], none⟩, []⟩])
  (.seq (.reg [⟨some 78, .mv (.s 0), none⟩,
    ⟨some 79, .mv (.s 1), none⟩,
    ⟨some 80, .slc 3 (.s 78) (some (.s 79)) none none, none⟩,
    ⟨some 81, .mv (.s 2), none⟩,
    ⟨some 82, .hop (.copy 3) [(.s 80), (.s 81)], none⟩])
  (.seq (.reg [⟨some 83, .mv (.s 0), none⟩,
    ⟨some 6, .mv (.s 83), none⟩])
  .ret)))
  .skip))
  (.seq (.reg [⟨some 84, .mv (.s 0), none⟩,
    ⟨some 85, .mv (.s 8), none⟩,
    ⟨some 86, .slc 3 (.s 84) (some (.s 85)) none none, none⟩,
    ⟨some 87, .mv (.s 2), none⟩,
    ⟨some 88, .hop (.copy 3) [(.s 86), (.s 87)], none⟩])
  (.seq (.reg [⟨some 89, .mv (.s 0), none⟩,
    ⟨some 90, .mv (.s 1), none⟩,
    ⟨some 91, .slc 3 (.s 89) (some (.s 90)) none none, none⟩,
    ⟨some 92, .mv (.s 7), none⟩,
    ⟨some 93, .call 228 [(.s 91), (.s 92)], none⟩])
  (.seq (.reg [⟨some 94, .mv (.s 0), none⟩,
    ⟨some 6, .mv (.s 94), none⟩])
  .ret))))))))))))⟩

/-- sumpter/sumpterref08.Check -/
def sf175 : SF :=
  ⟨1, 20, [.t 2],
  (.seq (.reg [⟨some 2, .mv (.c (.int .i64 0)), none⟩])
  (.seq (.seq (.reg [⟨some 5, .mv (.s 0), none⟩,
    ⟨some 6, .len (.s 5), none⟩,
    ⟨some 7, .int .gtr (.s 6) (.c (.int .i64 64)), none⟩])
  (.cond (.s 7) (.seq (.reg [⟨some 2, .mv (.c (.int .i64 5)), none⟩])
  .ret)
  .skip))
  (.seq (.seq (.reg [⟨some 3, .mv (.c (.int .i64 0)), none⟩])
  (.block 0 (.loop (.seq (.seq (.reg [⟨some 8, .mv (.s 3), none⟩,
    ⟨some 9, .mv (.s 0), none⟩,
    ⟨some 10, .len (.s 9), none⟩,
    ⟨some 11, .int .lss (.s 8) (.s 10), none⟩])
  (.cond (.s 11) .skip
  (.exit 0)))
  (.seq (.block 1 (.seq (.reg [⟨some 14, .mv (.s 0), none⟩,
    ⟨some 15, .mv (.s 3), none⟩,
    ⟨some 16, .call 190 [(.s 14), (.s 15)], none⟩,
    ⟨some 4, .mv (.s 16), none⟩])
  (.seq (.reg [⟨some 17, .mv (.s 4), none⟩,
    ⟨some 18, .int .neq (.s 17) (.c (.int .i64 0)), none⟩])
  (.cond (.s 18) (.seq (.reg [⟨some 19, .mv (.s 4), none⟩,
    ⟨some 2, .mv (.s 19), none⟩])
  .ret)
  .skip))))
  (.reg [⟨some 12, .mv (.s 3), none⟩,
    ⟨some 13, .int .add (.s 12) (.c (.int .i64 1)), none⟩,
    ⟨some 3, .mv (.s 13), none⟩]))))))
  (.seq (.reg [⟨some 2, .mv (.c (.int .i64 0)), none⟩])
  .ret))))⟩

/-- sumpter/sumpterref07.Less -/
def sf176 : SF :=
  ⟨2, 47, [.t 4],
  (.seq (.reg [⟨some 4, .mv (.c (.bool false)), none⟩])
  (.seq (.reg [⟨some 8, .mv (.s 0), none⟩,
    ⟨some 9, .call 191 [(.s 8)], none⟩,
    ⟨some 10, .mv (.s 1), none⟩,
    ⟨some 11, .call 191 [(.s 10)], none⟩,
    ⟨some 5, .mv (.s 9), none⟩,
    ⟨some 6, .mv (.s 11), none⟩])
  (.seq (.seq (.reg [⟨some 7, .mv (.c (.int .i64 0)), none⟩])
  (.block 0 (.loop (.seq (.seq (.reg [⟨some 12, .mv (.s 7), none⟩,
    ⟨some 13, .mv (.s 5), none⟩,
    ⟨some 14, .len (.s 13), none⟩,
    ⟨some 15, .int .lss (.s 12) (.s 14), none⟩,
    ⟨some 16, .mv (.s 15), none⟩,
    ⟨some 17, .mv (.s 7), (some (16, true))⟩,
    ⟨some 18, .mv (.s 6), (some (16, true))⟩,
    ⟨some 19, .len (.s 18), (some (16, true))⟩,
    ⟨some 20, .int .lss (.s 17) (.s 19), (some (16, true))⟩,
    ⟨some 21, .pick (.s 16) (.s 20) (.c (.bool false)), none⟩])
  (.cond (.s 21) .skip
  (.exit 0)))
  (.seq (.block 1 (.seq (.dreg [0, 1, 2, 4, 5, 6, 3, 7, 8] [⟨⟨some 24, .mv (.s 5), none⟩, []⟩,
    ⟨⟨some 25, .mv (.s 7), none⟩, []⟩,
    ⟨⟨some 26, .idx 1 (.s 24) (.s 25), none⟩, []⟩,
    ⟨⟨some 28, .mv (.s 6), none⟩, []⟩,
    ⟨⟨some 29, .mv (.s 7), none⟩, []⟩,
    ⟨⟨some 30, .idx 1 (.s 28) (.s 29), none⟩, []⟩,
    ⟨⟨some 27, .load false 1 (.s 26), none⟩, []⟩,
    ⟨⟨some 31, .load false 1 (.s 30), none⟩, []⟩,
    ⟨⟨some 32, .str .neq (.s 27) (.s 31), none⟩, []⟩])
  (.cond (.s 32) (.seq (.dreg [0, 1, 2, 4, 5, 6, 3, 7, 8, 9] [⟨⟨some 33, .mv (.s 5), none⟩, []⟩,
    ⟨⟨some 34, .mv (.s 7), none⟩, []⟩,
    ⟨⟨some 35, .idx 1 (.s 33) (.s 34), none⟩, []⟩,
    ⟨⟨some 37, .mv (.s 6), none⟩, []⟩,
    ⟨⟨some 38, .mv (.s 7), none⟩, []⟩,
    ⟨⟨some 39, .idx 1 (.s 37) (.s 38), none⟩, []⟩,
    ⟨⟨some 36, .load false 1 (.s 35), none⟩, []⟩,
    ⟨⟨some 40, .load false 1 (.s 39), none⟩, []⟩,
    ⟨⟨some 41, .str .lss (.s 36) (.s 40), none⟩, []⟩,
    ⟨⟨some 4, .mv (.s 41), none⟩, []⟩])
  .ret)
  .skip)))
  (.reg [⟨some 22, .mv (.s 7), none⟩,
    ⟨some 23, .int .add (.s 22) (.c (.int .i64 1)), none⟩,
    ⟨some 7, .mv (.s 23), none⟩]))))))
  (.seq (.reg [⟨some 42, .mv (.s 5), none⟩,
    ⟨some 43, .len (.s 42), none⟩,
    ⟨some 44, .mv (.s 6), none⟩,
    ⟨some 45, .len (.s 44), none⟩,
    ⟨some 46, .int .lss (.s 43) (.s 45), none⟩,
    ⟨some 4, .mv (.s 46), none⟩])
  .ret))))⟩

/-- slices.Delete[[]sumpter/api.Entry,sumpter/api.Entry] -/
def sf177 : SF :=
  ⟨3, 33, [.t 6],
  (.seq (.reg [⟨some 6, .mv (.c (.slice none 0 0)), none⟩])
  (.seq (.reg [⟨some 8, .mv (.s 0), none⟩,
    ⟨some 9, .mv (.s 1), none⟩,
    ⟨some 10, .mv (.s 2), none⟩,
    ⟨some 11, .mv (.s 0), none⟩,
    ⟨some 12, .len (.s 11), none⟩,
    ⟨some 13, .slc 3 (.s 8) (some (.s 9)) (some (.s 10)) (some (.s 12)), none⟩])
  (.seq (.seq (.reg [⟨some 14, .mv (.s 1), none⟩,
    ⟨some 15, .mv (.s 2), none⟩,
    ⟨some 16, .int .eql (.s 14) (.s 15), none⟩])
  (.cond (.s 16) (.seq (.reg [⟨some 17, .mv (.s 0), none⟩,
    ⟨some 6, .mv (.s 17), none⟩])
  .ret)
  .skip))
  (.seq (.reg [⟨some 18, .mv (.s 0), none⟩,
    ⟨some 19, .len (.s 18), none⟩,
    ⟨some 7, .mv (.s 19), none⟩])
  (.seq (.dreg [0, 1, 2, 3, 4, 5, 6, 7] [⟨⟨some 20, .mv (.s 0), none⟩, []⟩,
    ⟨⟨some 21, .mv (.s 1), none⟩, []⟩,
    ⟨⟨some 22, .slc 3 (.s 20) none (some (.s 21)) none, none⟩, []⟩,
    ⟨⟨some 23, .mv (.s 0), none⟩, []⟩,
    ⟨⟨some 24, .mv (.s 2), none⟩, []⟩,
    ⟨⟨some 25, .slc 3 (.s 23) (some (.s 24)) none none, none⟩, []⟩,
    ⟨⟨some 26, .app 3 48 (.s 22) (.s 25), none⟩, []⟩,
    ⟨⟨some 0, .mv (.s 26), none⟩, []⟩])
  (.seq (.reg [⟨some 27, .mv (.s 0), none⟩,
    ⟨some 28, .mv (.s 0), none⟩,
    ⟨some 29, .len (.s 28), none⟩,
    ⟨some 30, .mv (.s 7), none⟩,
    ⟨some 31, .slc 3 (.s 27) (some (.s 29)) (some (.s 30)) none, none⟩,
    ⟨none, .hop (.clear 3 [.v (.string ⟨#[]⟩), .v (.bool false), .v (.slice none 0 0)]) [(.s 31)], none⟩])
  (.seq (.reg [⟨some 32, .mv (.s 0), none⟩,
    ⟨some 6, .mv (.s 32), none⟩])
  .ret)))))))⟩

/-- sumpter/tree.check -/
def sf178 : SF :=
  ⟨2, 68, [.t 4],
  (.seq (.reg [⟨some 3, .box (some 0) 3 (.s 1), none⟩,
    ⟨some 4, .mv (.c (.int .i64 0)), none⟩])
  (.seq (.seq (.reg [⟨some 9, .fld 0 (.s 3), none⟩,
    ⟨some 10, .load false 1 (.s 9), none⟩,
    ⟨some 11, .call 192 [(.s 10)], none⟩,
    ⟨some 5, .mv (.s 11), none⟩])
  (.seq (.reg [⟨some 12, .mv (.s 5), none⟩,
    ⟨some 13, .int .neq (.s 12) (.c (.int .i64 0)), none⟩])
  (.cond (.s 13) (.seq (.reg [⟨some 14, .mv (.s 5), none⟩,
    ⟨some 4, .mv (.s 14), none⟩])
  .ret)
  .skip)))
  (.seq (.block 0 (.seq (.reg [⟨some 16, .fld 0 (.s 3), none⟩,
    ⟨some 17, .load false 1 (.s 16), none⟩,
    ⟨some 18, .call 193 [(.s 17)], none⟩,
    ⟨some 15, .mv (.s 18), none⟩])
  (.cond (.s 15) (.seq (.reg [⟨some 4, .mv (.c (.int .i64 6)), none⟩])
  .ret)
  (.seq (.reg [⟨some 20, .fld 2 (.s 3), none⟩,
    ⟨some 21, .load false 1 (.s 20), none⟩,
    ⟨some 22, .len (.s 21), none⟩,
    ⟨some 23, .int .gtr (.s 22) (.c (.int .i64 65536)), none⟩,
    ⟨some 19, .mv (.s 23), none⟩])
  (.cond (.s 19) (.seq (.reg [⟨some 4, .mv (.c (.int .i64 5)), none⟩])
  .ret)
  (.seq (.reg [⟨some 25, .fld 1 (.s 3), none⟩,
    ⟨some 26, .load false 1 (.s 25), none⟩,
    ⟨some 27, .mv (.s 26), none⟩,
    ⟨some 28, .fld 2 (.s 3), (some (27, true))⟩,
    ⟨some 29, .load false 1 (.s 28), (some (27, true))⟩,
    ⟨some 30, .len (.s 29), (some (27, true))⟩,
    ⟨some 31, .int .gtr (.s 30) (.c (.int .i64 0)), (some (27, true))⟩,
    ⟨some 32, .pick (.s 27) (.s 31) (.c (.bool false)), none⟩,
    ⟨some 24, .mv (.s 32), none⟩])
  (.cond (.s 24) (.seq (.reg [⟨some 4, .mv (.c (.int .i64 9)), none⟩])
  .ret)
  (.seq (.dreg [0, 1, 2, 3, 4, 5, 6, 7, 8, 9, 11, 10, 12, 13, 14, 15, 16] [⟨⟨some 34, .mv (.s 0), none⟩, []⟩,
    ⟨⟨some 35, .len (.s 34), none⟩, []⟩,
    ⟨⟨some 36, .int .gtr (.s 35) (.c (.int .i64 0)), none⟩, []⟩,
    ⟨⟨some 37, .mv (.s 36), none⟩, []⟩,
    ⟨⟨some 38, .mv (.s 0), (some (37, true))⟩, []⟩,
    ⟨⟨some 39, .mv (.s 0), (some (37, true))⟩, []⟩,
    ⟨⟨some 40, .len (.s 39), (some (37, true))⟩, []⟩,
    ⟨⟨some 41, .int .sub (.s 40) (.c (.int .i64 1)), (some (37, true))⟩, []⟩,
    ⟨⟨some 42, .idx 3 (.s 38) (.s 41), (some (37, true))⟩, []⟩,
    ⟨⟨some 43, .fld 0 (.s 42), (some (37, true))⟩, []⟩,
    ⟨⟨some 45, .fld 0 (.s 3), (some (37, true))⟩, []⟩,
    ⟨⟨some 44, .load false 1 (.s 43), (some (37, true))⟩, []⟩,
    ⟨⟨some 46, .load false 1 (.s 45), (some (37, true))⟩, []⟩,
    ⟨⟨some 47, .call 163 [(.s 44), (.s 46)], (some (37, true))⟩, []⟩,
    ⟨⟨some 48, .not (.s 47), (some (37, true))⟩, []⟩,
    ⟨⟨some 49, .pick (.s 37) (.s 48) (.c (.bool false)), none⟩, []⟩,
    ⟨⟨some 33, .mv (.s 49), none⟩, []⟩])
  (.cond (.s 33) (.seq (.reg [⟨some 4, .mv (.c (.int .i64 7)), none⟩])
  .ret)
  .skip)))))))))
  (.seq (.reg [⟨some 50, .fld 0 (.s 3), none⟩,
    ⟨some 51, .load false 1 (.s 50), none⟩,
    ⟨some 52, .call 164 [(.s 51)], none⟩,
    ⟨some 6, .mv (.s 52), none⟩])
  (.seq (.seq (.reg [⟨some 53, .mv (.s 6), none⟩,
    ⟨some 54, .str .eql (.s 53) (.c (.string ⟨#[]⟩)), none⟩])
  (.cond (.s 54) (.seq (.reg [⟨some 4, .mv (.c (.int .i64 0)), none⟩])
  .ret)
  .skip))
  (.seq (.reg [⟨some 56, .mv (.s 0), none⟩,
    ⟨some 57, .mv (.s 6), none⟩,
    ⟨some 58, .call 150 [(.s 56), (.s 57)], none⟩,
    ⟨some 55, .mv (.s 58), none⟩,
    ⟨some 59, .ext (.s 55) 0, none⟩,
    ⟨some 60, .ext (.s 55) 1, none⟩,
    ⟨some 7, .alloc (some 1) [.v (.string ⟨#[]⟩), .v (.bool false), .v (.slice none 0 0)], none⟩,
    ⟨none, .store 3 (.s 7) (.s 59), none⟩,
    ⟨some 8, .mv (.s 60), none⟩])
  (.seq (.block 1 (.seq (.reg [⟨some 62, .mv (.s 8), none⟩,
    ⟨some 63, .not (.s 62), none⟩,
    ⟨some 61, .mv (.s 63), none⟩])
  (.cond (.s 61) (.seq (.reg [⟨some 4, .mv (.c (.int .i64 8)), none⟩])
  .ret)
  (.seq (.reg [⟨some 65, .fld 1 (.s 7), none⟩,
    ⟨some 66, .load false 1 (.s 65), none⟩,
    ⟨some 67, .not (.s 66), none⟩,
    ⟨some 64, .mv (.s 67), none⟩])
  (.cond (.s 64) (.seq (.reg [⟨some 4, .mv (.c (.int .i64 9)), none⟩])
  .ret)
  .skip)))))
  (.seq (.reg [⟨some 4, .mv (.c (.int .i64 0)), none⟩])
  .ret))))))))⟩

/-- slices.EqualFunc[[]sumpter/api.Entry,[]sumpter/api.Entry,sumpter/api.Entry,sumpter/api.Entry] -/
def sf179 : SF :=
  ⟨3, 32, [.t 6],
  (.seq (.reg [⟨some 6, .mv (.c (.bool false)), none⟩])
  (.seq (.seq (.reg [⟨some 10, .mv (.s 0), none⟩,
    ⟨some 11, .len (.s 10), none⟩,
    ⟨some 12, .mv (.s 1), none⟩,
    ⟨some 13, .len (.s 12), none⟩,
    ⟨some 14, .int .neq (.s 11) (.s 13), none⟩])
  (.cond (.s 14) (.seq (.reg [⟨some 6, .mv (.c (.bool false)), none⟩])
  .ret)
  .skip))
  (.seq (.seq (.reg [⟨some 15, .mv (.s 0), none⟩,
    ⟨some 16, .len (.s 15), none⟩,
    ⟨some 17, .mv (.c (.int .i64 0)), none⟩])
  (.block 0 (.loop (.seq (.reg [⟨some 18, .int .lss (.s 17) (.s 16), none⟩])
  (.seq (.cond (.s 18) .skip
  (.exit 0))
  (.seq (.block 1 (.seq (.reg [⟨some 19, .mv (.s 17), none⟩,
    ⟨some 20, .idx 3 (.s 15) (.s 17), none⟩,
    ⟨some 21, .load true 3 (.s 20), none⟩,
    ⟨some 8, .alloc (some 0) [.v (.string ⟨#[]⟩), .v (.bool false), .v (.slice none 0 0)], none⟩,
    ⟨some 7, .mv (.s 19), none⟩,
    ⟨none, .store 3 (.s 8) (.s 21), none⟩])
  (.seq (.reg [⟨some 22, .mv (.s 1), none⟩,
    ⟨some 23, .mv (.s 7), none⟩,
    ⟨some 24, .idx 3 (.s 22) (.s 23), none⟩,
    ⟨some 25, .load true 3 (.s 24), none⟩,
    ⟨some 9, .alloc (some 1) [.v (.string ⟨#[]⟩), .v (.bool false), .v (.slice none 0 0)], none⟩,
    ⟨none, .store 3 (.s 9) (.s 25), none⟩])
  (.seq (.reg [⟨some 26, .mv (.s 2), none⟩,
    ⟨some 27, .load true 3 (.s 8), none⟩,
    ⟨some 28, .load true 3 (.s 9), none⟩,
    ⟨some 29, .callv (.s 26) [(.s 27), (.s 28)], none⟩,
    ⟨some 30, .not (.s 29), none⟩])
  (.cond (.s 30) (.seq (.reg [⟨some 6, .mv (.c (.bool false)), none⟩])
  .ret)
  .skip)))))
  (.reg [⟨some 31, .int .add (.s 17) (.c (.int .i64 1)), none⟩,
    ⟨some 17, .mv (.s 31), none⟩])))))))
  (.seq (.reg [⟨some 6, .mv (.c (.bool true)), none⟩])
  .ret))))⟩

/-- sumpter/tree.Same$1 -/
def sf180 : SF :=
  ⟨2, 24, [.t 4],
  (.seq (.reg [⟨some 2, .box (some 0) 3 (.s 0), none⟩,
    ⟨some 3, .box (some 1) 3 (.s 1), none⟩,
    ⟨some 4, .mv (.c (.bool false)), none⟩])
  (.seq (.reg [⟨some 5, .fld 0 (.s 2), none⟩,
    ⟨some 6, .load false 1 (.s 5), none⟩,
    ⟨some 7, .fld 0 (.s 3), none⟩,
    ⟨some 8, .load false 1 (.s 7), none⟩,
    ⟨some 9, .str .eql (.s 6) (.s 8), none⟩,
    ⟨some 10, .mv (.s 9), none⟩,
    ⟨some 11, .fld 1 (.s 2), (some (10, true))⟩,
    ⟨some 12, .load false 1 (.s 11), (some (10, true))⟩,
    ⟨some 13, .fld 1 (.s 3), (some (10, true))⟩,
    ⟨some 14, .load false 1 (.s 13), (some (10, true))⟩,
    ⟨some 15, .eq .bool false (.s 12) (.s 14), (some (10, true))⟩,
    ⟨some 16, .pick (.s 10) (.s 15) (.c (.bool false)), none⟩,
    ⟨some 17, .mv (.s 16), none⟩,
    ⟨some 18, .fld 2 (.s 2), (some (17, true))⟩,
    ⟨some 19, .load false 1 (.s 18), (some (17, true))⟩,
    ⟨some 20, .fld 2 (.s 3), (some (17, true))⟩,
    ⟨some 21, .load false 1 (.s 20), (some (17, true))⟩,
    ⟨some 22, .call 194 [(.s 19), (.s 21)], (some (17, true))⟩,
    ⟨some 23, .pick (.s 17) (.s 22) (.c (.bool false)), none⟩,
    ⟨some 4, .mv (.s 23), none⟩])
  .ret))⟩

/-- sumpter/path.Split -/
def sf181 : SF :=
  ⟨1, 7, [.t 2],
  (.seq (.reg [⟨some 2, .mv (.c (.slice none 0 0)), none⟩])
  (.seq (.seq (.reg [⟨some 3, .mv (.s 0), none⟩,
    ⟨some 4, .str .eql (.s 3) (.c (.string ⟨#[]⟩)), none⟩])
  (.cond (.s 4) (.seq (.reg [⟨some 2, .mv (.c (.slice none 0 0)), none⟩])
  .ret)
  .skip))
  (.seq (.reg [⟨some 5, .mv (.s 0), none⟩,
    ⟨some 6, .call 195 [(.s 5), (.c (.string ⟨#[47]⟩))], none⟩,
    ⟨some 2, .mv (.s 6), none⟩])
  .ret)))⟩

/-- slices.Compare[[]string,string] -/
def sf182 : SF :=
  ⟨2, 36, [.t 4],
  (.seq (.reg [⟨some 4, .mv (.c (.int .i64 0)), none⟩])
  (.seq (.seq (.reg [⟨some 9, .mv (.s 0), none⟩,
    ⟨some 10, .len (.s 9), none⟩,
    ⟨some 11, .mv (.c (.int .i64 0)), none⟩])
  (.block 0 (.loop (.seq (.reg [⟨some 12, .int .lss (.s 11) (.s 10), none⟩])
  (.seq (.cond (.s 12) .skip
  (.exit 0))
  (.seq (.block 1 (.seq (.reg [⟨some 13, .mv (.s 11), none⟩,
    ⟨some 14, .idx 1 (.s 9) (.s 11), none⟩,
    ⟨some 15, .load false 1 (.s 14), none⟩,
    ⟨some 5, .mv (.s 13), none⟩,
    ⟨some 6, .mv (.s 15), none⟩])
  (.seq (.seq (.reg [⟨some 16, .mv (.s 5), none⟩,
    ⟨some 17, .mv (.s 1), none⟩,
    ⟨some 18, .len (.s 17), none⟩,
    ⟨some 19, .int .geq (.s 16) (.s 18), none⟩])
  (.cond (.s 19) (.seq (.reg [⟨some 4, .mv (.c (.int .i64 1)), none⟩])
  .ret)
  .skip))
  (.seq (.reg [⟨some 20, .mv (.s 1), none⟩,
    ⟨some 21, .mv (.s 5), none⟩,
    ⟨some 22, .idx 1 (.s 20) (.s 21), none⟩,
    ⟨some 23, .load false 1 (.s 22), none⟩,
    ⟨some 7, .mv (.s 23), none⟩])
  (.seq (.reg [⟨some 24, .mv (.s 6), none⟩,
    ⟨some 25, .mv (.s 7), none⟩,
    ⟨some 26, .call 196 [(.s 24), (.s 25)], none⟩,
    ⟨some 8, .mv (.s 26), none⟩])
  (.seq (.reg [⟨some 27, .mv (.s 8), none⟩,
    ⟨some 28, .int .neq (.s 27) (.c (.int .i64 0)), none⟩])
  (.cond (.s 28) (.seq (.reg [⟨some 29, .mv (.s 8), none⟩,
    ⟨some 4, .mv (.s 29), none⟩])
  .ret)
  .skip)))))))
  (.reg [⟨some 30, .int .add (.s 11) (.c (.int .i64 1)), none⟩,
    ⟨some 11, .mv (.s 30), none⟩])))))))
  (.seq (.seq (.reg [⟨some 31, .mv (.s 0), none⟩,
    ⟨some 32, .len (.s 31), none⟩,
    ⟨some 33, .mv (.s 1), none⟩,
    ⟨some 34, .len (.s 33), none⟩,
    ⟨some 35, .int .lss (.s 32) (.s 34), none⟩])
  (.cond (.s 35) (.seq (.reg [⟨some 4, .mv (.c (.int .i64 (-1))), none⟩])
  .ret)
  .skip))
  (.seq (.reg [⟨some 4, .mv (.c (.int .i64 0)), none⟩])
  .ret))))⟩

/-- sumpter/path.cut -/
def sf183 : SF :=
  ⟨1, 15, [.t 2, .t 3],
  (.seq (.reg [⟨some 2, .mv (.c (.string ⟨#[]⟩)), none⟩,
    ⟨some 3, .mv (.c (.string ⟨#[]⟩)), none⟩])
  (.seq (.reg [⟨some 5, .mv (.s 0), none⟩,
    ⟨some 6, .call 197 [(.s 5), (.c (.string ⟨#[47]⟩))], none⟩,
    ⟨some 4, .mv (.s 6), none⟩])
  (.seq (.dreg [0, 1, 2, 3, 4, 5, 6, 7, 8, 9] [⟨⟨some 7, .mv (.s 0), none⟩, []⟩,
    ⟨⟨some 8, .mv (.s 4), none⟩, []⟩,
    ⟨⟨some 9, .mm true (.s 8) (.c (.int .i64 0)), none⟩, []⟩,
    ⟨⟨some 10, .ssl (.s 7) none (some (.s 9)), none⟩, []⟩,
    ⟨⟨some 11, .mv (.s 0), none⟩, []⟩,
    ⟨⟨some 12, .mv (.s 4), none⟩, []⟩,
    ⟨⟨some 13, .int .add (.s 12) (.c (.int .i64 1)), none⟩, []⟩,
    ⟨⟨some 14, .ssl (.s 11) (some (.s 13)) none, none⟩, []⟩,
    ⟨⟨some 2, .mv (.s 10), none⟩, []⟩,
    ⟨⟨some 3, .mv (.s 14), none⟩, []⟩])
  .ret)))⟩

/-- sumpter/tree.Visible$1 -/
def sf184 : SF :=
  ⟨1, 7, [.t 2],
  (.seq (.reg [⟨some 1, .box (some 0) 3 (.s 0), none⟩,
    ⟨some 2, .mv (.c (.bool false)), none⟩])
  (.seq (.reg [⟨some 3, .fld 0 (.s 1), none⟩,
    ⟨some 4, .load false 1 (.s 3), none⟩,
    ⟨some 5, .call 193 [(.s 4)], none⟩,
    ⟨some 6, .not (.s 5), none⟩,
    ⟨some 2, .mv (.s 6), none⟩])
  .ret))⟩

/-- sumpter/tree.find$1 -/
def sf185 : SF :=
  ⟨2, 8, [.t 3],
  (.seq (.reg [⟨some 2, .box (some 0) 3 (.s 0), none⟩,
    ⟨some 3, .mv (.c (.bool false)), none⟩])
  (.seq (.reg [⟨some 4, .fld 0 (.s 2), none⟩,
    ⟨some 5, .load false 1 (.s 4), none⟩,
    ⟨some 6, .load false 1 (.s 1), none⟩,
    ⟨some 7, .str .eql (.s 5) (.s 6), none⟩,
    ⟨some 3, .mv (.s 7), none⟩])
  .ret))⟩

/-- bytes.Clone -/
def sf186 : SF :=
  ⟨1, 8, [.t 2],
  (.seq (.reg [⟨some 2, .mv (.c (.slice none 0 0)), none⟩])
  (.seq (.seq (.reg [⟨some 3, .mv (.s 0), none⟩,
    ⟨some 4, .nd (.isnil false) [(.s 3)], none⟩])
  (.cond (.s 4) (.seq (.reg [⟨some 2, .mv (.c (.slice none 0 0)), none⟩])
  .ret)
  .skip))
  (.seq (.reg [⟨some 5, .bslice 1 [], none⟩,
    ⟨some 6, .mv (.s 0), none⟩,
    ⟨some 7, .app 1 1 (.s 5) (.s 6), none⟩,
    ⟨some 2, .mv (.s 7), none⟩])
  .ret)))⟩

/-- sumpter/sumpterref07.slash -/
def sf187 : SF :=
  ⟨1, 16, [.t 2],
  (.seq (.reg [⟨some 2, .mv (.c (.int .i64 0)), none⟩])
  (.seq (.seq (.reg [⟨some 4, .mv (.s 0), none⟩,
    ⟨some 5, .slen (.s 4), none⟩,
    ⟨some 6, .int .sub (.s 5) (.c (.int .i64 1)), none⟩,
    ⟨some 3, .mv (.s 6), none⟩])
  (.block 0 (.loop (.seq (.seq (.reg [⟨some 7, .mv (.s 3), none⟩,
    ⟨some 8, .int .geq (.s 7) (.c (.int .i64 0)), none⟩])
  (.cond (.s 8) .skip
  (.exit 0)))
  (.seq (.block 1 (.seq (.reg [⟨some 11, .mv (.s 0), none⟩,
    ⟨some 12, .mv (.s 3), none⟩,
    ⟨some 13, .sidx (.s 11) (.s 12), none⟩,
    ⟨some 14, .int .eql (.s 13) (.c (.int .u8 47)), none⟩])
  (.cond (.s 14) (.seq (.reg [⟨some 15, .mv (.s 3), none⟩,
    ⟨some 2, .mv (.s 15), none⟩])
  .ret)
  .skip)))
  (.reg [⟨some 9, .mv (.s 3), none⟩,
    ⟨some 10, .int .sub (.s 9) (.c (.int .i64 1)), none⟩,
    ⟨some 3, .mv (.s 10), none⟩]))))))
  (.seq (.reg [⟨some 2, .mv (.c (.int .i64 (-1))), none⟩])
  .ret)))⟩

/-- slices.Clone[[]sumpter/api.Entry,sumpter/api.Entry] -/
def sf188 : SF :=
  ⟨1, 8, [.t 2],
  (.seq (.reg [⟨some 2, .mv (.c (.slice none 0 0)), none⟩])
  (.seq (.seq (.reg [⟨some 3, .mv (.s 0), none⟩,
    ⟨some 4, .nd (.isnil false) [(.s 3)], none⟩])
  (.cond (.s 4) (.seq (.reg [⟨some 2, .mv (.c (.slice none 0 0)), none⟩])
  .ret)
  .skip))
  (.seq (.reg [⟨some 5, .bslice 3 [], none⟩,
    ⟨some 6, .mv (.s 0), none⟩,
    ⟨some 7, .app 3 48 (.s 5) (.s 6), none⟩,
    ⟨some 2, .mv (.s 7), none⟩])
  .ret)))⟩

/-- slices.IndexFunc[[]sumpter/api.Entry,sumpter/api.Entry] -/
def sf189 : SF :=
  ⟨2, 19, [.t 4],
  (.seq (.reg [⟨some 4, .mv (.c (.int .i64 0)), none⟩])
  (.seq (.seq (.reg [⟨some 6, .mv (.s 0), none⟩,
    ⟨some 7, .len (.s 6), none⟩,
    ⟨some 8, .mv (.c (.int .i64 0)), none⟩])
  (.block 0 (.loop (.seq (.reg [⟨some 9, .int .lss (.s 8) (.s 7), none⟩])
  (.seq (.cond (.s 9) .skip
  (.exit 0))
  (.seq (.block 1 (.seq (.reg [⟨some 10, .mv (.s 8), none⟩,
    ⟨some 5, .mv (.s 10), none⟩])
  (.seq (.reg [⟨some 11, .mv (.s 1), none⟩,
    ⟨some 12, .mv (.s 0), none⟩,
    ⟨some 13, .mv (.s 5), none⟩,
    ⟨some 14, .idx 3 (.s 12) (.s 13), none⟩,
    ⟨some 15, .load true 3 (.s 14), none⟩,
    ⟨some 16, .callv (.s 11) [(.s 15)], none⟩])
  (.cond (.s 16) (.seq (.reg [⟨some 17, .mv (.s 5), none⟩,
    ⟨some 4, .mv (.s 17), none⟩])
  .ret)
  .skip))))
  (.reg [⟨some 18, .int .add (.s 8) (.c (.int .i64 1)), none⟩,
    ⟨some 8, .mv (.s 18), none⟩])))))))
  (.seq (.reg [⟨some 4, .mv (.c (.int .i64 (-1))), none⟩])
  .ret)))⟩

/-- sumpter/sumpterref08.one -/
def sf190 : SF :=
  ⟨2, 74, [.t 4],
  (.seq (.reg [⟨some 4, .mv (.c (.int .i64 0)), none⟩])
  (.seq (.reg [⟨some 10, .mv (.s 0), none⟩,
    ⟨some 11, .mv (.s 1), none⟩,
    ⟨some 12, .idx 3 (.s 10) (.s 11), none⟩,
    ⟨some 13, .load true 3 (.s 12), none⟩,
    ⟨some 5, .alloc (some 0) [.v (.string ⟨#[]⟩), .v (.bool false), .v (.slice none 0 0)], none⟩,
    ⟨none, .store 3 (.s 5) (.s 13), none⟩])
  (.seq (.reg [⟨some 14, .fld 0 (.s 5), none⟩,
    ⟨some 15, .load false 1 (.s 14), none⟩,
    ⟨some 16, .call 199 [(.s 15)], none⟩,
    ⟨some 6, .mv (.s 16), none⟩])
  (.seq (.block 0 (.seq (.reg [⟨some 18, .mv (.s 6), none⟩,
    ⟨some 19, .int .neq (.s 18) (.c (.int .i64 0)), none⟩,
    ⟨some 17, .mv (.s 19), none⟩])
  (.cond (.s 17) (.seq (.reg [⟨some 20, .mv (.s 6), none⟩,
    ⟨some 4, .mv (.s 20), none⟩])
  .ret)
  (.seq (.reg [⟨some 22, .fld 0 (.s 5), none⟩,
    ⟨some 23, .load false 1 (.s 22), none⟩,
    ⟨some 24, .call 200 [(.s 23)], none⟩,
    ⟨some 21, .mv (.s 24), none⟩])
  (.cond (.s 21) (.seq (.reg [⟨some 4, .mv (.c (.int .i64 6)), none⟩])
  .ret)
  (.seq (.reg [⟨some 26, .fld 2 (.s 5), none⟩,
    ⟨some 27, .load false 1 (.s 26), none⟩,
    ⟨some 28, .len (.s 27), none⟩,
    ⟨some 29, .int .gtr (.s 28) (.c (.int .i64 65536)), none⟩,
    ⟨some 25, .mv (.s 29), none⟩])
  (.cond (.s 25) (.seq (.reg [⟨some 4, .mv (.c (.int .i64 5)), none⟩])
  .ret)
  (.seq (.reg [⟨some 31, .fld 1 (.s 5), none⟩,
    ⟨some 32, .load false 1 (.s 31), none⟩,
    ⟨some 33, .mv (.s 32), none⟩,
    ⟨some 34, .fld 2 (.s 5), (some (33, true))⟩,
    ⟨some 35, .load false 1 (.s 34), (some (33, true))⟩,
    ⟨some 36, .len (.s 35), (some (33, true))⟩,
    ⟨some 37, .int .gtr (.s 36) (.c (.int .i64 0)), (some (33, true))⟩,
    ⟨some 38, .pick (.s 33) (.s 37) (.c (.bool false)), none⟩,
    ⟨some 30, .mv (.s 38), none⟩])
  (.cond (.s 30) (.seq (.reg [⟨some 4, .mv (.c (.int .i64 9)), none⟩])
  .ret)
  (.seq (.dreg [0, 1, 2, 3, 4, 5, 6, 7, 9, 8, 10, 11, 12, 13, 14] [⟨⟨some 40, .mv (.s 1), none⟩, []⟩,
    ⟨⟨some 41, .int .gtr (.s 40) (.c (.int .i64 0)), none⟩, []⟩,
    ⟨⟨some 42, .mv (.s 41), none⟩, []⟩,
    ⟨⟨some 43, .mv (.s 0), (some (42, true))⟩, []⟩,
    ⟨⟨some 44, .mv (.s 1), (some (42, true))⟩, []⟩,
    ⟨⟨some 45, .int .sub (.s 44) (.c (.int .i64 1)), (some (42, true))⟩, []⟩,
    ⟨⟨some 46, .idx 3 (.s 43) (.s 45), (some (42, true))⟩, []⟩,
    ⟨⟨some 47, .fld 0 (.s 46), (some (42, true))⟩, []⟩,
    ⟨⟨some 49, .fld 0 (.s 5), (some (42, true))⟩, []⟩,
    ⟨⟨some 48, .load false 1 (.s 47), (some (42, true))⟩, []⟩,
    ⟨⟨some 50, .load false 1 (.s 49), (some (42, true))⟩, []⟩,
    ⟨⟨some 51, .call 176 [(.s 48), (.s 50)], (some (42, true))⟩, []⟩,
    ⟨⟨some 52, .not (.s 51), (some (42, true))⟩, []⟩,
    ⟨⟨some 53, .pick (.s 42) (.s 52) (.c (.bool false)), none⟩, []⟩,
    ⟨⟨some 39, .mv (.s 53), none⟩, []⟩])
  (.cond (.s 39) (.seq (.reg [⟨some 4, .mv (.c (.int .i64 7)), none⟩])
  .ret)
  .skip)))))))))))
  (.seq (.reg [⟨some 54, .fld 0 (.s 5), none⟩,
    ⟨some 55, .load false 1 (.s 54), none⟩,
    ⟨some 56, .call 170 [(.s 55)], none⟩,
    ⟨some 7, .mv (.s 56), none⟩])
  (.seq (.seq (.reg [⟨some 57, .mv (.s 7), none⟩,
    ⟨some 58, .str .eql (.s 57) (.c (.string ⟨#[]⟩)), none⟩])
  (.cond (.s 58) (.seq (.reg [⟨some 4, .mv (.c (.int .i64 0)), none⟩])
  .ret)
  .skip))
  (.seq (.reg [⟨some 60, .mv (.s 0), none⟩,
    ⟨some 61, .mv (.s 1), none⟩,
    ⟨some 62, .slc 3 (.s 60) none (some (.s 61)) none, none⟩,
    ⟨some 63, .mv (.s 7), none⟩,
    ⟨some 64, .call 151 [(.s 62), (.s 63)], none⟩,
    ⟨some 59, .mv (.s 64), none⟩,
    ⟨some 65, .ext (.s 59) 0, none⟩,
    ⟨some 66, .ext (.s 59) 1, none⟩,
    ⟨some 8, .alloc (some 1) [.v (.string ⟨#[]⟩), .v (.bool false), .v (.slice none 0 0)], none⟩,
    ⟨none, .store 3 (.s 8) (.s 65), none⟩,
    ⟨some 9, .mv (.s 66), none⟩])
  (.seq (.block 1 (.seq (.reg [⟨some 68, .mv (.s 9), none⟩,
    ⟨some 69, .not (.s 68), none⟩,
    ⟨some 67, .mv (.s 69), none⟩])
  (.cond (.s 67) (.seq (.reg [⟨some 4, .mv (.c (.int .i64 8)), none⟩])
  .ret)
  (.seq (.reg [⟨some 71, .fld 1 (.s 8), none⟩,
    ⟨some 72, .load false 1 (.s 71), none⟩,
    ⟨some 73, .not (.s 72), none⟩,
    ⟨some 70, .mv (.s 73), none⟩])
  (.cond (.s 70) (.seq (.reg [⟨some 4, .mv (.c (.int .i64 9)), none⟩])
  .ret)
  .skip)))))
  (.seq (.reg [⟨some 4, .mv (.c (.int .i64 0)), none⟩])
  .ret)))))))))⟩

/-- sumpter/sumpterref07.Split -/
def sf191 : SF :=
  ⟨1, 34, [.t 2],
  (.seq (.reg [⟨some 2, .mv (.c (.slice none 0 0)), none⟩])
  (.seq (.seq (.reg [⟨some 6, .mv (.s 0), none⟩,
    ⟨some 7, .str .eql (.s 6) (.c (.string ⟨#[]⟩)), none⟩])
  (.cond (.s 7) (.seq (.reg [⟨some 2, .mv (.c (.slice none 0 0)), none⟩])
  .ret)
  .skip))
  (.seq (.reg [⟨some 3, .mv (.c (.slice none 0 0)), none⟩])
  (.seq (.reg [⟨some 4, .mv (.c (.int .i64 0)), none⟩])
  (.seq (.seq (.reg [⟨some 5, .mv (.c (.int .i64 0)), none⟩])
  (.block 0 (.loop (.seq (.seq (.reg [⟨some 8, .mv (.s 5), none⟩,
    ⟨some 9, .mv (.s 0), none⟩,
    ⟨some 10, .slen (.s 9), none⟩,
    ⟨some 11, .int .leq (.s 8) (.s 10), none⟩])
  (.cond (.s 11) .skip
  (.exit 0)))
  (.seq (.block 1 (.seq (.reg [⟨some 14, .mv (.s 5), none⟩,
    ⟨some 15, .mv (.s 0), none⟩,
    ⟨some 16, .slen (.s 15), none⟩,
    ⟨some 17, .int .eql (.s 14) (.s 16), none⟩,
    ⟨some 18, .mv (.s 17), none⟩,
    ⟨some 19, .mv (.s 0), (some (18, false))⟩,
    ⟨some 20, .mv (.s 5), (some (18, false))⟩,
    ⟨some 21, .sidx (.s 19) (.s 20), (some (18, false))⟩,
    ⟨some 22, .int .eql (.s 21) (.c (.int .u8 47)), (some (18, false))⟩,
    ⟨some 23, .pick (.s 18) (.c (.bool true)) (.s 22), none⟩])
  (.cond (.s 23) (.seq (.reg [⟨some 24, .mv (.s 3), none⟩,
    ⟨some 25, .mv (.s 0), none⟩,
    ⟨some 26, .mv (.s 4), none⟩,
    ⟨some 27, .mv (.s 5), none⟩,
    ⟨some 28, .ssl (.s 25) (some (.s 26)) (some (.s 27)), none⟩,
    ⟨some 29, .bslice 1 [(.s 28)], none⟩,
    ⟨some 30, .app 1 16 (.s 24) (.s 29), none⟩,
    ⟨some 3, .mv (.s 30), none⟩])
  (.reg [⟨some 31, .mv (.s 5), none⟩,
    ⟨some 32, .int .add (.s 31) (.c (.int .i64 1)), none⟩,
    ⟨some 4, .mv (.s 32), none⟩]))
  .skip)))
  (.reg [⟨some 12, .mv (.s 5), none⟩,
    ⟨some 13, .int .add (.s 12) (.c (.int .i64 1)), none⟩,
    ⟨some 5, .mv (.s 13), none⟩]))))))
  (.seq (.reg [⟨some 33, .mv (.s 3), none⟩,
    ⟨some 2, .mv (.s 33), none⟩])
  .ret))))))⟩

/-- sumpter/path.Check -/
def sf192 : SF :=
  ⟨1, 19, [.t 2],
  (.seq (.reg [⟨some 2, .mv (.c (.int .i64 0)), none⟩])
  (.seq (.seq (.reg [⟨some 4, .mv (.s 0), none⟩,
    ⟨some 5, .slen (.s 4), none⟩,
    ⟨some 6, .int .gtr (.s 5) (.c (.int .i64 128)), none⟩])
  (.cond (.s 6) (.seq (.reg [⟨some 2, .mv (.c (.int .i64 5)), none⟩])
  .ret)
  .skip))
  (.seq (.reg [⟨some 7, .mv (.s 0), none⟩,
    ⟨some 8, .call 181 [(.s 7)], none⟩,
    ⟨some 3, .mv (.s 8), none⟩])
  (.seq (.seq (.reg [⟨some 9, .mv (.s 3), none⟩,
    ⟨some 10, .len (.s 9), none⟩,
    ⟨some 11, .int .eql (.s 10) (.c (.int .i64 0)), none⟩,
    ⟨some 12, .mv (.s 11), none⟩,
    ⟨some 13, .mv (.s 3), (some (12, false))⟩,
    ⟨some 14, .call 201 [(.s 13), (.f 202)], (some (12, false))⟩,
    ⟨some 15, .pick (.s 12) (.c (.bool true)) (.s 14), none⟩])
  (.cond (.s 15) (.seq (.reg [⟨some 2, .mv (.c (.int .i64 6)), none⟩])
  .ret)
  .skip))
  (.seq (.seq (.reg [⟨some 16, .mv (.s 3), none⟩,
    ⟨some 17, .len (.s 16), none⟩,
    ⟨some 18, .int .gtr (.s 17) (.c (.int .i64 8)), none⟩])
  (.cond (.s 18) (.seq (.reg [⟨some 2, .mv (.c (.int .i64 5)), none⟩])
  .ret)
  .skip))
  (.seq (.reg [⟨some 2, .mv (.c (.int .i64 0)), none⟩])
  .ret))))))⟩

/-- sumpter/path.Reserved -/
def sf193 : SF :=
  ⟨1, 5, [.t 2],
  (.seq (.reg [⟨some 2, .mv (.c (.bool false)), none⟩])
  (.seq (.reg [⟨some 3, .mv (.s 0), none⟩,
    ⟨some 4, .call 203 [(.s 3), (.c (.string ⟨#[46, 115, 117, 109, 112, 116, 101, 114]⟩))], none⟩,
    ⟨some 2, .mv (.s 4), none⟩])
  .ret))⟩

/-- bytes.Equal -/
def sf194 : SF :=
  ⟨2, 10, [.t 4],
  (.seq (.reg [⟨some 4, .mv (.c (.bool false)), none⟩])
  (.seq (.reg [⟨some 5, .mv (.s 0), none⟩,
    ⟨some 6, .nd .b2s [(.s 5)], none⟩,
    ⟨some 7, .mv (.s 1), none⟩,
    ⟨some 8, .nd .b2s [(.s 7)], none⟩,
    ⟨some 9, .str .eql (.s 6) (.s 8), none⟩,
    ⟨some 4, .mv (.s 9), none⟩])
  .ret))⟩

/-- strings.Split -/
def sf195 : SF :=
  ⟨2, 8, [.t 4],
  (.seq (.reg [⟨some 4, .mv (.c (.slice none 0 0)), none⟩])
  (.seq (.reg [⟨some 5, .mv (.s 0), none⟩,
    ⟨some 6, .mv (.s 1), none⟩,
    ⟨some 7, .call 204 [(.s 5), (.s 6), (.c (.int .i64 0)), (.c (.int .i64 (-1)))], none⟩,
    ⟨some 4, .mv (.s 7), none⟩])
  .ret))⟩

/-- cmp.Compare[string] -/
def sf196 : SF :=
  ⟨2, 20, [.t 4],
  (.seq (.reg [⟨some 4, .mv (.c (.int .i64 0)), none⟩])
  (.seq (.reg [⟨some 7, .mv (.s 0), none⟩,
    ⟨some 8, .call 205 [(.s 7)], none⟩,
    ⟨some 5, .mv (.s 8), none⟩])
  (.seq (.reg [⟨some 9, .mv (.s 1), none⟩,
    ⟨some 10, .call 205 [(.s 9)], none⟩,
    ⟨some 6, .mv (.s 10), none⟩])
  (.seq (.seq (.reg [⟨some 11, .mv (.s 5), none⟩])
  (.cond (.s 11) (.seq (.seq (.reg [⟨some 12, .mv (.s 6), none⟩])
  (.cond (.s 12) (.seq (.reg [⟨some 4, .mv (.c (.int .i64 0)), none⟩])
  .ret)
  .skip))
  (.seq (.reg [⟨some 4, .mv (.c (.int .i64 (-1))), none⟩])
  .ret))
  .skip))
  (.seq (.seq (.reg [⟨some 13, .mv (.s 6), none⟩])
  (.cond (.s 13) (.seq (.reg [⟨some 4, .mv (.c (.int .i64 1)), none⟩])
  .ret)
  .skip))
  (.seq (.seq (.reg [⟨some 14, .mv (.s 0), none⟩,
    ⟨some 15, .mv (.s 1), none⟩,
    ⟨some 16, .str .lss (.s 14) (.s 15), none⟩])
  (.cond (.s 16) (.seq (.reg [⟨some 4, .mv (.c (.int .i64 (-1))), none⟩])
  .ret)
  .skip))
  (.seq (.seq (.reg [⟨some 17, .mv (.s 0), none⟩,
    ⟨some 18, .mv (.s 1), none⟩,
    ⟨some 19, .str .gtr (.s 17) (.s 18), none⟩])
  (.cond (.s 19) (.seq (.reg [⟨some 4, .mv (.c (.int .i64 1)), none⟩])
  .ret)
  .skip))
  (.seq (.reg [⟨some 4, .mv (.c (.int .i64 0)), none⟩])
  .ret))))))))⟩

/-- strings.LastIndex -/
def sf197 : SF :=
  ⟨2, 36, [.t 4],
  (.seq (.reg [⟨some 4, .mv (.c (.int .i64 0)), none⟩])
  (.seq (.reg [⟨some 6, .mv (.s 1), none⟩,
    ⟨some 7, .slen (.s 6), none⟩,
    ⟨some 5, .mv (.s 7), none⟩])
  (.seq (.block 0 (.seq (.reg [⟨some 9, .mv (.s 5), none⟩,
    ⟨some 10, .int .eql (.s 9) (.c (.int .i64 0)), none⟩,
    ⟨some 8, .mv (.s 10), none⟩])
  (.cond (.s 8) (.seq (.reg [⟨some 11, .mv (.s 0), none⟩,
    ⟨some 12, .slen (.s 11), none⟩,
    ⟨some 4, .mv (.s 12), none⟩])
  .ret)
  (.seq (.reg [⟨some 14, .mv (.s 5), none⟩,
    ⟨some 15, .int .eql (.s 14) (.c (.int .i64 1)), none⟩,
    ⟨some 13, .mv (.s 15), none⟩])
  (.cond (.s 13) (.seq (.reg [⟨some 16, .mv (.s 0), none⟩,
    ⟨some 17, .mv (.s 1), none⟩,
    ⟨some 18, .sidx (.s 17) (.c (.int .i64 0)), none⟩,
    ⟨some 19, .call 206 [(.s 16), (.s 18)], none⟩,
    ⟨some 4, .mv (.s 19), none⟩])
  .ret)
  (.seq (.reg [⟨some 21, .mv (.s 5), none⟩,
    ⟨some 22, .mv (.s 0), none⟩,
    ⟨some 23, .slen (.s 22), none⟩,
    ⟨some 24, .int .eql (.s 21) (.s 23), none⟩,
    ⟨some 20, .mv (.s 24), none⟩])
  (.cond (.s 20) (.seq (.seq (.reg [⟨some 25, .mv (.s 1), none⟩,
    ⟨some 26, .mv (.s 0), none⟩,
    ⟨some 27, .str .eql (.s 25) (.s 26), none⟩])
  (.cond (.s 27) (.seq (.reg [⟨some 4, .mv (.c (.int .i64 0)), none⟩])
  .ret)
  .skip))
  (.seq (.reg [⟨some 4, .mv (.c (.int .i64 (-1))), none⟩])
  .ret))
  (.seq (.reg [⟨some 29, .mv (.s 5), none⟩,
    ⟨some 30, .mv (.s 0), none⟩,
    ⟨some 31, .slen (.s 30), none⟩,
    ⟨some 32, .int .gtr (.s 29) (.s 31), none⟩,
    ⟨some 28, .mv (.s 32), none⟩])
  (.cond (.s 28) (.seq (.reg [⟨some 4, .mv (.c (.int .i64 (-1))), none⟩])
  .ret)
  .skip)))))))))
  (.seq (.reg [⟨some 33, .mv (.s 0), none⟩,
    ⟨some 34, .mv (.s 1), none⟩,
    ⟨some 35, .dead, none⟩,
    ⟨some 4, .mv (.s 35), none⟩])
  .ret))))⟩

/-- slices.rotateLeft[sumpter/api.Entry] -/
def sf198 : SF :=
  ⟨2, 14, [],
  (.seq (.reg [⟨some 4, .mv (.s 0), none⟩,
    ⟨some 5, .mv (.s 1), none⟩,
    ⟨some 6, .slc 3 (.s 4) none (some (.s 5)) none, none⟩,
    ⟨some 7, .call 208 [(.s 6)], none⟩])
  (.seq (.reg [⟨some 8, .mv (.s 0), none⟩,
    ⟨some 9, .mv (.s 1), none⟩,
    ⟨some 10, .slc 3 (.s 8) (some (.s 9)) none none, none⟩,
    ⟨some 11, .call 208 [(.s 10)], none⟩])
  (.reg [⟨some 12, .mv (.s 0), none⟩,
    ⟨some 13, .call 208 [(.s 12)], none⟩])))⟩

/-- sumpter/sumpterref07.Check -/
def sf199 : SF :=
  ⟨1, 30, [.t 2],
  (.seq (.reg [⟨some 2, .mv (.c (.int .i64 0)), none⟩])
  (.seq (.seq (.reg [⟨some 5, .mv (.s 0), none⟩,
    ⟨some 6, .slen (.s 5), none⟩,
    ⟨some 7, .int .gtr (.s 6) (.c (.int .i64 128)), none⟩])
  (.cond (.s 7) (.seq (.reg [⟨some 2, .mv (.c (.int .i64 5)), none⟩])
  .ret)
  .skip))
  (.seq (.reg [⟨some 8, .mv (.s 0), none⟩,
    ⟨some 9, .call 191 [(.s 8)], none⟩,
    ⟨some 3, .mv (.s 9), none⟩])
  (.seq (.seq (.reg [⟨some 4, .mv (.c (.int .i64 0)), none⟩])
  (.block 0 (.loop (.seq (.seq (.reg [⟨some 10, .mv (.s 4), none⟩,
    ⟨some 11, .mv (.s 3), none⟩,
    ⟨some 12, .len (.s 11), none⟩,
    ⟨some 13, .int .lss (.s 10) (.s 12), none⟩])
  (.cond (.s 13) .skip
  (.exit 0)))
  (.seq (.block 1 (.seq (.reg [⟨some 16, .mv (.s 3), none⟩,
    ⟨some 17, .mv (.s 4), none⟩,
    ⟨some 18, .idx 1 (.s 16) (.s 17), none⟩,
    ⟨some 19, .load false 1 (.s 18), none⟩,
    ⟨some 20, .call 209 [(.s 19)], none⟩,
    ⟨some 21, .not (.s 20), none⟩])
  (.cond (.s 21) (.seq (.reg [⟨some 2, .mv (.c (.int .i64 6)), none⟩])
  .ret)
  .skip)))
  (.reg [⟨some 14, .mv (.s 4), none⟩,
    ⟨some 15, .int .add (.s 14) (.c (.int .i64 1)), none⟩,
    ⟨some 4, .mv (.s 15), none⟩]))))))
  (.seq (.block 2 (.seq (.reg [⟨some 23, .mv (.s 3), none⟩,
    ⟨some 24, .len (.s 23), none⟩,
    ⟨some 25, .int .eql (.s 24) (.c (.int .i64 0)), none⟩,
    ⟨some 22, .mv (.s 25), none⟩])
  (.cond (.s 22) (.seq (.reg [⟨some 2, .mv (.c (.int .i64 6)), none⟩])
  .ret)
  (.seq (.reg [⟨some 27, .mv (.s 3), none⟩,
    ⟨some 28, .len (.s 27), none⟩,
    ⟨some 29, .int .gtr (.s 28) (.c (.int .i64 8)), none⟩,
    ⟨some 26, .mv (.s 29), none⟩])
  (.cond (.s 26) (.seq (.reg [⟨some 2, .mv (.c (.int .i64 5)), none⟩])
  .ret)
  .skip)))))
  (.seq (.reg [⟨some 2, .mv (.c (.int .i64 0)), none⟩])
  .ret))))))⟩

/-- sumpter/sumpterref07.Reserved -/
def sf200 : SF :=
  ⟨1, 11, [.t 2],
  (.seq (.reg [⟨some 2, .mv (.c (.bool false)), none⟩])
  (.seq (.reg [⟨some 3, .mv (.s 0), none⟩,
    ⟨some 4, .slen (.s 3), none⟩,
    ⟨some 5, .int .geq (.s 4) (.c (.int .i64 8)), none⟩,
    ⟨some 6, .mv (.s 5), none⟩,
    ⟨some 7, .mv (.s 0), (some (6, true))⟩,
    ⟨some 8, .ssl (.s 7) none (some (.c (.int .i64 8))), (some (6, true))⟩,
    ⟨some 9, .str .eql (.s 8) (.c (.string ⟨#[46, 115, 117, 109, 112, 116, 101, 114]⟩)), (some (6, true))⟩,
    ⟨some 10, .pick (.s 6) (.s 9) (.c (.bool false)), none⟩,
    ⟨some 2, .mv (.s 10), none⟩])
  .ret))⟩

/-- slices.ContainsFunc[[]string,string] -/
def sf201 : SF :=
  ⟨2, 9, [.t 4],
  (.seq (.reg [⟨some 4, .mv (.c (.bool false)), none⟩])
  (.seq (.reg [⟨some 5, .mv (.s 0), none⟩,
    ⟨some 6, .mv (.s 1), none⟩,
    ⟨some 7, .call 210 [(.s 5), (.s 6)], none⟩,
    ⟨some 8, .int .geq (.s 7) (.c (.int .i64 0)), none⟩,
    ⟨some 4, .mv (.s 8), none⟩])
  .ret))⟩

/-- sumpter/path.Check$1 -/
def sf202 : SF :=
  ⟨1, 6, [.t 2],
  (.seq (.reg [⟨some 2, .mv (.c (.bool false)), none⟩])
  (.seq (.reg [⟨some 3, .mv (.s 0), none⟩,
    ⟨some 4, .call 211 [(.s 3)], none⟩,
    ⟨some 5, .not (.s 4), none⟩,
    ⟨some 2, .mv (.s 5), none⟩])
  .ret))⟩

/-- strings.HasPrefix -/
def sf203 : SF :=
  ⟨2, 8, [.t 4],
  (.seq (.reg [⟨some 4, .mv (.c (.bool false)), none⟩])
  (.seq (.reg [⟨some 5, .mv (.s 0), none⟩,
    ⟨some 6, .mv (.s 1), none⟩,
    ⟨some 7, .call 212 [(.s 5), (.s 6)], none⟩,
    ⟨some 4, .mv (.s 7), none⟩])
  .ret))⟩

/-- strings.genSplit -/
def sf204 : SF :=
  ⟨4, 66, [.t 8],
  (.seq (.reg [⟨some 8, .mv (.c (.slice none 0 0)), none⟩])
  (.seq (.seq (.reg [⟨some 12, .mv (.s 3), none⟩,
    ⟨some 13, .int .eql (.s 12) (.c (.int .i64 0)), none⟩])
  (.cond (.s 13) (.seq (.reg [⟨some 8, .mv (.c (.slice none 0 0)), none⟩])
  .ret)
  .skip))
  (.seq (.seq (.reg [⟨some 14, .mv (.s 1), none⟩,
    ⟨some 15, .str .eql (.s 14) (.c (.string ⟨#[]⟩)), none⟩])
  (.cond (.s 15) (.seq (.reg [⟨some 16, .mv (.s 0), none⟩,
    ⟨some 17, .mv (.s 3), none⟩,
    ⟨some 18, .dead, none⟩,
    ⟨some 8, .mv (.s 18), none⟩])
  .ret)
  .skip))
  (.seq (.seq (.reg [⟨some 19, .mv (.s 3), none⟩,
    ⟨some 20, .int .lss (.s 19) (.c (.int .i64 0)), none⟩])
  (.cond (.s 20) (.reg [⟨some 21, .mv (.s 0), none⟩,
    ⟨some 22, .mv (.s 1), none⟩,
    ⟨some 23, .call 214 [(.s 21), (.s 22)], none⟩,
    ⟨some 24, .int .add (.s 23) (.c (.int .i64 1)), none⟩,
    ⟨some 3, .mv (.s 24), none⟩])
  .skip))
  (.seq (.reg [⟨some 25, .mv (.s 3), none⟩,
    ⟨some 26, .mv (.s 0), none⟩,
    ⟨some 27, .slen (.s 26), none⟩,
    ⟨some 28, .int .add (.s 27) (.c (.int .i64 1)), none⟩,
    ⟨some 29, .mm false (.s 25) (.s 28), none⟩,
    ⟨some 3, .mv (.s 29), none⟩])
  (.seq (.reg [⟨some 30, .mv (.s 3), none⟩,
    ⟨some 31, .hop (.mks 1 16 [.v (.string ⟨#[]⟩)]) [(.s 30), (.s 30)], none⟩,
    ⟨some 9, .mv (.s 31), none⟩])
  (.seq (.reg [⟨some 32, .mv (.s 3), none⟩,
    ⟨some 33, .int .sub (.s 32) (.c (.int .i64 1)), none⟩,
    ⟨some 3, .mv (.s 33), none⟩])
  (.seq (.reg [⟨some 10, .mv (.c (.int .i64 0)), none⟩])
  (.seq (.block 0 (.loop (.seq (.seq (.reg [⟨some 34, .mv (.s 10), none⟩,
    ⟨some 35, .mv (.s 3), none⟩,
    ⟨some 36, .int .lss (.s 34) (.s 35), none⟩])
  (.cond (.s 36) .skip
  (.exit 0)))
  (.block 1 (.seq (.reg [⟨some 37, .mv (.s 0), none⟩,
    ⟨some 38, .mv (.s 1), none⟩,
    ⟨some 39, .call 218 [(.s 37), (.s 38)], none⟩,
    ⟨some 11, .mv (.s 39), none⟩])
  (.seq (.seq (.reg [⟨some 40, .mv (.s 11), none⟩,
    ⟨some 41, .int .lss (.s 40) (.c (.int .i64 0)), none⟩])
  (.cond (.s 41) (.exit 0)
  .skip))
  (.seq (.reg [⟨some 42, .mv (.s 9), none⟩,
    ⟨some 43, .mv (.s 10), none⟩,
    ⟨some 44, .mv (.s 0), none⟩,
    ⟨some 45, .mv (.s 11), none⟩,
    ⟨some 46, .mv (.s 2), none⟩,
    ⟨some 47, .int .add (.s 45) (.s 46), none⟩,
    ⟨some 48, .ssl (.s 44) none (some (.s 47)), none⟩,
    ⟨some 49, .idx 1 (.s 42) (.s 43), none⟩,
    ⟨none, .store 1 (.s 49) (.s 48), none⟩])
  (.seq (.reg [⟨some 50, .mv (.s 0), none⟩,
    ⟨some 51, .mv (.s 11), none⟩,
    ⟨some 52, .mv (.s 1), none⟩,
    ⟨some 53, .slen (.s 52), none⟩,
    ⟨some 54, .int .add (.s 51) (.s 53), none⟩,
    ⟨some 55, .ssl (.s 50) (some (.s 54)) none, none⟩,
    ⟨some 0, .mv (.s 55), none⟩])
  (.reg [⟨some 56, .mv (.s 10), none⟩,
    ⟨some 57, .int .add (.s 56) (.c (.int .i64 1)), none⟩,
    ⟨some 10, .mv (.s 57), none⟩])))))))))
  (.seq (.reg [⟨some 58, .mv (.s 9), none⟩,
    ⟨some 59, .mv (.s 10), none⟩,
    ⟨some 60, .mv (.s 0), none⟩,
    ⟨some 61, .idx 1 (.s 58) (.s 59), none⟩,
    ⟨none, .store 1 (.s 61) (.s 60), none⟩])
  (.seq (.reg [⟨some 62, .mv (.s 9), none⟩,
    ⟨some 63, .mv (.s 10), none⟩,
    ⟨some 64, .int .add (.s 63) (.c (.int .i64 1)), none⟩,
    ⟨some 65, .slc 1 (.s 62) none (some (.s 64)) none, none⟩,
    ⟨some 8, .mv (.s 65), none⟩])
  .ret)))))))))))⟩

/-- cmp.isNaN[string] -/
def sf205 : SF :=
  ⟨1, 6, [.t 2],
  (.seq (.reg [⟨some 2, .mv (.c (.bool false)), none⟩])
  (.seq (.reg [⟨some 3, .mv (.s 0), none⟩,
    ⟨some 4, .mv (.s 0), none⟩,
    ⟨some 5, .str .neq (.s 3) (.s 4), none⟩,
    ⟨some 2, .mv (.s 5), none⟩])
  .ret))⟩

/-- internal/bytealg.LastIndexByteString -/
def sf206 : SF :=
  ⟨2, 19, [.t 4],
  (.seq (.reg [⟨some 4, .mv (.c (.int .i64 0)), none⟩])
  (.seq (.seq (.reg [⟨some 6, .mv (.s 0), none⟩,
    ⟨some 7, .slen (.s 6), none⟩,
    ⟨some 8, .int .sub (.s 7) (.c (.int .i64 1)), none⟩,
    ⟨some 5, .mv (.s 8), none⟩])
  (.block 0 (.loop (.seq (.seq (.reg [⟨some 9, .mv (.s 5), none⟩,
    ⟨some 10, .int .geq (.s 9) (.c (.int .i64 0)), none⟩])
  (.cond (.s 10) .skip
  (.exit 0)))
  (.seq (.block 1 (.seq (.reg [⟨some 13, .mv (.s 0), none⟩,
    ⟨some 14, .mv (.s 5), none⟩,
    ⟨some 15, .sidx (.s 13) (.s 14), none⟩,
    ⟨some 16, .mv (.s 1), none⟩,
    ⟨some 17, .int .eql (.s 15) (.s 16), none⟩])
  (.cond (.s 17) (.seq (.reg [⟨some 18, .mv (.s 5), none⟩,
    ⟨some 4, .mv (.s 18), none⟩])
  .ret)
  .skip)))
  (.reg [⟨some 11, .mv (.s 5), none⟩,
    ⟨some 12, .int .sub (.s 11) (.c (.int .i64 1)), none⟩,
    ⟨some 5, .mv (.s 12), none⟩]))))))
  (.seq (.reg [⟨some 4, .mv (.c (.int .i64 (-1))), none⟩])
  .ret)))⟩

/-- slices.Reverse[[]sumpter/api.Entry,sumpter/api.Entry] -/
def sf208 : SF :=
  ⟨1, 28, [],
  (.seq (.reg [⟨some 4, .mv (.s 0), none⟩,
    ⟨some 5, .len (.s 4), none⟩,
    ⟨some 6, .int .sub (.s 5) (.c (.int .i64 1)), none⟩,
    ⟨some 2, .mv (.c (.int .i64 0)), none⟩,
    ⟨some 3, .mv (.s 6), none⟩])
  (.block 0 (.loop (.seq (.seq (.reg [⟨some 7, .mv (.s 2), none⟩,
    ⟨some 8, .mv (.s 3), none⟩,
    ⟨some 9, .int .lss (.s 7) (.s 8), none⟩])
  (.cond (.s 9) .skip
  (.exit 0)))
  (.seq (.block 1 (.dreg [0, 1, 2, 3, 4, 5, 6, 8, 9, 10, 7, 11, 12, 13, 14, 15] [⟨⟨some 14, .mv (.s 0), none⟩, []⟩,
    ⟨⟨some 15, .mv (.s 2), none⟩, []⟩,
    ⟨⟨some 16, .mv (.s 0), none⟩, []⟩,
    ⟨⟨some 17, .mv (.s 3), none⟩, []⟩,
    ⟨⟨some 18, .mv (.s 0), none⟩, []⟩,
    ⟨⟨some 19, .mv (.s 3), none⟩, []⟩,
    ⟨⟨some 20, .idx 3 (.s 18) (.s 19), none⟩, []⟩,
    ⟨⟨some 22, .mv (.s 0), none⟩, []⟩,
    ⟨⟨some 23, .mv (.s 2), none⟩, []⟩,
    ⟨⟨some 24, .idx 3 (.s 22) (.s 23), none⟩, []⟩,
    ⟨⟨some 21, .load true 3 (.s 20), none⟩, []⟩,
    ⟨⟨some 25, .load true 3 (.s 24), none⟩, []⟩,
    ⟨⟨some 26, .idx 3 (.s 14) (.s 15), none⟩, []⟩,
    ⟨⟨none, .store 3 (.s 26) (.s 21), none⟩, []⟩,
    ⟨⟨some 27, .idx 3 (.s 16) (.s 17), none⟩, []⟩,
    ⟨⟨none, .store 3 (.s 27) (.s 25), none⟩, []⟩]))
  (.reg [⟨some 10, .mv (.s 2), none⟩,
    ⟨some 11, .int .add (.s 10) (.c (.int .i64 1)), none⟩,
    ⟨some 12, .mv (.s 3), none⟩,
    ⟨some 13, .int .sub (.s 12) (.c (.int .i64 1)), none⟩,
    ⟨some 2, .mv (.s 11), none⟩,
    ⟨some 3, .mv (.s 13), none⟩]))))))⟩

/-- sumpter/sumpterref07.Name -/
def sf209 : SF :=
  ⟨1, 42, [.t 2],
  (.seq (.reg [⟨some 2, .mv (.c (.bool false)), none⟩])
  (.seq (.seq (.reg [⟨some 4, .mv (.s 0), none⟩,
    ⟨some 5, .slen (.s 4), none⟩,
    ⟨some 6, .int .lss (.s 5) (.c (.int .i64 1)), none⟩,
    ⟨some 7, .mv (.s 6), none⟩,
    ⟨some 8, .mv (.s 0), (some (7, false))⟩,
    ⟨some 9, .slen (.s 8), (some (7, false))⟩,
    ⟨some 10, .int .gtr (.s 9) (.c (.int .i64 32)), (some (7, false))⟩,
    ⟨some 11, .pick (.s 7) (.c (.bool true)) (.s 10), none⟩,
    ⟨some 12, .mv (.s 11), none⟩,
    ⟨some 13, .mv (.s 0), (some (12, false))⟩,
    ⟨some 14, .str .eql (.s 13) (.c (.string ⟨#[46]⟩)), (some (12, false))⟩,
    ⟨some 15, .pick (.s 12) (.c (.bool true)) (.s 14), none⟩,
    ⟨some 16, .mv (.s 15), none⟩,
    ⟨some 17, .mv (.s 0), (some (16, false))⟩,
    ⟨some 18, .str .eql (.s 17) (.c (.string ⟨#[46, 46]⟩)), (some (16, false))⟩,
    ⟨some 19, .pick (.s 16) (.c (.bool true)) (.s 18), none⟩])
  (.cond (.s 19) (.seq (.reg [⟨some 2, .mv (.c (.bool false)), none⟩])
  .ret)
  .skip))
  (.seq (.seq (.reg [⟨some 3, .mv (.c (.int .i64 0)), none⟩])
  (.block 0 (.loop (.seq (.seq (.reg [⟨some 20, .mv (.s 3), none⟩,
    ⟨some 21, .mv (.s 0), none⟩,
    ⟨some 22, .slen (.s 21), none⟩,
    ⟨some 23, .int .lss (.s 20) (.s 22), none⟩])
  (.cond (.s 23) .skip
  (.exit 0)))
  (.seq (.block 1 (.seq (.reg [⟨some 26, .mv (.s 0), none⟩,
    ⟨some 27, .mv (.s 3), none⟩,
    ⟨some 28, .sidx (.s 26) (.s 27), none⟩,
    ⟨some 29, .int .eql (.s 28) (.c (.int .u8 47)), none⟩,
    ⟨some 30, .mv (.s 29), none⟩,
    ⟨some 31, .mv (.s 0), (some (30, false))⟩,
    ⟨some 32, .mv (.s 3), (some (30, false))⟩,
    ⟨some 33, .sidx (.s 31) (.s 32), (some (30, false))⟩,
    ⟨some 34, .int .lss (.s 33) (.c (.int .u8 33)), (some (30, false))⟩,
    ⟨some 35, .pick (.s 30) (.c (.bool true)) (.s 34), none⟩,
    ⟨some 36, .mv (.s 35), none⟩,
    ⟨some 37, .mv (.s 0), (some (36, false))⟩,
    ⟨some 38, .mv (.s 3), (some (36, false))⟩,
    ⟨some 39, .sidx (.s 37) (.s 38), (some (36, false))⟩,
    ⟨some 40, .int .gtr (.s 39) (.c (.int .u8 126)), (some (36, false))⟩,
    ⟨some 41, .pick (.s 36) (.c (.bool true)) (.s 40), none⟩])
  (.cond (.s 41) (.seq (.reg [⟨some 2, .mv (.c (.bool false)), none⟩])
  .ret)
  .skip)))
  (.reg [⟨some 24, .mv (.s 3), none⟩,
    ⟨some 25, .int .add (.s 24) (.c (.int .i64 1)), none⟩,
    ⟨some 3, .mv (.s 25), none⟩]))))))
  (.seq (.reg [⟨some 2, .mv (.c (.bool true)), none⟩])
  .ret))))⟩

/-- slices.IndexFunc[[]string,string] -/
def sf210 : SF :=
  ⟨2, 19, [.t 4],
  (.seq (.reg [⟨some 4, .mv (.c (.int .i64 0)), none⟩])
  (.seq (.seq (.reg [⟨some 6, .mv (.s 0), none⟩,
    ⟨some 7, .len (.s 6), none⟩,
    ⟨some 8, .mv (.c (.int .i64 0)), none⟩])
  (.block 0 (.loop (.seq (.reg [⟨some 9, .int .lss (.s 8) (.s 7), none⟩])
  (.seq (.cond (.s 9) .skip
  (.exit 0))
  (.seq (.block 1 (.seq (.reg [⟨some 10, .mv (.s 8), none⟩,
    ⟨some 5, .mv (.s 10), none⟩])
  (.seq (.reg [⟨some 11, .mv (.s 1), none⟩,
    ⟨some 12, .mv (.s 0), none⟩,
    ⟨some 13, .mv (.s 5), none⟩,
    ⟨some 14, .idx 1 (.s 12) (.s 13), none⟩,
    ⟨some 15, .load false 1 (.s 14), none⟩,
    ⟨some 16, .callv (.s 11) [(.s 15)], none⟩])
  (.cond (.s 16) (.seq (.reg [⟨some 17, .mv (.s 5), none⟩,
    ⟨some 4, .mv (.s 17), none⟩])
  .ret)
  .skip))))
  (.reg [⟨some 18, .int .add (.s 8) (.c (.int .i64 1)), none⟩,
    ⟨some 8, .mv (.s 18), none⟩])))))))
  (.seq (.reg [⟨some 4, .mv (.c (.int .i64 (-1))), none⟩])
  .ret)))⟩

/-- sumpter/path.Name -/
def sf211 : SF :=
  ⟨1, 39, [.t 2],
  (.seq (.reg [⟨some 2, .mv (.c (.bool false)), none⟩])
  (.seq (.seq (.reg [⟨some 5, .mv (.s 0), none⟩,
    ⟨some 6, .str .eql (.s 5) (.c (.string ⟨#[]⟩)), none⟩,
    ⟨some 7, .mv (.s 6), none⟩,
    ⟨some 8, .mv (.s 0), (some (7, false))⟩,
    ⟨some 9, .slen (.s 8), (some (7, false))⟩,
    ⟨some 10, .int .gtr (.s 9) (.c (.int .i64 32)), (some (7, false))⟩,
    ⟨some 11, .pick (.s 7) (.c (.bool true)) (.s 10), none⟩,
    ⟨some 12, .mv (.s 11), none⟩,
    ⟨some 13, .mv (.s 0), (some (12, false))⟩,
    ⟨some 14, .str .eql (.s 13) (.c (.string ⟨#[46]⟩)), (some (12, false))⟩,
    ⟨some 15, .pick (.s 12) (.c (.bool true)) (.s 14), none⟩,
    ⟨some 16, .mv (.s 15), none⟩,
    ⟨some 17, .mv (.s 0), (some (16, false))⟩,
    ⟨some 18, .str .eql (.s 17) (.c (.string ⟨#[46, 46]⟩)), (some (16, false))⟩,
    ⟨some 19, .pick (.s 16) (.c (.bool true)) (.s 18), none⟩])
  (.cond (.s 19) (.seq (.reg [⟨some 2, .mv (.c (.bool false)), none⟩])
  .ret)
  .skip))
  (.seq (.seq (.reg [⟨some 20, .mv (.s 0), none⟩,
    ⟨some 21, .slen (.s 20), none⟩,
    ⟨some 22, .mv (.c (.int .i64 0)), none⟩])
  (.block 0 (.loop (.seq (.reg [⟨some 23, .int .lss (.s 22) (.s 21), none⟩])
  (.seq (.cond (.s 23) .skip
  (.exit 0))
  (.seq (.block 1 (.seq (.reg [⟨some 24, .mv (.s 22), none⟩,
    ⟨some 3, .mv (.s 24), none⟩])
  (.seq (.reg [⟨some 25, .mv (.s 0), none⟩,
    ⟨some 26, .mv (.s 3), none⟩,
    ⟨some 27, .sidx (.s 25) (.s 26), none⟩,
    ⟨some 4, .mv (.s 27), none⟩])
  (.seq (.reg [⟨some 28, .mv (.s 4), none⟩,
    ⟨some 29, .int .eql (.s 28) (.c (.int .u8 47)), none⟩,
    ⟨some 30, .mv (.s 29), none⟩,
    ⟨some 31, .mv (.s 4), (some (30, false))⟩,
    ⟨some 32, .int .leq (.s 31) (.c (.int .u8 32)), (some (30, false))⟩,
    ⟨some 33, .pick (.s 30) (.c (.bool true)) (.s 32), none⟩,
    ⟨some 34, .mv (.s 33), none⟩,
    ⟨some 35, .mv (.s 4), (some (34, false))⟩,
    ⟨some 36, .int .gtr (.s 35) (.c (.int .u8 126)), (some (34, false))⟩,
    ⟨some 37, .pick (.s 34) (.c (.bool true)) (.s 36), none⟩])
  (.cond (.s 37) (.seq (.reg [⟨some 2, .mv (.c (.bool false)), none⟩])
  .ret)
  .skip)))))
  (.reg [⟨some 38, .int .add (.s 22) (.c (.int .i64 1)), none⟩,
    ⟨some 22, .mv (.s 38), none⟩])))))))
  (.seq (.reg [⟨some 2, .mv (.c (.bool true)), none⟩])
  .ret))))⟩

/-- internal/stringslite.HasPrefix -/
def sf212 : SF :=
  ⟨2, 18, [.t 4],
  (.seq (.reg [⟨some 4, .mv (.c (.bool false)), none⟩])
  (.seq (.reg [⟨some 5, .mv (.s 0), none⟩,
    ⟨some 6, .slen (.s 5), none⟩,
    ⟨some 7, .mv (.s 1), none⟩,
    ⟨some 8, .slen (.s 7), none⟩,
    ⟨some 9, .int .geq (.s 6) (.s 8), none⟩,
    ⟨some 10, .mv (.s 9), none⟩,
    ⟨some 11, .mv (.s 0), (some (10, true))⟩,
    ⟨some 12, .mv (.s 1), (some (10, true))⟩,
    ⟨some 13, .slen (.s 12), (some (10, true))⟩,
    ⟨some 14, .ssl (.s 11) none (some (.s 13)), (some (10, true))⟩,
    ⟨some 15, .mv (.s 1), (some (10, true))⟩,
    ⟨some 16, .str .eql (.s 14) (.s 15), (some (10, true))⟩,
    ⟨some 17, .pick (.s 10) (.s 16) (.c (.bool false)), none⟩,
    ⟨some 4, .mv (.s 17), none⟩])
  .ret))⟩

/-- strings.Count -/
def sf214 : SF :=
  ⟨2, 34, [.t 4],
  (.seq (.reg [⟨some 4, .mv (.c (.int .i64 0)), none⟩])
  (.seq (.seq (.reg [⟨some 7, .mv (.s 1), none⟩,
    ⟨some 8, .slen (.s 7), none⟩,
    ⟨some 9, .int .eql (.s 8) (.c (.int .i64 0)), none⟩])
  (.cond (.s 9) (.seq (.reg [⟨some 10, .mv (.s 0), none⟩,
    ⟨some 11, .dead, none⟩,
    ⟨some 12, .int .add (.s 11) (.c (.int .i64 1)), none⟩,
    ⟨some 4, .mv (.s 12), none⟩])
  .ret)
  .skip))
  (.seq (.seq (.reg [⟨some 13, .mv (.s 1), none⟩,
    ⟨some 14, .slen (.s 13), none⟩,
    ⟨some 15, .int .eql (.s 14) (.c (.int .i64 1)), none⟩])
  (.cond (.s 15) (.seq (.reg [⟨some 16, .mv (.s 0), none⟩,
    ⟨some 17, .mv (.s 1), none⟩,
    ⟨some 18, .sidx (.s 17) (.c (.int .i64 0)), none⟩,
    ⟨some 19, .nd .cntb [(.s 16), (.s 18)], none⟩,
    ⟨some 4, .mv (.s 19), none⟩])
  .ret)
  .skip))
  (.seq (.reg [⟨some 5, .mv (.c (.int .i64 0)), none⟩])
  (.block 0 (.loop (.block 1 (.seq (.reg [⟨some 20, .mv (.s 0), none⟩,
    ⟨some 21, .mv (.s 1), none⟩,
    ⟨some 22, .call 218 [(.s 20), (.s 21)], none⟩,
    ⟨some 6, .mv (.s 22), none⟩])
  (.seq (.seq (.reg [⟨some 23, .mv (.s 6), none⟩,
    ⟨some 24, .int .eql (.s 23) (.c (.int .i64 (-1))), none⟩])
  (.cond (.s 24) (.seq (.reg [⟨some 25, .mv (.s 5), none⟩,
    ⟨some 4, .mv (.s 25), none⟩])
  .ret)
  .skip))
  (.seq (.reg [⟨some 26, .mv (.s 5), none⟩,
    ⟨some 27, .int .add (.s 26) (.c (.int .i64 1)), none⟩,
    ⟨some 5, .mv (.s 27), none⟩])
  (.reg [⟨some 28, .mv (.s 0), none⟩,
    ⟨some 29, .mv (.s 6), none⟩,
    ⟨some 30, .mv (.s 1), none⟩,
    ⟨some 31, .slen (.s 30), none⟩,
    ⟨some 32, .int .add (.s 29) (.s 31), none⟩,
    ⟨some 33, .ssl (.s 28) (some (.s 32)) none, none⟩,
    ⟨some 0, .mv (.s 33), none⟩])))))))))))⟩

/-- strings.Index -/
def sf218 : SF :=
  ⟨2, 8, [.t 4],
  (.seq (.reg [⟨some 4, .mv (.c (.int .i64 0)), none⟩])
  (.seq (.reg [⟨some 5, .mv (.s 0), none⟩,
    ⟨some 6, .mv (.s 1), none⟩,
    ⟨some 7, .call 219 [(.s 5), (.s 6)], none⟩,
    ⟨some 4, .mv (.s 7), none⟩])
  .ret))⟩

/-- internal/stringslite.Index -/
def sf219 : SF :=
  ⟨2, 143, [.t 4],
  (.seq (.reg [⟨some 4, .mv (.c (.int .i64 0)), none⟩])
  (.seq (.reg [⟨some 14, .mv (.s 1), none⟩,
    ⟨some 15, .slen (.s 14), none⟩,
    ⟨some 5, .mv (.s 15), none⟩])
  (.seq (.block 0 (.seq (.reg [⟨some 17, .mv (.s 5), none⟩,
    ⟨some 18, .int .eql (.s 17) (.c (.int .i64 0)), none⟩,
    ⟨some 19, .mv (.s 18), none⟩,
    ⟨some 20, .mv (.s 1), (some (19, false))⟩,
    ⟨some 21, .mv (.s 0), (some (19, false))⟩,
    ⟨some 22, .str .eql (.s 20) (.s 21), (some (19, false))⟩,
    ⟨some 23, .pick (.s 19) (.c (.bool true)) (.s 22), none⟩,
    ⟨some 16, .mv (.s 23), none⟩])
  (.cond (.s 16) (.seq (.reg [⟨some 4, .mv (.c (.int .i64 0)), none⟩])
  .ret)
  (.seq (.reg [⟨some 25, .mv (.s 5), none⟩,
    ⟨some 26, .int .eql (.s 25) (.c (.int .i64 1)), none⟩,
    ⟨some 24, .mv (.s 26), none⟩])
  (.cond (.s 24) (.seq (.reg [⟨some 27, .mv (.s 0), none⟩,
    ⟨some 28, .mv (.s 1), none⟩,
    ⟨some 29, .sidx (.s 28) (.c (.int .i64 0)), none⟩,
    ⟨some 30, .call 221 [(.s 27), (.s 29)], none⟩,
    ⟨some 4, .mv (.s 30), none⟩])
  .ret)
  (.seq (.reg [⟨some 32, .mv (.s 5), none⟩,
    ⟨some 33, .mv (.s 0), none⟩,
    ⟨some 34, .slen (.s 33), none⟩,
    ⟨some 35, .int .geq (.s 32) (.s 34), none⟩,
    ⟨some 31, .mv (.s 35), none⟩])
  (.cond (.s 31) (.seq (.reg [⟨some 4, .mv (.c (.int .i64 (-1))), none⟩])
  .ret)
  (.seq (.reg [⟨some 37, .mv (.s 5), none⟩,
    ⟨some 38, .dead, none⟩,
    ⟨some 39, .int .leq (.s 37) (.s 38), none⟩,
    ⟨some 40, .mv (.s 39), none⟩,
    ⟨some 41, .mv (.s 0), (some (40, true))⟩,
    ⟨some 42, .slen (.s 41), (some (40, true))⟩,
    ⟨some 43, .int .leq (.s 42) (.c (.int .i64 64)), (some (40, true))⟩,
    ⟨some 44, .pick (.s 40) (.s 43) (.c (.bool false)), none⟩,
    ⟨some 36, .mv (.s 44), none⟩])
  (.cond (.s 36) (.seq (.reg [⟨some 45, .mv (.s 0), none⟩,
    ⟨some 46, .mv (.s 1), none⟩,
    ⟨some 47, .dead, none⟩,
    ⟨some 4, .mv (.s 47), none⟩])
  .ret)
  .skip)))))))))
  (.seq (.reg [⟨some 48, .mv (.s 1), none⟩,
    ⟨some 49, .sidx (.s 48) (.c (.int .i64 0)), none⟩,
    ⟨some 6, .mv (.s 49), none⟩])
  (.seq (.reg [⟨some 50, .mv (.s 1), none⟩,
    ⟨some 51, .sidx (.s 50) (.c (.int .i64 1)), none⟩,
    ⟨some 7, .mv (.s 51), none⟩])
  (.seq (.reg [⟨some 8, .mv (.c (.int .i64 0)), none⟩])
  (.seq (.reg [⟨some 52, .mv (.s 0), none⟩,
    ⟨some 53, .slen (.s 52), none⟩,
    ⟨some 54, .mv (.s 5), none⟩,
    ⟨some 55, .int .sub (.s 53) (.s 54), none⟩,
    ⟨some 56, .int .add (.s 55) (.c (.int .i64 1)), none⟩,
    ⟨some 9, .mv (.s 56), none⟩])
  (.seq (.reg [⟨some 10, .mv (.c (.int .i64 0)), none⟩])
  (.seq (.block 1 (.loop (.seq (.seq (.reg [⟨some 57, .mv (.s 8), none⟩,
    ⟨some 58, .mv (.s 9), none⟩,
    ⟨some 59, .int .lss (.s 57) (.s 58), none⟩])
  (.cond (.s 59) .skip
  (.exit 1)))
  (.block 2 (.seq (.seq (.reg [⟨some 60, .mv (.s 0), none⟩,
    ⟨some 61, .mv (.s 8), none⟩,
    ⟨some 62, .sidx (.s 60) (.s 61), none⟩,
    ⟨some 63, .mv (.s 6), none⟩,
    ⟨some 64, .int .neq (.s 62) (.s 63), none⟩])
  (.cond (.s 64) (.seq (.reg [⟨some 65, .mv (.s 0), none⟩,
    ⟨some 66, .mv (.s 8), none⟩,
    ⟨some 67, .int .add (.s 66) (.c (.int .i64 1)), none⟩,
    ⟨some 68, .mv (.s 9), none⟩,
    ⟨some 69, .ssl (.s 65) (some (.s 67)) (some (.s 68)), none⟩,
    ⟨some 70, .mv (.s 6), none⟩,
    ⟨some 71, .call 221 [(.s 69), (.s 70)], none⟩,
    ⟨some 11, .mv (.s 71), none⟩])
  (.seq (.seq (.reg [⟨some 72, .mv (.s 11), none⟩,
    ⟨some 73, .int .lss (.s 72) (.c (.int .i64 0)), none⟩])
  (.cond (.s 73) (.seq (.reg [⟨some 4, .mv (.c (.int .i64 (-1))), none⟩])
  .ret)
  .skip))
  (.reg [⟨some 74, .mv (.s 8), none⟩,
    ⟨some 75, .mv (.s 11), none⟩,
    ⟨some 76, .int .add (.s 75) (.c (.int .i64 1)), none⟩,
    ⟨some 77, .int .add (.s 74) (.s 76), none⟩,
    ⟨some 8, .mv (.s 77), none⟩])))
  .skip))
  (.seq (.seq (.reg [⟨some 78, .mv (.s 0), none⟩,
    ⟨some 79, .mv (.s 8), none⟩,
    ⟨some 80, .int .add (.s 79) (.c (.int .i64 1)), none⟩,
    ⟨some 81, .sidx (.s 78) (.s 80), none⟩,
    ⟨some 82, .mv (.s 7), none⟩,
    ⟨some 83, .int .eql (.s 81) (.s 82), none⟩,
    ⟨some 84, .mv (.s 83), none⟩,
    ⟨some 85, .mv (.s 0), (some (84, true))⟩,
    ⟨some 86, .mv (.s 8), (some (84, true))⟩,
    ⟨some 87, .mv (.s 8), (some (84, true))⟩,
    ⟨some 88, .mv (.s 5), (some (84, true))⟩,
    ⟨some 89, .int .add (.s 87) (.s 88), (some (84, true))⟩,
    ⟨some 90, .ssl (.s 85) (some (.s 86)) (some (.s 89)), (some (84, true))⟩,
    ⟨some 91, .mv (.s 1), (some (84, true))⟩,
    ⟨some 92, .str .eql (.s 90) (.s 91), (some (84, true))⟩,
    ⟨some 93, .pick (.s 84) (.s 92) (.c (.bool false)), none⟩])
  (.cond (.s 93) (.seq (.reg [⟨some 94, .mv (.s 8), none⟩,
    ⟨some 4, .mv (.s 94), none⟩])
  .ret)
  .skip))
  (.seq (.reg [⟨some 95, .mv (.s 8), none⟩,
    ⟨some 96, .int .add (.s 95) (.c (.int .i64 1)), none⟩,
    ⟨some 8, .mv (.s 96), none⟩])
  (.seq (.reg [⟨some 97, .mv (.s 10), none⟩,
    ⟨some 98, .int .add (.s 97) (.c (.int .i64 1)), none⟩,
    ⟨some 10, .mv (.s 98), none⟩])
  (.seq (.reg [⟨some 99, .mv (.s 5), none⟩,
    ⟨some 100, .dead, none⟩,
    ⟨some 101, .int .leq (.s 99) (.s 100), none⟩,
    ⟨some 102, .mv (.s 101), none⟩,
    ⟨some 103, .mv (.s 10), (some (102, true))⟩,
    ⟨some 104, .mv (.s 8), (some (102, true))⟩,
    ⟨some 105, .dead, (some (102, true))⟩,
    ⟨some 106, .int .gtr (.s 103) (.s 105), (some (102, true))⟩,
    ⟨some 107, .pick (.s 102) (.s 106) (.c (.bool false)), none⟩])
  (.cond (.s 107) (.seq (.reg [⟨some 108, .mv (.s 0), none⟩,
    ⟨some 109, .mv (.s 8), none⟩,
    ⟨some 110, .ssl (.s 108) (some (.s 109)) none, none⟩,
    ⟨some 111, .mv (.s 1), none⟩,
    ⟨some 112, .dead, none⟩,
    ⟨some 12, .mv (.s 112), none⟩])
  (.seq (.seq (.reg [⟨some 113, .mv (.s 12), none⟩,
    ⟨some 114, .int .geq (.s 113) (.c (.int .i64 0)), none⟩])
  (.cond (.s 114) (.seq (.reg [⟨some 115, .mv (.s 12), none⟩,
    ⟨some 116, .mv (.s 8), none⟩,
    ⟨some 117, .int .add (.s 115) (.s 116), none⟩,
    ⟨some 4, .mv (.s 117), none⟩])
  .ret)
  .skip))
  (.seq (.reg [⟨some 4, .mv (.c (.int .i64 (-1))), none⟩])
  .ret)))
  (.seq (.reg [⟨some 118, .mv (.s 5), none⟩,
    ⟨some 119, .dead, none⟩,
    ⟨some 120, .int .gtr (.s 118) (.s 119), none⟩,
    ⟨some 121, .mv (.s 120), none⟩,
    ⟨some 122, .mv (.s 10), (some (121, true))⟩,
    ⟨some 123, .mv (.s 8), (some (121, true))⟩,
    ⟨some 124, .int .shr (.s 123) (.c (.int .u64 4)), (some (121, true))⟩,
    ⟨some 125, .int .add (.c (.int .i64 4)) (.s 124), (some (121, true))⟩,
    ⟨some 126, .int .geq (.s 122) (.s 125), (some (121, true))⟩,
    ⟨some 127, .pick (.s 121) (.s 126) (.c (.bool false)), none⟩,
    ⟨some 128, .mv (.s 127), none⟩,
    ⟨some 129, .mv (.s 8), (some (128, true))⟩,
    ⟨some 130, .mv (.s 9), (some (128, true))⟩,
    ⟨some 131, .int .lss (.s 129) (.s 130), (some (128, true))⟩,
    ⟨some 132, .pick (.s 128) (.s 131) (.c (.bool false)), none⟩])
  (.cond (.s 132) (.seq (.reg [⟨some 133, .mv (.s 0), none⟩,
    ⟨some 134, .mv (.s 8), none⟩,
    ⟨some 135, .ssl (.s 133) (some (.s 134)) none, none⟩,
    ⟨some 136, .mv (.s 1), none⟩,
    ⟨some 137, .dead, none⟩,
    ⟨some 13, .mv (.s 137), none⟩])
  (.seq (.seq (.reg [⟨some 138, .mv (.s 13), none⟩,
    ⟨some 139, .int .lss (.s 138) (.c (.int .i64 0)), none⟩])
  (.cond (.s 139) (.seq (.reg [⟨some 4, .mv (.c (.int .i64 (-1))), none⟩])
  .ret)
  .skip))
  (.seq (.reg [⟨some 140, .mv (.s 8), none⟩,
    ⟨some 141, .mv (.s 13), none⟩,
    ⟨some 142, .int .add (.s 140) (.s 141), none⟩,
    ⟨some 4, .mv (.s 142), none⟩])
  .ret)))
  .skip))))))))))))
  (.seq (.reg [⟨some 4, .mv (.c (.int .i64 (-1))), none⟩])
  .ret))))))))))⟩

/-- internal/stringslite.IndexByte -/
def sf221 : SF :=
  ⟨2, 8, [.t 4],
  (.seq (.reg [⟨some 4, .mv (.c (.int .i64 0)), none⟩])
  (.seq (.reg [⟨some 5, .mv (.s 0), none⟩,
    ⟨some 6, .mv (.s 1), none⟩,
    ⟨some 7, .nd .ixb [(.s 5), (.s 6)], none⟩,
    ⟨some 4, .mv (.s 7), none⟩])
  .ret))⟩

/-- sumpter/sumpterlaw08.TreeGets -/
def sf224 : SF :=
  ⟨2, 70, [.t 4],
  (.seq (.reg [⟨some 4, .mv (.c (.bool false)), none⟩])
  (.seq (.seq (.reg [⟨some 12, .mv (.s 0), none⟩,
    ⟨some 13, .call 148 [(.s 12), (.c (.int .i64 70)), (.c (.int .i64 70000))], none⟩,
    ⟨some 14, .not (.s 13), none⟩,
    ⟨some 15, .mv (.s 14), none⟩,
    ⟨some 16, .mv (.s 1), (some (15, false))⟩,
    ⟨some 17, .slen (.s 16), (some (15, false))⟩,
    ⟨some 18, .int .gtr (.s 17) (.c (.int .i64 1000)), (some (15, false))⟩,
    ⟨some 19, .pick (.s 15) (.c (.bool true)) (.s 18), none⟩])
  (.cond (.s 19) (.seq (.reg [⟨some 20, .call 149 [], none⟩,
    ⟨some 4, .mv (.s 20), none⟩])
  .ret)
  .skip))
  (.seq (.reg [⟨some 22, .mv (.s 0), none⟩,
    ⟨some 23, .mv (.s 1), none⟩,
    ⟨some 24, .call 150 [(.s 22), (.s 23)], none⟩,
    ⟨some 21, .mv (.s 24), none⟩,
    ⟨some 25, .ext (.s 21) 0, none⟩,
    ⟨some 26, .ext (.s 21) 1, none⟩,
    ⟨some 5, .alloc (some 0) [.v (.string ⟨#[]⟩), .v (.bool false), .v (.slice none 0 0)], none⟩,
    ⟨none, .store 3 (.s 5) (.s 25), none⟩,
    ⟨some 6, .mv (.s 26), none⟩])
  (.seq (.reg [⟨some 28, .mv (.s 0), none⟩,
    ⟨some 29, .mv (.s 1), none⟩,
    ⟨some 30, .call 151 [(.s 28), (.s 29)], none⟩,
    ⟨some 27, .mv (.s 30), none⟩,
    ⟨some 31, .ext (.s 27) 0, none⟩,
    ⟨some 32, .ext (.s 27) 1, none⟩,
    ⟨some 7, .alloc (some 1) [.v (.string ⟨#[]⟩), .v (.bool false), .v (.slice none 0 0)], none⟩,
    ⟨none, .store 3 (.s 7) (.s 31), none⟩,
    ⟨some 8, .mv (.s 32), none⟩])
  (.seq (.reg [⟨some 33, .mv (.s 0), none⟩,
    ⟨some 34, .mv (.s 1), none⟩,
    ⟨some 35, .call 152 [(.s 33), (.s 34)], none⟩,
    ⟨some 36, .mv (.s 0), none⟩,
    ⟨some 37, .mv (.s 1), none⟩,
    ⟨some 38, .call 153 [(.s 36), (.s 37)], none⟩,
    ⟨some 9, .mv (.s 35), none⟩,
    ⟨some 10, .mv (.s 38), none⟩])
  (.seq (.seq (.reg [⟨some 39, .mv (.s 9), none⟩,
    ⟨some 40, .len (.s 39), none⟩,
    ⟨some 41, .mv (.s 10), none⟩,
    ⟨some 42, .len (.s 41), none⟩,
    ⟨some 43, .int .neq (.s 40) (.s 42), none⟩])
  (.cond (.s 43) (.seq (.reg [⟨some 4, .mv (.c (.bool false)), none⟩])
  .ret)
  .skip))
  (.seq (.seq (.reg [⟨some 11, .mv (.c (.int .i64 0)), none⟩])
  (.block 0 (.loop (.seq (.seq (.reg [⟨some 44, .mv (.s 11), none⟩,
    ⟨some 45, .mv (.s 9), none⟩,
    ⟨some 46, .len (.s 45), none⟩,
    ⟨some 47, .int .lss (.s 44) (.s 46), none⟩])
  (.cond (.s 47) .skip
  (.exit 0)))
  (.seq (.block 1 (.seq (.dreg [0, 1, 2, 4, 5, 6, 3, 7, 8] [⟨⟨some 50, .mv (.s 9), none⟩, []⟩,
    ⟨⟨some 51, .mv (.s 11), none⟩, []⟩,
    ⟨⟨some 52, .idx 1 (.s 50) (.s 51), none⟩, []⟩,
    ⟨⟨some 54, .mv (.s 10), none⟩, []⟩,
    ⟨⟨some 55, .mv (.s 11), none⟩, []⟩,
    ⟨⟨some 56, .idx 1 (.s 54) (.s 55), none⟩, []⟩,
    ⟨⟨some 53, .load false 1 (.s 52), none⟩, []⟩,
    ⟨⟨some 57, .load false 1 (.s 56), none⟩, []⟩,
    ⟨⟨some 58, .str .neq (.s 53) (.s 57), none⟩, []⟩])
  (.cond (.s 58) (.seq (.reg [⟨some 4, .mv (.c (.bool false)), none⟩])
  .ret)
  .skip)))
  (.reg [⟨some 48, .mv (.s 11), none⟩,
    ⟨some 49, .int .add (.s 48) (.c (.int .i64 1)), none⟩,
    ⟨some 11, .mv (.s 49), none⟩]))))))
  (.seq (.reg [⟨some 59, .load true 3 (.s 5), none⟩,
    ⟨some 60, .load true 3 (.s 7), none⟩,
    ⟨some 61, .call 154 [(.s 59), (.s 60)], none⟩,
    ⟨some 62, .mv (.s 61), none⟩,
    ⟨some 63, .mv (.s 6), (some (62, true))⟩,
    ⟨some 64, .mv (.s 8), (some (62, true))⟩,
    ⟨some 65, .eq .bool false (.s 63) (.s 64), (some (62, true))⟩,
    ⟨some 66, .pick (.s 62) (.s 65) (.c (.bool false)), none⟩,
    ⟨some 67, .mv (.s 66), none⟩,
    ⟨some 68, .call 149 [], (some (67, true))⟩,
    ⟨some 69, .pick (.s 67) (.s 68) (.c (.bool false)), none⟩,
    ⟨some 4, .mv (.s 69), none⟩])
  .ret))))))))⟩

/-- sumpter/sumpterlaw08.TreePuts -/
def sf225 : SF :=
  ⟨2, 117, [.t 4],
  (.seq (.reg [⟨some 3, .box (some 0) 3 (.s 1), none⟩,
    ⟨some 4, .mv (.c (.bool false)), none⟩])
  (.seq (.seq (.reg [⟨some 17, .mv (.s 0), none⟩,
    ⟨some 18, .call 148 [(.s 17), (.c (.int .i64 70)), (.c (.int .i64 70000))], none⟩,
    ⟨some 19, .not (.s 18), none⟩,
    ⟨some 20, .mv (.s 19), none⟩,
    ⟨some 21, .load true 3 (.s 3), (some (20, false))⟩,
    ⟨some 22, .bslice 3 [(.s 21)], (some (20, false))⟩,
    ⟨some 23, .call 148 [(.s 22), (.c (.int .i64 1)), (.c (.int .i64 70000))], (some (20, false))⟩,
    ⟨some 24, .not (.s 23), (some (20, false))⟩,
    ⟨some 25, .pick (.s 20) (.c (.bool true)) (.s 24), none⟩])
  (.cond (.s 25) (.seq (.reg [⟨some 26, .call 149 [], none⟩,
    ⟨some 4, .mv (.s 26), none⟩])
  .ret)
  .skip))
  (.seq (.reg [⟨some 27, .mv (.s 0), none⟩,
    ⟨some 28, .call 155 [(.s 27)], none⟩,
    ⟨some 5, .mv (.s 28), none⟩])
  (.seq (.reg [⟨some 30, .mv (.s 5), none⟩,
    ⟨some 31, .load true 3 (.s 3), none⟩,
    ⟨some 32, .call 156 [(.s 30), (.s 31)], none⟩,
    ⟨some 29, .mv (.s 32), none⟩,
    ⟨some 33, .ext (.s 29) 0, none⟩,
    ⟨some 34, .ext (.s 29) 1, none⟩,
    ⟨some 6, .mv (.s 33), none⟩,
    ⟨some 7, .mv (.s 34), none⟩])
  (.seq (.reg [⟨some 36, .mv (.s 0), none⟩,
    ⟨some 37, .load true 3 (.s 3), none⟩,
    ⟨some 38, .call 157 [(.s 36), (.s 37)], none⟩,
    ⟨some 35, .mv (.s 38), none⟩,
    ⟨some 39, .ext (.s 35) 0, none⟩,
    ⟨some 40, .ext (.s 35) 1, none⟩,
    ⟨some 8, .mv (.s 39), none⟩,
    ⟨some 9, .mv (.s 40), none⟩])
  (.seq (.reg [⟨some 42, .mv (.s 5), none⟩,
    ⟨some 43, .fld 0 (.s 3), none⟩,
    ⟨some 44, .load false 1 (.s 43), none⟩,
    ⟨some 45, .call 158 [(.s 42), (.s 44)], none⟩,
    ⟨some 41, .mv (.s 45), none⟩,
    ⟨some 46, .ext (.s 41) 0, none⟩,
    ⟨some 47, .ext (.s 41) 1, none⟩,
    ⟨some 10, .mv (.s 46), none⟩,
    ⟨some 11, .mv (.s 47), none⟩])
  (.seq (.reg [⟨some 49, .mv (.s 0), none⟩,
    ⟨some 50, .fld 0 (.s 3), none⟩,
    ⟨some 51, .load false 1 (.s 50), none⟩,
    ⟨some 52, .call 159 [(.s 49), (.s 51)], none⟩,
    ⟨some 48, .mv (.s 52), none⟩,
    ⟨some 53, .ext (.s 48) 0, none⟩,
    ⟨some 54, .ext (.s 48) 1, none⟩,
    ⟨some 12, .mv (.s 53), none⟩,
    ⟨some 13, .mv (.s 54), none⟩])
  (.seq (.reg [⟨some 55, .mv (.s 6), none⟩,
    ⟨some 56, .mv (.s 8), none⟩,
    ⟨some 57, .call 160 [(.s 55), (.s 56)], none⟩,
    ⟨some 58, .mv (.s 57), none⟩,
    ⟨some 59, .mv (.s 7), (some (58, true))⟩,
    ⟨some 60, .mv (.s 9), (some (58, true))⟩,
    ⟨some 61, .int .eql (.s 59) (.s 60), (some (58, true))⟩,
    ⟨some 62, .pick (.s 58) (.s 61) (.c (.bool false)), none⟩,
    ⟨some 63, .mv (.s 62), none⟩,
    ⟨some 64, .mv (.s 10), (some (63, true))⟩,
    ⟨some 65, .mv (.s 12), (some (63, true))⟩,
    ⟨some 66, .call 160 [(.s 64), (.s 65)], (some (63, true))⟩,
    ⟨some 67, .pick (.s 63) (.s 66) (.c (.bool false)), none⟩,
    ⟨some 68, .mv (.s 67), none⟩,
    ⟨some 69, .mv (.s 11), (some (68, true))⟩,
    ⟨some 70, .mv (.s 13), (some (68, true))⟩,
    ⟨some 71, .int .eql (.s 69) (.s 70), (some (68, true))⟩,
    ⟨some 72, .pick (.s 68) (.s 71) (.c (.bool false)), none⟩,
    ⟨some 73, .mv (.s 72), none⟩,
    ⟨some 74, .mv (.s 5), (some (73, true))⟩,
    ⟨some 75, .mv (.s 0), (some (73, true))⟩,
    ⟨some 76, .call 160 [(.s 74), (.s 75)], (some (73, true))⟩,
    ⟨some 77, .pick (.s 73) (.s 76) (.c (.bool false)), none⟩,
    ⟨some 14, .mv (.s 77), none⟩])
  (.seq (.seq (.reg [⟨some 15, .mv (.c (.int .i64 0)), none⟩])
  (.block 0 (.loop (.seq (.seq (.reg [⟨some 78, .mv (.s 15), none⟩,
    ⟨some 79, .mv (.s 6), none⟩,
    ⟨some 80, .len (.s 79), none⟩,
    ⟨some 81, .int .lss (.s 78) (.s 80), none⟩])
  (.cond (.s 81) .skip
  (.exit 0)))
  (.seq (.block 1 (.seq (.seq (.reg [⟨some 16, .mv (.c (.int .i64 0)), none⟩])
  (.block 2 (.loop (.seq (.seq (.reg [⟨some 84, .mv (.s 16), none⟩,
    ⟨some 85, .mv (.s 6), none⟩,
    ⟨some 86, .mv (.s 15), none⟩,
    ⟨some 87, .idx 3 (.s 85) (.s 86), none⟩,
    ⟨some 88, .fld 2 (.s 87), none⟩,
    ⟨some 89, .load false 1 (.s 88), none⟩,
    ⟨some 90, .len (.s 89), none⟩,
    ⟨some 91, .int .lss (.s 84) (.s 90), none⟩])
  (.cond (.s 91) .skip
  (.exit 2)))
  (.seq (.block 3 (.reg [⟨some 94, .mv (.s 6), none⟩,
    ⟨some 95, .mv (.s 15), none⟩,
    ⟨some 96, .idx 3 (.s 94) (.s 95), none⟩,
    ⟨some 97, .fld 2 (.s 96), none⟩,
    ⟨some 98, .load false 1 (.s 97), none⟩,
    ⟨some 99, .mv (.s 16), none⟩,
    ⟨some 100, .idx 1 (.s 98) (.s 99), none⟩,
    ⟨some 101, .load false 1 (.s 100), none⟩,
    ⟨some 102, .int .add (.s 101) (.c (.int .u8 1)), none⟩,
    ⟨some 103, .idx 1 (.s 98) (.s 99), none⟩,
    ⟨none, .store 1 (.s 103) (.s 102), none⟩]))
  (.reg [⟨some 92, .mv (.s 16), none⟩,
    ⟨some 93, .int .add (.s 92) (.c (.int .i64 1)), none⟩,
    ⟨some 16, .mv (.s 93), none⟩]))))))
  (.reg [⟨some 104, .mv (.s 6), none⟩,
    ⟨some 105, .mv (.s 15), none⟩,
    ⟨some 106, .idx 3 (.s 104) (.s 105), none⟩,
    ⟨some 107, .fld 0 (.s 106), none⟩,
    ⟨none, .store 1 (.s 107) (.c (.string ⟨#[63]⟩)), none⟩])))
  (.reg [⟨some 82, .mv (.s 15), none⟩,
    ⟨some 83, .int .add (.s 82) (.c (.int .i64 1)), none⟩,
    ⟨some 15, .mv (.s 83), none⟩]))))))
  (.seq (.reg [⟨some 108, .mv (.s 14), none⟩,
    ⟨some 109, .mv (.s 108), none⟩,
    ⟨some 110, .mv (.s 5), (some (109, true))⟩,
    ⟨some 111, .mv (.s 0), (some (109, true))⟩,
    ⟨some 112, .call 160 [(.s 110), (.s 111)], (some (109, true))⟩,
    ⟨some 113, .pick (.s 109) (.s 112) (.c (.bool false)), none⟩,
    ⟨some 114, .mv (.s 113), none⟩,
    ⟨some 115, .call 149 [], (some (114, true))⟩,
    ⟨some 116, .pick (.s 114) (.s 115) (.c (.bool false)), none⟩,
    ⟨some 4, .mv (.s 116), none⟩])
  .ret))))))))))⟩

/-- sumpter/sumpterlaw08.TreeBack -/
def sf226 : SF :=
  ⟨3, 130, [.t 6],
  (.seq (.reg [⟨some 4, .box (some 0) 3 (.s 1), none⟩,
    ⟨some 6, .mv (.c (.bool false)), none⟩])
  (.seq (.seq (.reg [⟨some 19, .mv (.s 0), none⟩,
    ⟨some 20, .call 148 [(.s 19), (.c (.int .i64 60)), (.c (.int .i64 20000))], none⟩,
    ⟨some 21, .not (.s 20), none⟩,
    ⟨some 22, .mv (.s 21), none⟩,
    ⟨some 23, .load true 3 (.s 4), (some (22, false))⟩,
    ⟨some 24, .bslice 3 [(.s 23)], (some (22, false))⟩,
    ⟨some 25, .call 148 [(.s 24), (.c (.int .i64 1)), (.c (.int .i64 20000))], (some (22, false))⟩,
    ⟨some 26, .not (.s 25), (some (22, false))⟩,
    ⟨some 27, .pick (.s 22) (.c (.bool true)) (.s 26), none⟩,
    ⟨some 28, .mv (.s 27), none⟩,
    ⟨some 29, .mv (.s 2), (some (28, false))⟩,
    ⟨some 30, .slen (.s 29), (some (28, false))⟩,
    ⟨some 31, .int .gtr (.s 30) (.c (.int .i64 1000)), (some (28, false))⟩,
    ⟨some 32, .pick (.s 28) (.c (.bool true)) (.s 31), none⟩])
  (.cond (.s 32) (.seq (.reg [⟨some 33, .call 149 [], none⟩,
    ⟨some 6, .mv (.s 33), none⟩])
  .ret)
  .skip))
  (.seq (.reg [⟨some 35, .mv (.s 0), none⟩,
    ⟨some 36, .fld 0 (.s 4), none⟩,
    ⟨some 37, .load false 1 (.s 36), none⟩,
    ⟨some 38, .call 150 [(.s 35), (.s 37)], none⟩,
    ⟨some 34, .mv (.s 38), none⟩,
    ⟨some 39, .ext (.s 34) 0, none⟩,
    ⟨some 40, .ext (.s 34) 1, none⟩,
    ⟨some 7, .alloc (some 1) [.v (.string ⟨#[]⟩), .v (.bool false), .v (.slice none 0 0)], none⟩,
    ⟨none, .store 3 (.s 7) (.s 39), none⟩,
    ⟨some 8, .mv (.s 40), none⟩])
  (.seq (.reg [⟨some 42, .mv (.s 0), none⟩,
    ⟨some 43, .load true 3 (.s 4), none⟩,
    ⟨some 44, .call 156 [(.s 42), (.s 43)], none⟩,
    ⟨some 41, .mv (.s 44), none⟩,
    ⟨some 45, .ext (.s 41) 0, none⟩,
    ⟨some 46, .ext (.s 41) 1, none⟩,
    ⟨some 9, .mv (.s 45), none⟩,
    ⟨some 10, .mv (.s 46), none⟩])
  (.seq (.seq (.reg [⟨some 47, .mv (.s 10), none⟩,
    ⟨some 48, .int .neq (.s 47) (.c (.int .i64 0)), none⟩])
  (.cond (.s 48) (.seq (.reg [⟨some 49, .mv (.s 9), none⟩,
    ⟨some 50, .len (.s 49), none⟩,
    ⟨some 51, .int .eql (.s 50) (.c (.int .i64 0)), none⟩,
    ⟨some 52, .mv (.s 51), none⟩,
    ⟨some 53, .call 149 [], (some (52, true))⟩,
    ⟨some 54, .pick (.s 52) (.s 53) (.c (.bool false)), none⟩,
    ⟨some 6, .mv (.s 54), none⟩])
  .ret)
  .skip))
  (.seq (.reg [⟨some 56, .mv (.s 9), none⟩,
    ⟨some 57, .fld 0 (.s 4), none⟩,
    ⟨some 58, .load false 1 (.s 57), none⟩,
    ⟨some 59, .call 150 [(.s 56), (.s 58)], none⟩,
    ⟨some 55, .mv (.s 59), none⟩,
    ⟨some 60, .ext (.s 55) 0, none⟩,
    ⟨some 61, .ext (.s 55) 1, none⟩,
    ⟨some 11, .alloc (some 2) [.v (.string ⟨#[]⟩), .v (.bool false), .v (.slice none 0 0)], none⟩,
    ⟨none, .store 3 (.s 11) (.s 60), none⟩,
    ⟨some 12, .mv (.s 61), none⟩])
  (.seq (.reg [⟨some 63, .mv (.s 0), none⟩,
    ⟨some 64, .mv (.s 2), none⟩,
    ⟨some 65, .call 150 [(.s 63), (.s 64)], none⟩,
    ⟨some 62, .mv (.s 65), none⟩,
    ⟨some 66, .ext (.s 62) 0, none⟩,
    ⟨some 67, .ext (.s 62) 1, none⟩,
    ⟨some 13, .alloc (some 3) [.v (.string ⟨#[]⟩), .v (.bool false), .v (.slice none 0 0)], none⟩,
    ⟨none, .store 3 (.s 13) (.s 66), none⟩,
    ⟨some 14, .mv (.s 67), none⟩])
  (.seq (.reg [⟨some 69, .mv (.s 9), none⟩,
    ⟨some 70, .mv (.s 2), none⟩,
    ⟨some 71, .call 150 [(.s 69), (.s 70)], none⟩,
    ⟨some 68, .mv (.s 71), none⟩,
    ⟨some 72, .ext (.s 68) 0, none⟩,
    ⟨some 73, .ext (.s 68) 1, none⟩,
    ⟨some 15, .alloc (some 4) [.v (.string ⟨#[]⟩), .v (.bool false), .v (.slice none 0 0)], none⟩,
    ⟨none, .store 3 (.s 15) (.s 72), none⟩,
    ⟨some 16, .mv (.s 73), none⟩])
  (.seq (.seq (.reg [⟨some 74, .mv (.s 12), none⟩,
    ⟨some 75, .not (.s 74), none⟩,
    ⟨some 76, .mv (.s 75), none⟩,
    ⟨some 77, .load true 3 (.s 4), (some (76, false))⟩,
    ⟨some 78, .load true 3 (.s 11), (some (76, false))⟩,
    ⟨some 79, .call 154 [(.s 77), (.s 78)], (some (76, false))⟩,
    ⟨some 80, .not (.s 79), (some (76, false))⟩,
    ⟨some 81, .pick (.s 76) (.c (.bool true)) (.s 80), none⟩,
    ⟨some 82, .mv (.s 81), none⟩,
    ⟨some 83, .mv (.s 9), (some (82, false))⟩,
    ⟨some 84, .call 161 [(.s 83)], (some (82, false))⟩,
    ⟨some 85, .int .neq (.s 84) (.c (.int .i64 0)), (some (82, false))⟩,
    ⟨some 86, .pick (.s 82) (.c (.bool true)) (.s 85), none⟩,
    ⟨some 87, .mv (.s 86), none⟩,
    ⟨some 88, .mv (.s 2), (some (87, false))⟩,
    ⟨some 89, .fld 0 (.s 4), (some (87, false))⟩,
    ⟨some 90, .load false 1 (.s 89), (some (87, false))⟩,
    ⟨some 91, .str .neq (.s 88) (.s 90), (some (87, false))⟩,
    ⟨some 92, .mv (.s 91), (some (87, false))⟩,
    ⟨some 93, .mv (.s 14), (some (92, true))⟩,
    ⟨some 94, .mv (.s 16), (some (92, true))⟩,
    ⟨some 95, .eq .bool true (.s 93) (.s 94), (some (92, true))⟩,
    ⟨some 96, .mv (.s 95), (some (92, true))⟩,
    ⟨some 97, .load true 3 (.s 13), (some (96, false))⟩,
    ⟨some 98, .load true 3 (.s 15), (some (96, false))⟩,
    ⟨some 99, .call 154 [(.s 97), (.s 98)], (some (96, false))⟩,
    ⟨some 100, .not (.s 99), (some (96, false))⟩,
    ⟨some 101, .pick (.s 96) (.c (.bool true)) (.s 100), (some (92, true))⟩,
    ⟨some 102, .pick (.s 92) (.s 101) (.c (.bool false)), (some (87, false))⟩,
    ⟨some 103, .pick (.s 87) (.c (.bool true)) (.s 102), none⟩])
  (.cond (.s 103) (.seq (.reg [⟨some 6, .mv (.c (.bool false)), none⟩])
  .ret)
  .skip))
  (.seq (.seq (.reg [⟨some 104, .mv (.s 8), none⟩])
  (.cond (.s 104) (.seq (.reg [⟨some 105, .mv (.s 9), none⟩,
    ⟨some 106, .len (.s 105), none⟩,
    ⟨some 107, .mv (.s 0), none⟩,
    ⟨some 108, .len (.s 107), none⟩,
    ⟨some 109, .int .eql (.s 106) (.s 108), none⟩,
    ⟨some 110, .mv (.s 109), none⟩,
    ⟨some 111, .call 149 [], (some (110, true))⟩,
    ⟨some 112, .pick (.s 110) (.s 111) (.c (.bool false)), none⟩,
    ⟨some 6, .mv (.s 112), none⟩])
  .ret)
  .skip))
  (.seq (.reg [⟨some 114, .mv (.s 9), none⟩,
    ⟨some 115, .fld 0 (.s 4), none⟩,
    ⟨some 116, .load false 1 (.s 115), none⟩,
    ⟨some 117, .call 158 [(.s 114), (.s 116)], none⟩,
    ⟨some 113, .mv (.s 117), none⟩,
    ⟨some 118, .ext (.s 113) 0, none⟩,
    ⟨some 119, .ext (.s 113) 1, none⟩,
    ⟨some 17, .mv (.s 118), none⟩,
    ⟨some 18, .mv (.s 119), none⟩])
  (.seq (.reg [⟨some 120, .mv (.s 18), none⟩,
    ⟨some 121, .int .eql (.s 120) (.c (.int .i64 0)), none⟩,
    ⟨some 122, .mv (.s 121), none⟩,
    ⟨some 123, .mv (.s 17), (some (122, true))⟩,
    ⟨some 124, .mv (.s 0), (some (122, true))⟩,
    ⟨some 125, .call 162 [(.s 123), (.s 124)], (some (122, true))⟩,
    ⟨some 126, .pick (.s 122) (.s 125) (.c (.bool false)), none⟩,
    ⟨some 127, .mv (.s 126), none⟩,
    ⟨some 128, .call 149 [], (some (127, true))⟩,
    ⟨some 129, .pick (.s 127) (.s 128) (.c (.bool false)), none⟩,
    ⟨some 6, .mv (.s 129), none⟩])
  .ret))))))))))))⟩

/-- sumpter/sumpterlaw08.TreeRises -/
def sf227 : SF :=
  ⟨1, 107, [.t 2],
  (.seq (.reg [⟨some 2, .mv (.c (.bool false)), none⟩])
  (.seq (.seq (.reg [⟨some 8, .mv (.s 0), none⟩,
    ⟨some 9, .call 148 [(.s 8), (.c (.int .i64 60)), (.c (.int .i64 20000))], none⟩,
    ⟨some 10, .not (.s 9), none⟩,
    ⟨some 11, .mv (.s 10), none⟩,
    ⟨some 12, .mv (.s 0), (some (11, false))⟩,
    ⟨some 13, .call 161 [(.s 12)], (some (11, false))⟩,
    ⟨some 14, .int .neq (.s 13) (.c (.int .i64 0)), (some (11, false))⟩,
    ⟨some 15, .pick (.s 11) (.c (.bool true)) (.s 14), none⟩])
  (.cond (.s 15) (.seq (.reg [⟨some 16, .call 149 [], none⟩,
    ⟨some 2, .mv (.s 16), none⟩])
  .ret)
  .skip))
  (.seq (.reg [⟨some 17, .mv (.s 0), none⟩,
    ⟨some 18, .call 152 [(.s 17), (.c (.string ⟨#[]⟩))], none⟩,
    ⟨some 19, .len (.s 18), none⟩,
    ⟨some 3, .mv (.s 19), none⟩])
  (.seq (.seq (.reg [⟨some 4, .mv (.c (.int .i64 0)), none⟩])
  (.block 0 (.loop (.seq (.seq (.reg [⟨some 20, .mv (.s 4), none⟩,
    ⟨some 21, .mv (.s 0), none⟩,
    ⟨some 22, .len (.s 21), none⟩,
    ⟨some 23, .int .lss (.s 20) (.s 22), none⟩])
  (.cond (.s 23) .skip
  (.exit 0)))
  (.seq (.block 1 (.seq (.seq (.dreg [0, 1, 2, 3, 4, 5, 6, 7, 9, 10, 11, 12, 8, 13, 14, 15, 16] [⟨⟨some 26, .mv (.s 4), none⟩, []⟩,
    ⟨⟨some 27, .int .gtr (.s 26) (.c (.int .i64 0)), none⟩, []⟩,
    ⟨⟨some 28, .mv (.s 27), none⟩, []⟩,
    ⟨⟨some 29, .mv (.s 0), (some (28, true))⟩, []⟩,
    ⟨⟨some 30, .mv (.s 4), (some (28, true))⟩, []⟩,
    ⟨⟨some 31, .int .sub (.s 30) (.c (.int .i64 1)), (some (28, true))⟩, []⟩,
    ⟨⟨some 32, .idx 3 (.s 29) (.s 31), (some (28, true))⟩, []⟩,
    ⟨⟨some 33, .fld 0 (.s 32), (some (28, true))⟩, []⟩,
    ⟨⟨some 35, .mv (.s 0), (some (28, true))⟩, []⟩,
    ⟨⟨some 36, .mv (.s 4), (some (28, true))⟩, []⟩,
    ⟨⟨some 37, .idx 3 (.s 35) (.s 36), (some (28, true))⟩, []⟩,
    ⟨⟨some 38, .fld 0 (.s 37), (some (28, true))⟩, []⟩,
    ⟨⟨some 34, .load false 1 (.s 33), (some (28, true))⟩, []⟩,
    ⟨⟨some 39, .load false 1 (.s 38), (some (28, true))⟩, []⟩,
    ⟨⟨some 40, .call 163 [(.s 34), (.s 39)], (some (28, true))⟩, []⟩,
    ⟨⟨some 41, .not (.s 40), (some (28, true))⟩, []⟩,
    ⟨⟨some 42, .pick (.s 28) (.s 41) (.c (.bool false)), none⟩, []⟩])
  (.cond (.s 42) (.seq (.reg [⟨some 2, .mv (.c (.bool false)), none⟩])
  .ret)
  .skip))
  (.seq (.reg [⟨some 44, .mv (.s 0), none⟩,
    ⟨some 45, .mv (.s 0), none⟩,
    ⟨some 46, .mv (.s 4), none⟩,
    ⟨some 47, .idx 3 (.s 45) (.s 46), none⟩,
    ⟨some 48, .fld 0 (.s 47), none⟩,
    ⟨some 49, .load false 1 (.s 48), none⟩,
    ⟨some 50, .call 164 [(.s 49)], none⟩,
    ⟨some 51, .call 150 [(.s 44), (.s 50)], none⟩,
    ⟨some 43, .mv (.s 51), none⟩,
    ⟨some 52, .ext (.s 43) 0, none⟩,
    ⟨some 53, .ext (.s 43) 1, none⟩,
    ⟨some 5, .alloc (some 0) [.v (.string ⟨#[]⟩), .v (.bool false), .v (.slice none 0 0)], none⟩,
    ⟨none, .store 3 (.s 5) (.s 52), none⟩,
    ⟨some 6, .mv (.s 53), none⟩])
  (.seq (.seq (.reg [⟨some 54, .mv (.s 0), none⟩,
    ⟨some 55, .mv (.s 4), none⟩,
    ⟨some 56, .idx 3 (.s 54) (.s 55), none⟩,
    ⟨some 57, .fld 0 (.s 56), none⟩,
    ⟨some 58, .load false 1 (.s 57), none⟩,
    ⟨some 59, .call 164 [(.s 58)], none⟩,
    ⟨some 60, .str .neq (.s 59) (.c (.string ⟨#[]⟩)), none⟩,
    ⟨some 61, .mv (.s 60), none⟩,
    ⟨some 62, .mv (.s 6), (some (61, true))⟩,
    ⟨some 63, .not (.s 62), (some (61, true))⟩,
    ⟨some 64, .mv (.s 63), (some (61, true))⟩,
    ⟨some 65, .fld 1 (.s 5), (some (64, false))⟩,
    ⟨some 66, .load false 1 (.s 65), (some (64, false))⟩,
    ⟨some 67, .not (.s 66), (some (64, false))⟩,
    ⟨some 68, .pick (.s 64) (.c (.bool true)) (.s 67), (some (61, true))⟩,
    ⟨some 69, .pick (.s 61) (.s 68) (.c (.bool false)), none⟩])
  (.cond (.s 69) (.seq (.reg [⟨some 2, .mv (.c (.bool false)), none⟩])
  .ret)
  .skip))
  (.seq (.reg [⟨some 70, .mv (.s 0), none⟩,
    ⟨some 71, .mv (.s 0), none⟩,
    ⟨some 72, .mv (.s 4), none⟩,
    ⟨some 73, .idx 3 (.s 71) (.s 72), none⟩,
    ⟨some 74, .fld 0 (.s 73), none⟩,
    ⟨some 75, .load false 1 (.s 74), none⟩,
    ⟨some 76, .call 152 [(.s 70), (.s 75)], none⟩,
    ⟨some 7, .mv (.s 76), none⟩])
  (.seq (.seq (.reg [⟨some 77, .mv (.s 0), none⟩,
    ⟨some 78, .mv (.s 4), none⟩,
    ⟨some 79, .idx 3 (.s 77) (.s 78), none⟩,
    ⟨some 80, .fld 1 (.s 79), none⟩,
    ⟨some 81, .load false 1 (.s 80), none⟩,
    ⟨some 82, .not (.s 81), none⟩,
    ⟨some 83, .mv (.s 82), none⟩,
    ⟨some 84, .mv (.s 7), (some (83, true))⟩,
    ⟨some 85, .len (.s 84), (some (83, true))⟩,
    ⟨some 86, .int .neq (.s 85) (.c (.int .i64 0)), (some (83, true))⟩,
    ⟨some 87, .pick (.s 83) (.s 86) (.c (.bool false)), none⟩])
  (.cond (.s 87) (.seq (.reg [⟨some 2, .mv (.c (.bool false)), none⟩])
  .ret)
  .skip))
  (.reg [⟨some 88, .mv (.s 3), none⟩,
    ⟨some 89, .mv (.s 7), none⟩,
    ⟨some 90, .len (.s 89), none⟩,
    ⟨some 91, .int .add (.s 88) (.s 90), none⟩,
    ⟨some 3, .mv (.s 91), none⟩])))))))
  (.reg [⟨some 24, .mv (.s 4), none⟩,
    ⟨some 25, .int .add (.s 24) (.c (.int .i64 1)), none⟩,
    ⟨some 4, .mv (.s 25), none⟩]))))))
  (.seq (.reg [⟨some 92, .mv (.s 3), none⟩,
    ⟨some 93, .mv (.s 0), none⟩,
    ⟨some 94, .len (.s 93), none⟩,
    ⟨some 95, .int .eql (.s 92) (.s 94), none⟩,
    ⟨some 96, .mv (.s 95), none⟩,
    ⟨some 97, .mv (.s 0), (some (96, true))⟩,
    ⟨some 98, .call 165 [(.s 97)], (some (96, true))⟩,
    ⟨some 99, .len (.s 98), (some (96, true))⟩,
    ⟨some 100, .mv (.s 0), (some (96, true))⟩,
    ⟨some 101, .len (.s 100), (some (96, true))⟩,
    ⟨some 102, .int .eql (.s 99) (.s 101), (some (96, true))⟩,
    ⟨some 103, .pick (.s 96) (.s 102) (.c (.bool false)), none⟩,
    ⟨some 104, .mv (.s 103), none⟩,
    ⟨some 105, .call 149 [], (some (104, true))⟩,
    ⟨some 106, .pick (.s 104) (.s 105) (.c (.bool false)), none⟩,
    ⟨some 2, .mv (.s 106), none⟩])
  .ret)))))⟩

/-- slices.rotateRight[sumpter/api.Entry] -/
def sf228 : SF :=
  ⟨2, 10, [],
  (.reg [⟨some 4, .mv (.s 0), none⟩,
    ⟨some 5, .mv (.s 0), none⟩,
    ⟨some 6, .len (.s 5), none⟩,
    ⟨some 7, .mv (.s 1), none⟩,
    ⟨some 8, .int .sub (.s 6) (.s 7), none⟩,
    ⟨some 9, .call 198 [(.s 4), (.s 8)], none⟩])⟩

/-- sumpter/sumpterlaw08.two -/
def sf232 : SF :=
  ⟨0, 6, [.t 0],
  (.seq (.reg [⟨some 0, .mv (.c (.slice none 0 0)), none⟩])
  (.seq (.reg [⟨some 1, .build [.v (.string ⟨#[]⟩), .v (.bool false), .v (.slice none 0 0)] [(0, 1, (.c (.string ⟨#[97]⟩))), (1, 1, (.c (.bool true)))], none⟩,
    ⟨some 2, .hop (.bsl 1) [(.c (.int .u8 120))], none⟩,
    ⟨some 3, .hop .mark [(.s 2)], none⟩,
    ⟨some 4, .build [.v (.string ⟨#[]⟩), .v (.bool false), .v (.slice none 0 0)] [(0, 1, (.c (.string ⟨#[97, 47, 98]⟩))), (2, 1, (.s 3))], none⟩,
    ⟨some 5, .bslice 3 [(.s 1), (.s 4)], none⟩,
    ⟨some 0, .mv (.s 5), none⟩])
  .ret))⟩

def sfTab : List (Nat × SF) := [(148, sf148), (149, sf149), (150, sf150), (151, sf151), (152, sf152), (153, sf153), (154, sf154), (155, sf155), (156, sf156), (157, sf157), (158, sf158), (159, sf159), (160, sf160), (161, sf161), (162, sf162), (163, sf163), (164, sf164), (165, sf165), (166, sf166), (167, sf167), (168, sf168), (169, sf169), (170, sf170), (171, sf171), (172, sf172), (173, sf173), (174, sf174), (175, sf175), (176, sf176), (177, sf177), (178, sf178), (179, sf179), (180, sf180), (181, sf181), (182, sf182), (183, sf183), (184, sf184), (185, sf185), (186, sf186), (187, sf187), (188, sf188), (189, sf189), (190, sf190), (191, sf191), (192, sf192), (193, sf193), (194, sf194), (195, sf195), (196, sf196), (197, sf197), (198, sf198), (199, sf199), (200, sf200), (201, sf201), (202, sf202), (203, sf203), (204, sf204), (205, sf205), (206, sf206), (208, sf208), (209, sf209), (210, sf210), (211, sf211), (212, sf212), (214, sf214), (218, sf218), (219, sf219), (221, sf221), (224, sf224), (225, sf225), (226, sf226), (227, sf227), (228, sf228), (232, sf232)]
def code (g : Nat) : SF := (lk sfTab g).getD ⟨0, 0, [], .skip⟩

theorem code148 : code 148 = sf148 := rfl
theorem code149 : code 149 = sf149 := rfl
theorem code150 : code 150 = sf150 := rfl
theorem code151 : code 151 = sf151 := rfl
theorem code152 : code 152 = sf152 := rfl
theorem code153 : code 153 = sf153 := rfl
theorem code154 : code 154 = sf154 := rfl
theorem code155 : code 155 = sf155 := rfl
theorem code156 : code 156 = sf156 := rfl
theorem code157 : code 157 = sf157 := rfl
theorem code158 : code 158 = sf158 := rfl
theorem code159 : code 159 = sf159 := rfl
theorem code160 : code 160 = sf160 := rfl
theorem code161 : code 161 = sf161 := rfl
theorem code162 : code 162 = sf162 := rfl
theorem code163 : code 163 = sf163 := rfl
theorem code164 : code 164 = sf164 := rfl
theorem code165 : code 165 = sf165 := rfl
theorem code166 : code 166 = sf166 := rfl
theorem code167 : code 167 = sf167 := rfl
theorem code168 : code 168 = sf168 := rfl
theorem code169 : code 169 = sf169 := rfl
theorem code170 : code 170 = sf170 := rfl
theorem code171 : code 171 = sf171 := rfl
theorem code172 : code 172 = sf172 := rfl
theorem code173 : code 173 = sf173 := rfl
theorem code174 : code 174 = sf174 := rfl
theorem code175 : code 175 = sf175 := rfl
theorem code176 : code 176 = sf176 := rfl
theorem code177 : code 177 = sf177 := rfl
theorem code178 : code 178 = sf178 := rfl
theorem code179 : code 179 = sf179 := rfl
theorem code180 : code 180 = sf180 := rfl
theorem code181 : code 181 = sf181 := rfl
theorem code182 : code 182 = sf182 := rfl
theorem code183 : code 183 = sf183 := rfl
theorem code184 : code 184 = sf184 := rfl
theorem code185 : code 185 = sf185 := rfl
theorem code186 : code 186 = sf186 := rfl
theorem code187 : code 187 = sf187 := rfl
theorem code188 : code 188 = sf188 := rfl
theorem code189 : code 189 = sf189 := rfl
theorem code190 : code 190 = sf190 := rfl
theorem code191 : code 191 = sf191 := rfl
theorem code192 : code 192 = sf192 := rfl
theorem code193 : code 193 = sf193 := rfl
theorem code194 : code 194 = sf194 := rfl
theorem code195 : code 195 = sf195 := rfl
theorem code196 : code 196 = sf196 := rfl
theorem code197 : code 197 = sf197 := rfl
theorem code198 : code 198 = sf198 := rfl
theorem code199 : code 199 = sf199 := rfl
theorem code200 : code 200 = sf200 := rfl
theorem code201 : code 201 = sf201 := rfl
theorem code202 : code 202 = sf202 := rfl
theorem code203 : code 203 = sf203 := rfl
theorem code204 : code 204 = sf204 := rfl
theorem code205 : code 205 = sf205 := rfl
theorem code206 : code 206 = sf206 := rfl
theorem code208 : code 208 = sf208 := rfl
theorem code209 : code 209 = sf209 := rfl
theorem code210 : code 210 = sf210 := rfl
theorem code211 : code 211 = sf211 := rfl
theorem code212 : code 212 = sf212 := rfl
theorem code214 : code 214 = sf214 := rfl
theorem code218 : code 218 = sf218 := rfl
theorem code219 : code 219 = sf219 := rfl
theorem code221 : code 221 = sf221 := rfl
theorem code224 : code 224 = sf224 := rfl
theorem code225 : code 225 = sf225 := rfl
theorem code226 : code 226 = sf226 := rfl
theorem code227 : code 227 = sf227 := rfl
theorem code228 : code 228 = sf228 := rfl
theorem code232 : code 232 = sf232 := rfl

end Sm
